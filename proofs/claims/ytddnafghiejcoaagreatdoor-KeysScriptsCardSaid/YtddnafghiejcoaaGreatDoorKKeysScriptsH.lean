/-
  Parts of the proof of KeysScripts.
-/
import Derived.Test.YtddnafghiejcoaaGreatDoorKKeysScriptsG
set_option linter.unusedVariables false
set_option linter.unusedSimpArgs false
namespace Go.Proofs.YtddnafghiejcoaaGreatDoor
open Go.bh Go.Keys Go.Lib
set_option maxRecDepth 1000000
theorem SB{t:Bytes}{n m:Nat}(h:n+m<=t.length):ec (a'.D env) 9 (.str t) (some (.int .i64 (n:Nat))) (some (.int .i64 ((n:Int)+(m:Nat)))) none=some (.str ((t.drop n).take m)):=by
 have a:(a'.D env 9).map (λd=>d.kind)=some .string:= ar;obtain⟨x,aa,h2⟩:=b4.1 a;have e:(n:Int)+(m:Nat)=((n+m:Nat):Int):= V;unfold ec;rw [aa,e];simp only [h2];have cq:eh (some (.int .i64 ((n+m:Nat):Int))) t.length t.length=some (n+m):=by simp [eh];omega
 have cn:eh (some (.int .i64 (n:Nat))) 0 (n+m)=some n:=by simp [eh];omega
 simp only [cq,cn];rw [List.drop_take,show n+m-n=m by omega];rfl
theorem Bb{s:Bytes}(H:T):bu 91 [.str s] H (.str (s.take 65536)) H:=by
 refine bl.cm (Sm s (s.take 65536) (λv _=>v=.str (s.take 65536)) ⟨?_,rfl⟩) rfl rfl H;by_cases h:65536<s.length
 .rw [aE V];exact(ls (t:=s) (n:=65536) V).1
 .rw [ap V,kX V];have:=(ls (t:=s) (n:=s.length) (Nat.le_refl _)).1
  rwa [jH]at this
abbrev kN(s:Bytes)(k:Nat)(i:J):a8:=[(0,.ptr (some ⟨0,0,0,0,3⟩)),(1,.str s),(4,.ptr (some ⟨k,0,0,0,6⟩)),(7,i)]
abbrev jx(s:Bytes)(i:J):a8:=[(0,.ptr (some ⟨0,0,0,0,3⟩)),(1,.str s),(4,.ptr (some ⟨50,0,0,0,6⟩)),(9,i)]
abbrev z0:ac:=cR (cV 0 0 0 0 0 [])
theorem kO(k:Bytes)(n:Bool)(t:Bytes):cj (cz k n t):=by intro e he;rw [cC.1 he];exact ci.of rfl
theorem o8(x:J)(a:x.je=true):cj (cR x):=by intro e he;rw [cC.1 he];exact ci.of a
theorem SC(A B:ac):T.rows 60 [(0,A),(50,B)]=T.af 60 [(0,A),(50,B)]:= ar
theorem HS(A B:ac):T.rows 90 [(0,A),(50,B)]=T.af 90 [(0,A),(50,B)]:= ar
theorem te{A B:ac}(a:cj A)(b:cj B):a7 ([(0,A),(50,B)].map λp:Nat×ac=> ∀e∈p.2.aQ,bQ (Go.bh.bO ([(0,A),(50,B)].map (·.1))) e) :=
 a7.cons (λe he=>(a e he).dh _) (a7.cons (λe he=>(b e he).dh _) a7.nil)
theorem HT{s:Bytes}{i:Int}{h:T}{A B:ac}(a:cj A)(b:cj B)(aN:h.get 0=some A)(c:h.get 50=some B):b5 1 80 (kN s 50 (.int .i64 i)) h (kN s 50 (.int .i64 i)) (T.rows 60 [(0,A),(50,B)]):=by
 refine b5.move (K:=60) (l:=[(0,A),(50,B)]) id ?_ rfl ?_ rfl rfl ?_ rfl ?_ (te a b)
 .simp [aN,c,a.aK,b.aK]
 .simp
 .simp [J.aK,aT.aK]
 .exact a7.cons (lA an) (a7.cons trivial (a7.cons (lA an) (a7.cons trivial a7.nil)))
theorem HU{s:Bytes}{A:ac}(a:cj A):b5 1 80 [(0,.ptr (some ⟨0,0,0,0,3⟩)),(1,.str s),(4,.ptr (some ⟨1,0,0,0,6⟩)),(5,.str []),(6,.bool false),(7,.int .i64 0)] (T.af 5 [(0,A),(1,z0)]) (kN s 50 (.int .i64 0)) (T.rows 60 [(0,A),(50,z0)]):=by
 have b:cj z0:=o8 _ rfl;refine b5.trans (G:=kN s 1 (.int .i64 0)) (g:=T.af 5 [(0,A),(1,z0)]) (b5.facts ?_) ?_
 .exact a8.nj [(0,.ptr (some ⟨0,0,0,0,3⟩)),(1,.str s),(4,.ptr (some ⟨1,0,0,0,6⟩)),(5,.str []),(6,.bool false),(7,.int .i64 0)] [0,1,4,7]
 .refine b5.move (K:=60) (l:=[(0,A),(50,z0)]) (λi=>if i=50 then 1 else i) ?_ rfl ?_ rfl rfl ?_ rfl ?_ (te a b)
  .have g0:(T.af 5 [(0,A),(1,z0)]).get 0=some A:=rfl;have g1:(T.af 5 [(0,A),(1,z0)]).get 1=some z0:=rfl;simp [g0,g1,a.aK,b.aK]
  .simp
  .simp [J.aK,aT.aK]
  .exact a7.cons (lA an) (a7.cons trivial (a7.cons (lA an) (a7.cons trivial a7.nil)))
theorem Bc{s:Bytes}{i:J}(ah:i.je=true){h:T}{A B:ac}(a:cj A)(b:cj B)(aN:h.get 0=some A)(d:h.get 50=some B):b5 1 80 (jx s i) h (jx s i) (T.rows 60 [(0,A),(50,B)])/\b5 1 80 (jx s i) h (jx s i) (T.rows 90 [(0,A),(50,B)]):=by
 have cL:i.aK id=i:=(ci.of ah).1 id;have al:∀K,bQ K i:=λK=>(ci.of ah).dh K
 have e:∀r,r=id->jx s i=(jx s i).map λp=>(p.1,p.2.aK r):=by rintro _ rfl;simp [J.aK,aT.aK,cL]
 have c:a7 ((jx s i).map λp=>bQ (Go.bh.bO ([(0,A),(50,B)].map (·.1))) p.2):=a7.cons (lA an) (a7.cons trivial (a7.cons (lA an) (a7.cons (al _) a7.nil)));constructor
 .exact b5.move (K:=60) (l:=[(0,A),(50,B)]) id (by simp [aN,d,a.aK,b.aK]) rfl an rfl rfl (e _ rfl) rfl c (te a b)
 .exact b5.move (K:=90) (l:=[(0,A),(50,B)]) id (by simp [aN,d,a.aK,b.aK]) rfl an rfl rfl (e _ rfl) rfl c (te a b)
theorem HV(x:Bytes):List.isPrefixOf c6 x=true↔x.take 6=c6:=by rw [kk,tD];exact eq_comm
theorem HW{s k t:Bytes}(hs:s.length<2^40)(x:t.length<2^40):∀(m i:Nat),s.length-i<=m->i<=s.length ->
 (fQ i (s.drop i)=none/\∃j:Int,dl 1 80 (br 61 0) (kN s 50 (.int .i64 (i:Nat))) (T.rows 60 [(0,cz k true t),(50,z0)]) (.exit 0) (kN s 50 (.int .i64 j)) (T.rows 60 [(0,cz k true t),(50,z0)])) \/
 (∃q,fQ i (s.drop i)=some q/\q+6<=s.length/\dl 1 80 (br 61 0) (kN s 50 (.int .i64 (i:Nat))) (T.rows 60 [(0,cz k true t),(50,z0)]) .ret [(4,.ptr (some ⟨50,0,0,0,6⟩)),(5,.str (s.drop (q+6))),(6,.bool true)] (T.rows 90 [(0,cz k false []),(50,cR (bi (hP ((t++s.take q).take 65536))))])):=by
 have stop:∀i,i<=s.length-> ¬i+6<=s.length->fQ i (s.drop i)=none/\∃j:Int,dl 1 80 (br 61 0) (kN s 50 (.int .i64 (i:Nat))) (T.rows 60 [(0,cz k true t),(50,z0)]) (.exit 0) (kN s 50 (.int .i64 j)) (T.rows 60 [(0,cz k true t),(50,z0)]):=by
  intro i ah b;refine⟨A' _ _ λq v=> ?_,(i:Nat),?_⟩
  .have:=wU _ v;simp only [ep]at this;omega
  .obtain⟨e,F,h,a,rfl,rfl,g0,g5⟩:=HN s [] k t i (λe F h=>e=.exit 0/\F=kN s 50 (.int .i64 (i:Nat))/\h.get 0=some (cz k true t)/\h.get 50=some z0) ⟨⟨V,V⟩,λh=>absurd h V,λ_=>⟨rfl,rfl,rfl,rfl⟩⟩;exact bX.last an (a.post (HT (kO _ _ _) (o8 _ rfl) g0 g5))
 intro m;induction m with
 |zero =>
  intro i hm ah;exact .inl (stop i ah V)
 |succ m ih =>
  intro i hm ah;by_cases b:i+6<=s.length
  .have o:s.drop i=s[i]' V ::s.drop (i+1):=iS V;have f:=SB (t:=s) (n:=i) (m:=6) V;by_cases ae:List.isPrefixOf c6 (s.drop i)=true
   .right;have hw:=(HV _).1 ae
    have c:fQ i (s.drop i)=some i:=by rw [o]at ae⊢;unfold fQ;rw [aE ae]
    refine⟨i,c,b,?_⟩;rw [hw]at f
    obtain⟨e,F,h,a,rfl,rfl,g0,g5⟩:=So s c6 k t (s.take i) ((t++s.take i).take 65536) (s.drop (i+6)) i (λe F h=>e=.ret/\F=[(0,.ptr (some ⟨0,0,0,0,3⟩)),(1,.str s),(4,.ptr (some ⟨50,0,0,0,6⟩)),(5,.str (s.drop (i+6))),(6,.bool true),(7,.int .i64 (i:Nat))]/\h.get 0=some (cz k false [])/\h.get 50=some (cR (bi (hP ((t++s.take i).take 65536)))))
     ⟨⟨V,V⟩,λ_=>⟨⟨V,V⟩,f,rfl,(ls V).1,by
       show Nat.succ (t.length+(s.take i).length)<=2^62
       rw [kl];omega,⟨Bb _⟩,rfl,λh=>⟨Bb h⟩,⟨V,V⟩,(ls (t:=s) (n:=i+6) b).2,rfl,rfl,rfl,rfl⟩,λh=>absurd h V⟩
    refine bX.last an (a.post (b5.trans (G:=[(4,.ptr (some ⟨50,0,0,0,6⟩)),(5,.str (s.drop (i+6))),(6,.bool true)]) (g:=h) (b5.facts (a8.nj [(0,.ptr (some ⟨0,0,0,0,3⟩)),(1,.str s),(4,.ptr (some ⟨50,0,0,0,6⟩)),(5,.str (s.drop (i+6))),(6,.bool true),(7,.int .i64 (i:Nat))] [4,5,6])) ?_));have p:=kO k false [];have r:cj (cR (bi (hP ((t++s.take i).take 65536)))):=o8 _ rfl;refine b5.move (K:=90) (l:=[(0,cz k false []),(50,cR (bi (hP ((t++s.take i).take 65536))))]) id ?_ rfl ?_ rfl rfl ?_ rfl ?_ (te p r)
    .simp only [eF,jE,id,g0,g5,p.aK,r.aK]
    .simp
    .simp [J.aK,aT.aK]
    .exact a7.cons (lA an) (a7.cons trivial (a7.cons trivial a7.nil))
   .have c:fQ i (s.drop i)=fQ (i+1) (s.drop (i+1)):=by
     rw [o]at ae⊢
     conv=>lhs;unfold fQ
     rw [ap ae]
    rw [c]
    have u:((s.drop i).take 6 == c6)=false:=by rw [od];exact λq=>ae ((HV _).2 q)
    obtain⟨e,F,h,a,rfl,rfl,g0,g5⟩:=HN s ((s.drop i).take 6) k t i (λe F h=>e=.normal/\F=kN s 50 (.int .i64 ((i:Int)+1))/\h.get 0=some (cz k true t)/\h.get 50=some z0) ⟨⟨V,V⟩,λ_=>⟨⟨V,V⟩,f,by
     show some (J.bool ((s.drop i).take 6 == c6))=_
     rw [u],⟨V,V⟩,rfl,rfl,rfl,rfl⟩,λh=>absurd h V⟩
    have w:(i:Int)+1=((i+1:Nat):Int):= V;rw [w]at a;have he:=HT (s:=s) (i:=((i+1:Nat):Int)) (kO k true t) (o8 _ rfl) g0 g5;rcases ih (i+1) V V with ⟨aa,j,d⟩|⟨q,aa,h2,d⟩
    .exact .inl ⟨aa,j,bX.step (a.post he) d⟩
    .exact .inr ⟨q,aa,h2,bX.step (a.post he) d⟩
  .exact .inl (stop i ah b)
theorem SD{s k t:Bytes}(hs:s.length<2^40):∀(m:Nat),m<=s.length->m<=5 ->
 dl 1 80 (br 61 1) (jx s (.int .i64 (m:Nat))) (T.rows 60 [(0,cz k true t),(50,z0)]) (.exit 2) (jx s (.int .i64 (gr s m:Nat))) (T.rows 90 [(0,cz k true t),(50,z0)]):=by
 have ez:∀m,m<=s.length->ec (a'.D env) 9 (.str s) (some (.int .i64 ((s.length:Int)- (m:Nat)))) none none=some (.str (s.drop (s.length-m))):=λm hm=>by rw [show(s.length:Int)- (m:Nat)=((s.length-m:Nat):Int)by omega];exact(ls V).2
 have bA:∀m,m<=5->ec (a'.D env) 9 (.str [27,91,50,48,49,126]) none (some (.int .i64 (m:Nat))) none=some (.str (c6.take m)):=λm hm=>(ls (t:=c6) (by show m<=6;omega)).1
 have last:∀m,m<=s.length->m<=5->s.drop (s.length-m)=c6.take m->dl 1 80 (br 61 1) (jx s (.int .i64 (m:Nat))) (T.rows 60 [(0,cz k true t),(50,z0)]) (.exit 2) (jx s (.int .i64 (m:Nat))) (T.rows 90 [(0,cz k true t),(50,z0)]):=by intro m hm a he;obtain⟨e,F,h,b,rfl,rfl,g0,g5⟩:=HP s (s.drop (s.length-m)) (c6.take m) k t m (λe F h=>e=.exit 2/\F=jx s (.int .i64 (m:Nat))/\h.get 0=some (cz k true t)/\h.get 50=some z0) ⟨⟨V,V⟩,ez m hm,bA m a,λ_=>⟨rfl,rfl,rfl,rfl⟩,λh=>absurd he h⟩;exact bX.last an (b.post (Bc rfl (kO _ _ _) (o8 _ rfl) g0 g5).2)
 intro m;induction m with
 |zero =>
  intro hm a;exact last 0 hm a an
 |succ m ih =>
  intro hm a;unfold gr;by_cases he:s.drop (s.length- (m+1))=c6.take (m+1)
  .rw [aE he];exact last (m+1) hm a he
  .rw [ap he];obtain⟨e,F,h,b,rfl,rfl,g0,g5⟩:=HP s (s.drop (s.length- (m+1))) (c6.take (m+1)) k t (m+1) (λe F h=>e=.normal/\F=jx s (.int .i64 (((m+1:Nat):Int)-1))/\h.get 0=some (cz k true t)/\h.get 50=some z0) ⟨⟨V,V⟩,ez (m+1) hm,bA (m+1) a,λh=>absurd h he,λ_=>⟨⟨V,V⟩,rfl,rfl,rfl,rfl⟩⟩;rw [show((m+1:Nat):Int)-1=(m:Nat)by omega]at b;exact bX.step (b.post (Bc rfl (kO _ _ _) (o8 _ rfl) g0 g5).1) (ih V V)
structure e3(H:T)(col:Nat->Nat)(c d:Nat)(k:Bytes)(n:Bool)(t:Bytes):Prop where
 lt:d<H.Y
 get:H.get d=some (cz k n t)
 col:col d=c
theorem e3.aJ{H H':T}{col bg:Nat->Nat}{c d:Nat}{k:Bytes}{n:Bool}{t:Bytes}{L:List Nat}(h:e3 H col c d k n t)(m:bs H H' col bg L)(al:c ∉ L):e3 H' bg c d k n t:=by have az:=m.Y;have a:=h.col;exact⟨by have:=h.lt;omega,by rw [m.get d h.lt (by rw [a];exact al)];exact h.get,by rw [m.col d h.lt (by rw [a];exact al)];exact a⟩
theorem e3.place{H:T}{col:Nat->Nat}{c d:Nat}{k s:Bytes}{n n2:Bool}{t t2:Bytes}{f:FuncId}{args:List J}{v:J}{ad:T}(g:e3 H col c d k n t)(u:bu f (.ptr (some ⟨0,0,0,0,3⟩)::args) (T.of [cz k n t]) v ad)(az:1<=ad.Y)(o:∀a∈args,ci a)(ag:ad.get 0=some (cz s n2 t2)) :
 ∃H',bu f (.ptr (some ⟨d,0,0,0,3⟩)::args) H (v.aK (cK [d] H.Y)) H'/\e3 H' col c d s n2 t2/\bs H H' col col [c]/\(∀i b,ad.get i=some b->H'.get (cK [d] H.Y i)=some (b.aK (cK [d] H.Y)))/\H'.Y=H.Y+(ad.Y-1):=by
 obtain⟨H',p,y,q,z⟩:=u.place az (λb m=>by rw [cC.1 m];exact(kO _ _ _).dh _) ⟨by show 0<1;decide,by
  have:∀l:List J,(∀a∈l,ci a)->dI (λi=>i<1) l:=by
   intro l;induction l with
   |nil=>intro _;exact trivial
   |cons a r ih=>intro h;exact⟨(h a an).dh _,ih λb m=>h b (by simp [m])⟩
  exact this args o⟩ (H:=H) [d] an (λj w=>by rw [cC.1 w];exact g.lt) rfl (λi b h=>by
   have ah:i=0:=by have:=(dT.1 h).1;simpa using this
   subst ah;simp only [fe,a6]at h;subst h;rw [(kO _ _ _).aK]
   exact g.get)
 have hm:args.map (J.aK (cK [d] H.Y))=args:=by rw [jF (g:=id) (λa h=>(o a h).1 _)];simp
 have e0:cK [d] H.Y 0=d:=rfl;refine⟨H',?_,⟨by have:=g.lt;omega,?_,g.col⟩,⟨V,λx A al=>z x A (λe=>al (by rw [cC.1 e,g.col];simp)),λ_ _ _=>rfl⟩,q,y⟩
 .simp only [eF,hm,J.aK,aT.aK,e0]at p;exact p
 .have:=q 0 _ ag;rw [(kO _ _ _).aK,e0]at this;exact this
theorem SE{H:T}{col:Nat->Nat}{c d:Nat}{k t s:Bytes}{q:Nat}(g:e3 H col c d k true t)(hs:s.length<2^40)(n:t.length<2^40)(m:fQ 0 s=some q) :
 ∃H',bu 61 [.ptr (some ⟨d,0,0,0,3⟩),.str s] H (.tuple [bi (hP ((t++s.take q).take 65536)),.str (s.drop (q+6)),.bool true]) H'/\e3 H' col c d k false []/\bs H H' col col [c]:=by
 have b:=HW (k:=k) (t:=t) hs n s.length 0 V V;rw [oa,m]at b;rcases b with ⟨h,_⟩|⟨o,aa,h2,b⟩
 .cases h
 .obtain rfl:q=o:=qT aa;have e:=(cZ.dJ b).pre (HU (s:=s) (kO k true t));rw [HS]at e;obtain⟨v,ad,j,rfl,ag,az⟩:=Sp s k t k [] (s.drop (q+6)) ((t++s.take q).take 65536) false (λv ad=>v=.tuple [bi (hP ((t++s.take q).take 65536)),.str (s.drop (q+6)),.bool true]/\ad.get 0=some (cz k false [])/\1<=ad.Y) ⟨e,rfl,rfl,by show 1<=90;decide⟩;obtain⟨H',l,f,aJ,_,_⟩:=g.place j az (by intro a i;rw [cC.1 i];exact ci.of rfl) ag;exact⟨H',l,f,aJ⟩
theorem SF{H:T}{col:Nat->Nat}{c d:Nat}{k t s:Bytes}(g:e3 H col c d k true t)(hs:s.length<2^40)(w:t.length<2^40)(u:fQ 0 s=none) :
 ∃H',bu 61 [.ptr (some ⟨d,0,0,0,3⟩),.str s] H (.tuple [bi gS,.str (s.drop (s.length-gr s (min s.length 5))),.bool false]) H'/\e3 H' col c d k true ((t++s.take (s.length-gr s (min s.length 5))).take 65536)/\bs H H' col col [c]:=by
 have b:=HW (k:=k) (t:=t) hs w s.length 0 V V;rw [oa,u]at b;rcases b with ⟨_,j,b⟩|⟨x,aa,h2,b⟩
 .have f:=(cZ.dJ b).pre (HU (s:=s) (kO k true t));rw [SC]at f;have tl:=SD (k:=k) (t:=t) hs (min s.length 5) V V;have r:(if 5<(s.length:Int)then(5:Int)else(s.length:Int))=((min s.length 5:Nat):Int):=by split<;>omega
  have l:=(cZ.dJ tl).pre (Bc (i:= .int .i64 ((min s.length 5:Nat):Int)) rfl (kO k true t) (o8 _ rfl) (h:=T.af 64 [(0,cz k true t),(50,z0)]) rfl rfl).1;rw [HS,<-r]at l
  have y:gr s (min s.length 5)<=s.length:=by
   have:∀m,gr s m<=m:=by
    intro m;induction m with
    |zero=>exact Nat.le_refl _
    |succ m ih=>unfold gr;split<;>omega
   have:=this (min s.length 5);omega
  generalize gr s (min s.length 5)=z at *;have e:(s.length:Int)- (z:Nat)=((s.length-z:Nat):Int):= V
  obtain⟨v,ad,p,rfl,ag,az⟩:=Sq s k t (s.take (s.length-z)) ((t++s.take (s.length-z)).take 65536) (s.drop (s.length-z)) (.int .i64 j) z (λv ad=>v=.tuple [bi gS,.str (s.drop (s.length-z)),.bool false]/\ad.get 0=some (cz k true ((t++s.take (s.length-z)).take 65536))/\1<=ad.Y)
   ⟨f,l,⟨V,V⟩,by rw [e];exact(ls V).1,by
    show Nat.succ (t.length+(s.take (s.length-z)).length)<=2^62
    rw [kl];omega,⟨Bb _⟩,⟨V,V⟩,by rw [e];exact(ls V).2,rfl,rfl,by show 1<=116;decide⟩
  obtain⟨H',q,n,aJ,_,_⟩:=g.place p az (by intro a o;rw [cC.1 o];exact ci.of rfl) ag;exact⟨H',q,n,aJ⟩
 .cases aa
structure iI(H:T)(col:Nat->Nat)(c:Nat)(v:J)(es:List aP):Prop where
 ex:(v=.slice none 0 0/\es=[])\/(es≠[]/\∃o,o<H.Y/\col o=c/\∃ab B,v=.slice (some ⟨o,ab,0,0,6⟩) es.length es.length/\H.get o=some B/\cj B/\∀(j:Nat)(h:j<es.length),B.elem? ab j=some (bi es[j]))
theorem iI.aJ{H H':T}{col bg:Nat->Nat}{c:Nat}{v:J}{es:List aP}{L:List Nat}(h:iI H col c v es)(m:bs H H' col bg L)(al:c ∉ L):iI H' bg c v es:=by
 rcases h.ex with h|⟨aa,o,h2,a,ab,B,b,d,e,f⟩
 .exact⟨.inl h⟩
 .have az:=m.Y;exact⟨.inr ⟨aa,o,V,by rw [m.col o h2 (by rw [a];exact al)];exact a,ab,B,b,by rw [m.get o h2 (by rw [a];exact al)];exact d,e,f⟩⟩
theorem c1.kw{H:T}{col:Nat->Nat}{c:Nat}{v:J}{es:List aP}(h:c1 H col c 6 ek v (es.map bi)):iI H col c v es:=by
 rcases h.ex with ⟨aa,h2⟩|⟨aa,o,h2,g,ab,m,f,a,i⟩
 .exact⟨.inl ⟨aa,by simpa using h2⟩⟩
 .refine⟨.inr ⟨by simpa using aa,o,h2,g,ab,_,by rw [gy]at a;exact a,i,lh (λe he=> ?_) _ _ _ _ _,λj d=> ?_⟩⟩
  .obtain⟨b,_,rfl⟩:=dz.1 he;exact vp b
  .unfold ac.elem?;rw [aE (by simpa [ac.b0]using d)];simp [d]
theorem e3.flush{H:T}{col:Nat->Nat}{c c2 d:Nat}{k t:Bytes}{n:Bool}(g:e3 H col c d k n t) :
 ∃H' v bg,bu 32 [.ptr (some ⟨d,0,0,0,3⟩)] H v H'/\e3 H' bg c d (if n=true then k else []) n t /\
  iI H' bg c2 v (if n=true\/k=[]then []else [if k=[27]then cY 4 else if k=[27,91]then dq 91 2 else if k=[27,79]then dq 79 2 else cQ k])/\bs H H' col bg [c]:=by
 have A:∀(ad:T)(e:aP)(i:Nat),1<=i->i<ad.Y->bu 32 [.ptr (some ⟨0,0,0,0,3⟩)] (T.of [cz k n t]) (.slice (some ⟨i,0,0,0,6⟩) 1 1) ad->ad.get 0=some (cz [] n t)->ad.get i=some (ac.aj [bi e] 6 true) ->
  ∃H' v bg,bu 32 [.ptr (some ⟨d,0,0,0,3⟩)] H v H'/\e3 H' bg c d [] n t/\iI H' bg c2 v [e]/\bs H H' col bg [c]:=by
  intro ad e i ah C f ag o;obtain⟨H',m,l,aJ,u,D⟩:=g.place (args:=[]) f V (by intro a b;cases b) ag;have s:cj (ac.aj [bi e] 6 true):=by intro a b;rw [cC.1 b];exact vp e
  have h2:=u i _ o;rw [s.aK]at h2;have r:cK [d] H.Y i=H.Y+(i-1):=by rw [la (by simpa using ah)];rfl
  rw [r]at h2;have y:H.Y+(i-1)<H'.Y:= V;refine⟨H',.slice (some ⟨H.Y+(i-1),0,0,0,6⟩) 1 1,λx=>if x=H.Y+(i-1)then c2 else col x,?_,⟨l.lt,l.get,?_⟩,⟨.inr ⟨an,H.Y+(i-1),y,an,0,_,rfl,h2,s,λj w=> ?_⟩⟩,⟨aJ.Y,aJ.get,λx E _=> ?_⟩⟩
  .simpa only [J.aK,aT.aK,ev,r]using m
  .show(if d=_ then _ else _)=_;rw [ap (by have:=g.lt;omega)];exact g.col
  .simp only [hk]at w;obtain rfl:j=0:= V;rfl
  .show(if x=_ then _ else _)=_;rw [ap V]
 cases n with
 |true =>
  obtain⟨v,ad,f,rfl,ag,az⟩:=Sr k t (λv ad=>v=.slice none 0 0/\ad.get 0=some (cz k true t)/\1<=ad.Y) ⟨rfl,rfl,by show 1<=18;decide⟩;obtain⟨H',m,l,aJ,_,_⟩:=g.place (args:=[]) f az (by intro a b;cases b) ag;exact⟨H',_,col,m,l,⟨.inl ⟨rfl,rfl⟩⟩,aJ⟩
 |false =>
  by_cases p:k=[]
  .subst p;obtain⟨v,ad,f,rfl,ag,az⟩:=Ss t (λv ad=>v=.slice none 0 0/\ad.get 0=some (cz [] false t)/\1<=ad.Y) ⟨rfl,rfl,by show 1<=18;decide⟩;obtain⟨H',m,l,aJ,_,_⟩:=g.place (args:=[]) f az (by intro a b;cases b) ag;exact⟨H',_,col,m,l,⟨.inl ⟨rfl,rfl⟩⟩,aJ⟩
  .rw [ap an,ap (by simp [p])];have z:some (J.bool (k ==[]))=some (J.bool false):=by rw [q2 p]
   obtain⟨v,ad,f,i,aa,h2,rfl,ag,o⟩:=Su k t (λv ad=> ∃i,1<=i/\i<ad.Y/\v=.slice (some ⟨i,0,0,0,6⟩) 1 1/\ad.get 0=some (cz [] false t)/\ad.get i=some (ac.aj [bi (if k=[27]then cY 4 else if k=[27,91]then dq 91 2 else if k=[27,79]then dq 79 2 else cQ k)] 6 true))
    ⟨z,λh=>⟨30,aA,by show 30<32;decide,rfl,rfl,by rw [aE h];rfl⟩,λq=>⟨λh=>⟨32,aA,by show 32<34;decide,rfl,rfl,by rw [ap q,aE h];rfl⟩,λn2=>⟨λh=>⟨34,aA,by show 34<36;decide,rfl,rfl,by rw [ap q,ap n2,aE h];rfl⟩,λB=>⟨35,aA,by show 35<37;decide,rfl,rfl,by rw [ap q,ap n2,ap B];rfl⟩⟩⟩⟩
   exact A ad _ i aa h2 f ag o
theorem bs.kd{H:T}{col:Nat->Nat}{y:Nat}(B:ac)(a:col y=8):bs H (H.set y B) col col [8] :=
 ⟨Nat.le_refl _,λx _ h=>T.eO _ _ λe=>by subst e;rw [a]at h;simp at h,λ_ _ _=>rfl⟩
theorem bs.tf{H:T}{col:Nat->Nat}{y c:Nat}(B:ac)(a:col y=c):bs H (H.set y B) col col [c] :=
 ⟨Nat.le_refl _,λx _ h=>T.eO _ _ λe=>by subst e;rw [a]at h;simp at h,λ_ _ _=>rfl⟩
theorem wY(ρ:Operand->J)(H:T)(y:Nat):bd env cr y ρ H (Op.alloc 42)=some (.ptr (some ⟨y,0,0,0,6⟩),H.set y z0):= ar
theorem HX{H:T}{y:Nat}(x:aP)(ag:H.get y=some z0):eA (a'.D env) 42 ⟨y,0,0,0,6⟩ (bi x) H=some (H.set y (cR (bi x))):=by have a:(a'.D env 42).map (λd=>(d.kind.isAgg,d.size))=some (true,6):= ar;obtain⟨d,aa,h2⟩:=b4.1 a;simp only [bo]at h2;unfold eA;rw [aa,ag];simp [J.fits,h2.1,h2.2,ac.aj,kn,bi,J.cells,gk,J.hD]
theorem SG{H:T}{y:Nat}{x:aP}(ag:H.get y=some (cR (bi x))):a1 (a'.D env) 42 ⟨y,0,0,0,6⟩ H=some (bi x):=by have a:(a'.D env 42).map (λd=>(d.kind.isAgg,d.size))=some (true,6):= ar;obtain⟨d,aa,h2⟩:=b4.1 a;simp only [bo]at h2;unfold a1;rw [aa,ag];have b:(cR (bi x)).elem? 0 0=some (bi x):=rfl;simp only [b];simp [ft,h2.1,h2.2,bi]
theorem wZ{H:T}{d:Nat}{k t:Bytes}{n:Bool}(ag:H.get d=some (cz k n t)):a1 (a'.D env) 4 ⟨d,0,0,1,3⟩ H=some (.bool n):=by have a:(a'.D env 4).map (λd=>d.kind.isAgg)=some false:= ar;obtain⟨x,aa,h2⟩:=b4.1 a;unfold a1;rw [aa,ag];simp [ac.elem?,ac.b0,ft,h2,ac.aj]
theorem HY{H:T}{d:Nat}{k t:Bytes}{n:Bool}(ag:H.get d=some (cz k n t)):a1 (a'.D env) 9 ⟨d,0,0,0,3⟩ H=some (.str k):=by have a:(a'.D env 9).map (λd=>d.kind.isAgg)=some false:= ar;obtain⟨x,aa,h2⟩:=b4.1 a;unfold a1;rw [aa,ag];simp [ac.elem?,ac.b0,ft,h2,ac.aj]
theorem SH{H:T}{d:Nat}{k t:Bytes}{n:Bool}(b:Bool)(ag:H.get d=some (cz k n t)):eA (a'.D env) 4 ⟨d,0,0,1,3⟩ (.bool b) H=some (H.set d (cz k b t)):=by have a:(a'.D env 4).map (λd=>(d.kind.isAgg,d.size))=some (false,1):= ar;obtain⟨x,aa,h2⟩:=b4.1 a;simp only [bo]at h2;unfold eA;rw [aa,ag];simp [J.fits,h2.1,h2.2,ac.aj,kn,J.cells,gk]
theorem HZ{H:T}{d:Nat}{k t:Bytes}{n:Bool}(r:Bytes)(ag:H.get d=some (cz k n t)):eA (a'.D env) 9 ⟨d,0,0,0,3⟩ (.str r) H=some (H.set d (cz r n t)):=by have a:(a'.D env 9).map (λd=>(d.kind.isAgg,d.size))=some (false,1):= ar;obtain⟨x,aa,h2⟩:=b4.1 a;simp only [bo]at h2;unfold eA;rw [aa,ag];simp [J.fits,h2.1,h2.2,ac.aj,kn,J.cells,gk]
theorem iJ{t:TypeId}{F:a8}{H H1:T}{a:aT}{v:J}{nid:Nat}{x y:Operand}(b:bf F x=.ptr (some a))(c:bf F y=v)(hs:eA (a'.D env) t a v H=some H1):bd env cr nid (bf F) H (Op.store t x y)=some (.tuple [],H1):=by simp only [bd,b,c,hs,ev]
theorem Bd(H:T)(z:Nat)(x:aP):k1 (a'.D env) 56 1 [(0,bi x)] z H=some (.slice (some ⟨z,0,0,0,6⟩) 1 1,H.set z (ac.aj [bi x] 6 true)):=by
 obtain⟨a,b,c,d,e,f⟩:=x
 kernel_rfl
theorem Be{F:a8}{k nid:Nat}{v:J}{H:T}(a:bf F (.tmp k)=v):bd env cr nid (bf F) H (Op.buildSlice 56 1 {toList:=[(0,Operand.tmp k)]})=k1 (a'.D env) 56 1 [(0,v)] nid H:=by rw [<-a];rfl
theorem H0{H1:T}{b:Nat->Nat}{ct:Nat}{cu:J}{es:List aP}(x:aP){y j p n:Nat}(eY:c1 H1 b ct 6 ek cu (es.map bi))(g:ct≠8)(w:y<H1.Y)(h:b y=8)(t:j<p)(az:n<p)(s:es.length<2^31) :
 ∃a,bd env cr y (λ_=> .undef) H1 (Op.alloc 42)=some (.ptr (some ⟨y,0,0,0,6⟩),H1.set y z0)/\eA (a'.D env) 42 ⟨y,0,0,0,6⟩ (bi x) (H1.set y z0)=some a/\a.Y=H1.Y/\bs H1 a b b [8] /\
  a1 (a'.D env) 42 ⟨y,0,0,0,6⟩ ⟨a.Y+p,a.ay⟩=some (bi x)/\∃f e c d,k1 (a'.D env) 56 1 [(0,bi x)] (a.Y+j) ⟨a.Y+p,a.ay⟩=some (.slice (some ⟨a.Y+j,0,0,0,6⟩) 1 1,f) /\
  eB env .append #[56,56] [cu,.slice (some ⟨a.Y+j,0,0,0,6⟩) 1 1] (a.Y+n) f=some (e,c)/\c1 c d ct 6 ek e ((es++[x]).map bi)/\bs H1 c b d [ct,8]:=by
 have g1:(H1.set y z0).get y=some z0:=T.eT _ _ _;have m1:bs H1 ((H1.set y z0).set y (cR (bi x))) b b [8]:=((bs.kd z0 h).trans (bs.kd (H:=H1.set y z0) (cR (bi x)) h)).sub an;refine⟨(H1.set y z0).set y (cR (bi x)),wY _ _ _,HX x g1,rfl,m1,SG (T.eT _ _ _),?_⟩;have u:((H1.set y z0).set y (cR (bi x))).Y=H1.Y:=rfl;have i:=eY.aJ m1 (by simpa using g);generalize (H1.set y z0).set y (cR (bi x))=a at *;have m2:=bs.fresh a b p;have r:fresh a b (a.Y+j)=8:=gP V;have m3:=bs.kd (H:=⟨a.Y+p,a.ay⟩) (ac.aj [bi x] 6 true) r;have k:=(i.aJ m2 an).aJ m3 (by simpa using g)
 have q:dF 6 (.slice (some ⟨a.Y+j,0,0,0,6⟩) 1 1) ((⟨a.Y+p,a.ay⟩:T).set (a.Y+j) (ac.aj [bi x] 6 true))=some [bi x]:=by have m:=T.eT (⟨a.Y+p,a.ay⟩:T) (a.Y+j) (ac.aj [bi x] 6 true);simp only [dF,dy,m];rw [ap aA,aE ⟨by simp [ac.b0,ac.aj],by simp [ac.aj]⟩];simp [ac.aj]
 obtain⟨e,c,d,o,l,m5,v⟩:=k.fu (nid:=a.Y+n) AJ (by show a.Y+n<a.Y+p;omega) (gP V) q (by simp only [gy,hk];omega) (by simp only [gy,hk];omega);refine⟨_,e,c,d,Bd _ _ _,o,by rw [kj];exact l,(m1.trans (m2.trans (m3.trans m5))).sub an⟩
abbrev hU(d:Nat)(s:Bytes)(cu:J):a8:=[(0,.ptr (some ⟨d,0,0,0,3⟩)),(5,.str s),(6,cu)]
structure nZ(H H':T)(col bg:Nat->Nat)(c ct d:Nat)(k:Bytes)(n:Bool)(t:Bytes)(cu:J)(es:List aP):Prop where
 jy:e3 H' bg c d k n t
 eY:c1 H' bg ct 6 ek cu (es.map bi)
 aJ:bs H H' col bg [c,ct,8]
theorem SI{H:T}{col:Nat->Nat}{B c ct d q:Nat}{k t s:Bytes}{es:List aP}{cu:J}(z:B<=H.Y)(g:e3 H col c d k true t)(eY:c1 H col ct 6 ek cu (es.map bi))(aa:ct≠c)(h2:ct≠8)(x:c≠8)(hs:s.length<2^40)(G:t.length<2^40)(A:es.length<2^31)(D:fQ 0 s=some q) :
 ∃H' bg f,bR B 67 (br 31 0) (hU d s cu) H .normal (hU d (s.drop (q+6)) f) H'/\nZ H H' col bg c ct d k false [] f (es++[hP ((t++s.take q).take 65536)])/\B<=H'.Y:=by
 have m0:=bs.fresh H col 15;have g0:=g.aJ m0 an;obtain⟨H1,C,g1,m1⟩:=SE g0 hs G D;have L:H.Y+15<=H1.Y:=m1.Y;have I:fresh H col (H.Y+11)=8:=gP V;have v:=(eY.aJ m0 an).aJ m1 (by simpa using aa);obtain⟨a,aI,aO,K,m3,o,l,i,b,m,r,u,w,m5⟩:=H0 (hP ((t++s.take q).take 65536)) (y:=H.Y+11) (j:=6) (p:=9) (n:=7) v h2 V I V V A
 obtain⟨e,F,ad,E,rfl,rfl,rfl⟩:=Sv H H1 (H1.set (H.Y+11) z0) a l b B d (H.Y+11) s (s.drop (q+6)) (bi (hP ((t++s.take q).take 65536))) cu i (.slice (some ⟨a.Y+6,0,0,0,6⟩) 1 1) (λe F h=>e=.normal/\F=hU d (s.drop (q+6)) i/\h=b)
  (aR z ⟨wZ (H:=⟨H.Y+4,H.ay⟩) g.get,aR V ⟨⟨C⟩,wY _ _ _,iJ rfl rfl aO,aR V (aR V (aR V ⟨o,(Be rfl).trans r,u,rfl,rfl,rfl⟩))⟩⟩)
 have M:H1.Y<=_:=m5.Y;exact⟨_,m,_,E,⟨g1.aJ m5 (by simp only [cM,ff,ea,eR];exact⟨λe=>aa e.symm,x⟩),w,(m0.trans (m1.trans m5)).sub an⟩,V⟩
theorem SJ{H:T}{col:Nat->Nat}{B c ct d:Nat}{k t s:Bytes}{es:List aP}{cu:J}(j:B<=H.Y)(g:e3 H col c d k true t)(eY:c1 H col ct 6 ek cu (es.map bi))(aa:ct≠c)(h2:ct≠8)(i:c≠8)(hs:s.length<2^40)(o:t.length<2^40)(m:fQ 0 s=none) :
 ∃H' bg,bR B 67 (br 31 0) (hU d s cu) H (.exit 0) (hU d (s.drop (s.length-gr s (min s.length 5))) cu) H'/\nZ H H' col bg c ct d k true ((t++s.take (s.length-gr s (min s.length 5))).take 65536) cu es:=by
 have m0:=bs.fresh H col 15;have g0:=g.aJ m0 an;obtain⟨H1,l,g1,m1⟩:=SF g0 hs o m;have p:H.Y+15<=H1.Y:=m1.Y;have a:fresh H col (H.Y+11)=8:=gP V;have b:=(eY.aJ m0 an).aJ m1 (by simpa using aa);have f:(H1.set (H.Y+11) z0).get (H.Y+11)=some z0:=T.eT _ _ _;have m3:bs H1 ((H1.set (H.Y+11) z0).set (H.Y+11) (cR (bi gS))) (fresh H col) (fresh H col) [8]:=((bs.kd z0 a).trans (bs.kd (H:=H1.set (H.Y+11) z0) (cR (bi gS)) a)).sub an;have q:((H1.set (H.Y+11) z0).set (H.Y+11) (cR (bi gS))).Y=H1.Y:=rfl
 obtain⟨e,F,ad,n,rfl,rfl,rfl⟩:=Sw H H1 (H1.set (H.Y+11) z0) ((H1.set (H.Y+11) z0).set (H.Y+11) (cR (bi gS))) B d (H.Y+11) s (s.drop (s.length-gr s (min s.length 5))) (bi gS) cu (λe F h=>e=.exit 0/\F=hU d (s.drop (s.length-gr s (min s.length 5))) cu/\h=⟨((H1.set (H.Y+11) z0).set (H.Y+11) (cR (bi gS))).Y+2+2,((H1.set (H.Y+11) z0).set (H.Y+11) (cR (bi gS))).ay⟩)
  (aR j ⟨wZ (H:=⟨H.Y+4,H.ay⟩) g.get,aR V ⟨⟨l⟩,wY _ _ _,iJ rfl rfl (HX gS f),aR V (aR V ⟨rfl,rfl,rfl⟩)⟩⟩)
 have m4:=bs.fresh ((H1.set (H.Y+11) z0).set (H.Y+11) (cR (bi gS))) (fresh H col) 4;exact⟨_,_,n,⟨(g1.aJ m3 (by simpa using i)).aJ m4 an,(b.aJ m3 (by simpa using h2)).aJ m4 an,(m0.trans (m1.trans (m3.trans m4))).sub an⟩⟩
theorem SK{H:T}{col:Nat->Nat}{B c ct d:Nat}{k t s:Bytes}{es:List aP}{cu:J}(D:B<=H.Y)(g:e3 H col c d k false t)(eY:c1 H col ct 6 ek cu (es.map bi))(aa:ct≠c)(h2:ct≠8)(C:c≠8)(hs:s.length<2^40)(Q:es.length<2^31) :
 ∃e F H' bg l o i,bR B 67 (br 31 0) (hU d s cu) H e F H'/\nZ H H' col bg c ct d k o t l i/\B<=H'.Y /\
  (((s=[]\/(dS s).2.2=2)/\e=.exit 0/\F=hU d s l/\o=false/\i=es) \/
   (s≠[]/\(dS s).2.2=1/\e=.normal/\F=hU d (s.drop (dS s).2.1.toNat) l/\o=true/\i=es) \/
   (s≠[]/\(dS s).2.2≠2/\(dS s).2.2≠1/\e=.normal/\F=hU d (s.drop (dS s).2.1.toNat) l/\o=false/\i=es++[(dS s).1])):=by
 by_cases aN:s=[]
 .subst aN
  obtain⟨e,F,ad,b,rfl,rfl,rfl⟩:=HR H H H H H H H B d 0 [] [] (bi gS) 0 0 cu cu cu (λe F h=>e=.exit 0/\F=hU d [] cu/\h=⟨H.Y+4+2,H.ay⟩)
   (aR D ⟨wZ (H:=⟨H.Y+4,H.ay⟩) g.get,aR V ⟨λ_=>⟨rfl,rfl,rfl⟩,λh=>absurd rfl h⟩⟩)
  have m0:=bs.fresh H col 6;exact⟨_,_,_,_,cu,false,es,b,⟨g.aJ m0 an,eY.aJ m0 an,m0.sub an⟩,by show B<=H.Y+4+2;omega,.inl ⟨.inl rfl,rfl,rfl,rfl,rfl⟩⟩
 .have m0:=bs.fresh H col 16;have g0:=g.aJ m0 an;have z:=eY.aJ m0 an;have E:=SA hs aN ⟨H.Y+16,H.ay⟩;have G:=wT aN;have R:fresh H col (H.Y+12)=8:=gP V;generalize dS s=x at E G;obtain⟨b3,n,w⟩:=x
  have az:(∃m:Nat,n=m/\m<=s.length):=by
   rcases G with ⟨_,h,_⟩|⟨m,h,_,hm,_⟩|⟨m,h,_,hm,_⟩
   .simp only [bo]at h;exact⟨0,by rw [h.2.1];rfl,n6 _⟩
   .simp only [bo]at h;exact⟨m,h.2.1,hm⟩
   .simp only [bo]at h;exact⟨m,h.2.1,hm⟩
  obtain⟨m,rfl,hm⟩:=az;have ez:=(ls hm).2;obtain⟨a,aI,aO,v,m3,K,I,r,q,S,L,M,N,m5⟩:=H0 b3 (y:=H.Y+12) (j:=10) (p:=13) (n:=11) z h2 (by show H.Y+12<H.Y+16;omega) R V V Q;have v:a.Y=H.Y+16:=v;have g3:=g0.aJ m3 (by simpa using C);have A:=z.aJ m3 (by simpa using h2);have m6:=bs.fresh a (fresh H col) 12;have g6:=g3.aJ m6 an;have O:=A.aJ m6 an;have m7:=bs.tf (H:=⟨a.Y+12,a.ay⟩) (c:=c) (cz k true t) g6.col;have g7:e3 ((⟨a.Y+12,a.ay⟩:T).set d (cz k true t)) (fresh a (fresh H col)) c d k true t:=⟨g6.lt,T.eT _ _ _,g6.col⟩
  have P:=O.aJ m7 (by simpa using aa);have U:H.Y+16<=q.Y:=m5.Y;have u:=bs.fresh a (fresh H col) 2
  have key:=HR H ⟨H.Y+16,H.ay⟩ ((⟨H.Y+16,H.ay⟩:T).set (H.Y+12) z0) a I q ((⟨a.Y+12,a.ay⟩:T).set d (cz k true t)) B d (H.Y+12) s (s.drop m) (bi b3) m w cu r (.slice (some ⟨a.Y+10,0,0,0,6⟩) 1 1)
   (λe F h=>(w=2/\e=.exit 0/\F=hU d s cu/\h=⟨a.Y+2,a.ay⟩)\/(w=1/\e=.normal/\F=hU d (s.drop m) cu/\h=(⟨a.Y+12,a.ay⟩:T).set d (cz k true t))\/(w≠2/\w≠1/\e=.normal/\F=hU d (s.drop m) r/\h=q))
   (aR D ⟨wZ (H:=⟨H.Y+4,H.ay⟩) g.get,aR V ⟨λh=>absurd h aN,λ_=>aR V ⟨⟨E⟩,wY _ _ _,iJ rfl rfl aO,aR V ⟨λhw=> .inl ⟨hw,rfl,rfl,rfl⟩,λhw=>aR V ⟨ez,aR V ⟨λf=>aR V ⟨iJ rfl rfl (SH true g6.get),.inr (.inl ⟨f,rfl,rfl,rfl⟩)⟩,λf=>aR V ⟨K,(Be rfl).trans L,M,.inr (.inr ⟨hw,f,rfl,rfl,rfl⟩)⟩⟩⟩⟩⟩⟩⟩)
  obtain⟨e,F,ad,b,⟨hw,rfl,rfl,rfl⟩|⟨hw,rfl,rfl,rfl⟩|⟨hw,f,rfl,rfl,rfl⟩⟩:=key
  .exact⟨_,_,_,_,cu,false,es,b,⟨g3.aJ u an,A.aJ u an,(m0.trans (m3.trans u)).sub an⟩,by show B<=a.Y+2;omega,.inl ⟨.inr hw,rfl,rfl,rfl,rfl⟩⟩
  .refine⟨_,_,_,_,cu,true,es,b,⟨g7,P,(m0.trans (m3.trans (m6.trans m7))).sub an⟩,by show B<=a.Y+12;omega,.inr (.inl ⟨aN,hw,rfl,?_,rfl,rfl⟩)⟩;rw [fU]
  .refine⟨_,_,_,_,r,false,_,b,⟨g0.aJ m5 (by simp only [cM,ff,ea,eR];exact⟨λe=>aa e.symm,C⟩),N,(m0.trans m5).sub an⟩,V,.inr (.inr ⟨aN,hw,f,rfl,?_,rfl,rfl⟩)⟩;rw [fU]
theorem nZ.trans{H H1 e:T}{col f g:Nat->Nat}{c ct d:Nat}{k t t2:Bytes}{n n2:Bool}{cu i:J}{es h:List aP}(a:nZ H H1 col f c ct d k n t cu es)(b:nZ H1 e f g c ct d k n2 t2 i h):nZ H e col g c ct d k n2 t2 i h :=
 ⟨b.jy,b.eY,(a.aJ.trans b.aJ).sub an⟩
theorem SL{B c ct d:Nat}{k:Bytes}(aa:ct≠c)(h2:ct≠8)(A:c≠8):∀(f:Nat)(n:Bool)(t s:Bytes)(es:List aP)(cu:J)(H:T)(col:Nat->Nat),s.length<f->s.length<2^30->t.length<2^40->es.length+s.length<2^31->B<=H.Y->e3 H col c d k n t->c1 H col ct 6 ek cu (es.map bi) ->
 ∃H' bg i,dl B 67 (br 31 0) (hU d s cu) H (.exit 0) (hU d (d' f n t s).2.2.2 i) H'/\nZ H H' col bg c ct d k (d' f n t s).2.1 (d' f n t s).2.2.1 i (es++(d' f n t s).1):=by
 intro f;induction f with
 |zero=>intro n t s es cu H col M;omega
 |succ f ih =>
  intro n t s es cu H col M hs z Q E g eY;cases n with
  |true =>
   cases u:fQ 0 s with
   |some q =>
    obtain⟨H',bg,i,a,ok,y⟩:=SI (B:=B) E g eY aa h2 A V z V u
    have R:q+6<=s.length:=by
     have:∀(x:Bytes)(j q:Nat),fQ j x=some q->q+6<=j+x.length:=by
      intro x;induction x with
      |nil=>intro j q h;cases h
      |cons b r ih =>
       intro j q h;unfold fQ at h;split at h
       .rename_i ae;have:=wU _ (kk.1 ae);simp only [a6]at h;omega
       .have:=ih _ _ h;simp only [b'];omega
     have:=this s 0 q u;omega
    obtain⟨l,o,v,p,w⟩:=ih false [] (s.drop (q+6)) (es++[hP ((t++s.take q).take 65536)]) i H' bg (by rw [ep];omega) (by rw [ep];omega) an (by simp only [dt,hk,ep];omega) y ok.jy ok.eY
    have e:d' (f+1) true t s=(hP ((t++s.take q).take 65536)::(d' f false [] (s.drop (q+6))).1,(d' f false [] (s.drop (q+6))).2):=by
     conv=>lhs;unfold d'
     rw [u]
    rw [e];refine⟨l,o,v,bX.step a p,?_⟩;have:=ok.trans w;simpa using this
   |none =>
    obtain⟨H',bg,a,ok⟩:=SJ (B:=B) E g eY aa h2 A V z u
    have e:d' (f+1) true t s=([],true,(t++s.take (s.length-gr s (min s.length 5))).take 65536,s.drop (s.length-gr s (min s.length 5))):=by
     conv=>lhs;unfold d'
     rw [u]
    rw [e];exact⟨H',bg,cu,bX.last an a,by rw [fV];exact ok⟩
  |false =>
   obtain⟨e,F,H',bg,i,S,L,a,ok,y,N⟩:=SK (B:=B) (s:=s) E g eY aa h2 A V V;rcases N with ⟨hw,rfl,rfl,rfl,rfl⟩|⟨aN,hw,rfl,rfl,rfl,rfl⟩|⟨aN,I,G,rfl,rfl,rfl,rfl⟩
   .have e:d' (f+1) false t s=([],false,t,s):=by
     unfold d';by_cases aN:s=[]
     .rw [aE aN,aN]
     .rw [ap aN,aE (hw.resolve_left aN)]
    rw [e];exact⟨H',bg,i,bX.last an a,by rw [fV];exact ok⟩
   .have K:∃m:Nat,(dS s).2.1=m/\1<=m/\m<=s.length:=by
     rcases wT aN with ⟨_,h,_⟩|⟨m,h,_⟩|⟨m,h,C,D,_⟩
     .rw [h]at hw;cases hw
     .rw [h]at hw;cases hw
     .exact⟨m,by rw [h],C,D⟩
    obtain⟨m,hm,O,P⟩:=K
    have e:d' (f+1) false t s=d' f true t (s.drop (dS s).2.1.toNat):=by
     conv=>lhs;unfold d'
     rw [ap aN,ap (by rw [hw];decide),aE hw]
    rw [e];rw [hm,fU]at a⊢;obtain⟨l,o,v,p,w⟩:=ih true t (s.drop m) L i H' bg (by rw [ep];omega) (by rw [ep];omega) z (by rw [ep];omega) y ok.jy ok.eY;exact⟨l,o,v,bX.step a p,ok.trans w⟩
   .have K:∃m:Nat,(dS s).2.1=m/\1<=m/\m<=s.length:=by
     rcases wT aN with ⟨_,h,_⟩|⟨m,h,C,D,_⟩|⟨m,h,_⟩
     .rw [h]at I;exact absurd rfl I
     .exact⟨m,by rw [h],C,D⟩
     .rw [h]at G;exact absurd rfl G
    obtain⟨m,hm,O,P⟩:=K
    have e:d' (f+1) false t s=((dS s).1::(d' f false t (s.drop (dS s).2.1.toNat)).1,(d' f false t (s.drop (dS s).2.1.toNat)).2):=by
     conv=>lhs;unfold d'
     rw [ap aN,ap I,ap G]
    rw [e];rw [hm,fU]at a⊢;obtain⟨l,o,v,p,w⟩:=ih false t (s.drop m) (es++[(dS s).1]) i H' bg (by rw [ep];omega) (by rw [ep];omega) z (by simp only [dt,hk,ep];omega) y ok.jy ok.eY;refine⟨l,o,v,bX.step a p,?_⟩;have:=ok.trans w;simpa using this
theorem SM(a c d:T)(b o n k i g:Nat)(f e l:Bytes)(j:J)(m:bm)(p:aW (a.Y) (a.Y) (aW (a.Y) (a.Y+1) (aW (a.Y) (a.Y+3) (a1 env.D 9 ⟨b,0,0,0,3⟩ (aY a 11)=some (J.str f)/\er env (a.Y+8) (bf [(19,.slice (some ⟨k,i,g,0,1⟩) o n)]) (aY a 11) (Op.convert 34 9 (Operand.tmp 19))=some (J.str e,(aY a 11))/\Nat.le (Nat.succ (aT.id ⟨k,i,g,0,1⟩)) (a.Y+3)/\Nat.le (Nat.succ (List.length f+e.length)) (2^62)/\aW (a.Y) (a.Y+11) (bR (a.Y) 67 (Code.loop (br 31 0)) [(0,.ptr (cB b)),(5,.str (f++e)),(6,.slice none 0 0)] (T.mk (a.Y+11+1) (T.ay (aY a 11))) (.exit 0) [(0,.ptr (cB b)),(5,.str l),(6,j)] c/\aW (a.Y) (c.Y) (bd env cr (c.Y+4) (bf [(65,.ptr (cB b)),(63,.str l)]) (aY c 5) (Op.store 9 (Operand.tmp 65) (Operand.tmp 63))=some (J.tuple [],d)/\aW (a.Y) (d.Y) (bk (a.Y) (d.Y+2) (m j (aY d 2))))))))) :
 bC 31 [.ptr (cB b),.slice (some ⟨k,i,g,0,1⟩) o n] a m :=
 bI bT (.ak (.val 3003 (.str f)) (.ak (.ng 3005 (.str e) λh=>h) (ag 3006 (.ak (.keep [0,5,6]) (.ak (.loop [(0,.ptr (cB b)),(5,.str l),(6,j)] c (.exit 0)) (.ak (.act 17004 (.tuple []) λx=>d) .nil)))))) p
theorem SN(a c d:T)(b j:Nat)(e g:Bytes)(f:J)(i:bm)(k:aW (a.Y) (a.Y) (aW (a.Y) (a.Y+1) (aW (a.Y) (a.Y+3) (a1 env.D 9 ⟨b,0,0,0,3⟩ (aY a 11)=some (J.str e)/\er env (a.Y+8) (bf [(19,.slice none 0 j)]) (aY a 11) (Op.convert 34 9 (Operand.tmp 19))=some (J.str [],(aY a 11))/\Nat.le (Nat.succ (List.length e+List.length ([]:List UInt8))) (2^62)/\aW (a.Y) (a.Y+11) (bR (a.Y) 67 (Code.loop (br 31 0)) [(0,.ptr (cB b)),(5,.str (e++[])),(6,.slice none 0 0)] (T.mk (a.Y+11+1) (T.ay (aY a 11))) (.exit 0) [(0,.ptr (cB b)),(5,.str g),(6,f)] c/\aW (a.Y) (c.Y) (bd env cr (c.Y+4) (bf [(65,.ptr (cB b)),(63,.str g)]) (aY c 5) (Op.store 9 (Operand.tmp 65) (Operand.tmp 63))=some (J.tuple [],d)/\aW (a.Y) (d.Y) (bk (a.Y) (d.Y+2) (i f (aY d 2))))))))) :
 bC 31 [.ptr (cB b),.slice none 0 j] a i :=
 bI bT (.ak (.val 3003 (.str e)) (.ak (.ng 3005 (.str []) λh=>h) (ag 3006 (.ak (.keep [0,5,6]) (.ak (.loop [(0,.ptr (cB b)),(5,.str g),(6,f)] c (.exit 0)) (.ak (.act 17004 (.tuple []) λx=>d) .nil)))))) k
theorem qN{F:a8}{nid k n c:Nat}{H:T}{o:Option aT}{l:Bytes}(e:bf F (.tmp k)=.slice o n c)(b:dF 1 (.slice o n c) H=some (aG l)):er env nid (bf F) H (Op.convert 34 9 (Operand.tmp k))=some (.str l,H):=by have aa:(a'.D env 34).map (λd=>d.kind)=some (.slice 5):= ar;have h2:(a'.D env 9).map (λd=>d.kind)=some .string:= ar;have a:(a'.D env 5).map (λd=>d.kind)=some (.int .u8):= ar;obtain⟨i,d1,f⟩:=b4.1 aa;obtain⟨j,d2,g⟩:=b4.1 h2;obtain⟨m,d3,h⟩:=b4.1 a;simp only [er,e,oh,d1,d2,f,g,d3,h,b,rP,ev]
theorem e3.feed{H:T}{col:Nat->Nat}{c c2 ct d m:Nat}{k t aU:Bytes}{n:Bool}{o:Option aT}(g:e3 H col c d k n t)(f:jr H col c2 o aU)(aa:ct≠c)(h2:ct≠8)(j:c≠8)(w:k.length+aU.length<2^30)(s:t.length<2^40) :
 ∃H' v bg,bu 31 [.ptr (some ⟨d,0,0,0,3⟩),.slice o aU.length m] H v H'/\e3 H' bg c d (d' ((k++aU).length+1) n t (k++aU)).2.2.2 (d' ((k++aU).length+1) n t (k++aU)).2.1 (d' ((k++aU).length+1) n t (k++aU)).2.2.1 /\
  c1 H' bg ct 6 ek v ((d' ((k++aU).length+1) n t (k++aU)).1.map bi)/\bs H H' col bg [c,ct,8]:=by
 have m0:=bs.fresh H col 12;have g0:=g.aJ m0 an;obtain⟨H1,b,cu,p,ok⟩:=SL (B:=H.Y) (k:=k) aa h2 j ((k++aU).length+1) n t (k++aU) [] (.slice none 0 0) ⟨H.Y+12,H.ay⟩ (fresh H col) V (by rw [dt];omega) s (by rw [dt];simp only [dx];omega) (by show H.Y<=H.Y+12;omega) g0 (c1.nil _ _ _ _ _);generalize A:d' ((k++aU).length+1) n t (k++aU)=r at *;have x:H.Y+12<=H1.Y:=ok.aJ.Y;have m2:=bs.fresh H1 b 5;have g2:=ok.jy.aJ m2 an;have h:=ok.eY.aJ m2 an;have m3:=bs.tf (H:=⟨H1.Y+5,H1.ay⟩) (c:=c) (cz r.2.2.2 r.2.1 r.2.2.1) g2.col;have g3:e3 ((⟨H1.Y+5,H1.ay⟩:T).set d (cz r.2.2.2 r.2.1 r.2.2.1)) (fresh H1 b) c d r.2.2.2 r.2.1 r.2.2.1:=⟨g2.lt,T.eT _ _ _,g2.col⟩
 have i:=h.aJ m3 (by simpa using aa);have m4:=bs.fresh ((⟨H1.Y+5,H1.ay⟩:T).set d (cz r.2.2.2 r.2.1 r.2.2.1)) (fresh H1 b) 2;have e:=cZ.dJ p;have y:((⟨H1.Y+5,H1.ay⟩:T).set d (cz r.2.2.2 r.2.1 r.2.2.1)).Y=H1.Y+5:=rfl
 have fin:∀{v:J}{ad:T},bu 31 [.ptr (some ⟨d,0,0,0,3⟩),.slice o aU.length m] H v ad->v=cu->ad=⟨((⟨H1.Y+5,H1.ay⟩:T).set d (cz r.2.2.2 r.2.1 r.2.2.1)).Y+2,((⟨H1.Y+5,H1.ay⟩:T).set d (cz r.2.2.2 r.2.1 r.2.2.1)).ay⟩ ->
  ∃H' v bg,bu 31 [.ptr (some ⟨d,0,0,0,3⟩),.slice o aU.length m] H v H'/\e3 H' bg c d r.2.2.2 r.2.1 r.2.2.1/\c1 H' bg ct 6 ek v (r.1.map bi)/\bs H H' col bg [c,ct,8]:=by
  rintro v ad a rfl rfl;exact⟨_,_,_,a,g3.aJ m4 an,i.aJ m4 an,(m0.trans (ok.aJ.trans (m2.trans (m3.trans m4)))).sub an⟩
 rcases f.ex with ⟨rfl,rfl⟩|⟨q,bv,bw,rfl,u,z,_⟩
 .obtain⟨v,ad,a,aI,aO⟩:=SN H H1 ((⟨H1.Y+5,H1.ay⟩:T).set d (cz r.2.2.2 r.2.1 r.2.2.1)) d m k r.2.2.2 cu (λv ad=>v=cu/\ad=⟨((⟨H1.Y+5,H1.ay⟩:T).set d (cz r.2.2.2 r.2.1 r.2.2.1)).Y+2,((⟨H1.Y+5,H1.ay⟩:T).set d (cz r.2.2.2 r.2.1 r.2.2.1)).ay⟩)
   (aR (Nat.le_refl _) (aR V (aR V ⟨HY (H:=⟨H.Y+11,H.ay⟩) g.get,qN rfl rfl,by show Nat.succ (k.length+0)<=2^62;omega,aR V ⟨e,aR V ⟨iJ rfl rfl (HZ r.2.2.2 g2.get),aR V (by
    refine e2 V ?_
    exact⟨rfl,rfl⟩)⟩⟩⟩)))
  exact fin a aI aO
 .have l:dF 1 (.slice (some ⟨q,bv,bw,0,1⟩) aU.length m) ⟨H.Y+11,H.ay⟩=some (aG aU):=(f.aJ (bs.fresh H col 11) an).aQ (n:=m)
  obtain⟨v,ad,a,aI,aO⟩:=SM H H1 ((⟨H1.Y+5,H1.ay⟩:T).set d (cz r.2.2.2 r.2.1 r.2.2.1)) d aU.length m q bv bw k aU r.2.2.2 cu (λv ad=>v=cu/\ad=⟨((⟨H1.Y+5,H1.ay⟩:T).set d (cz r.2.2.2 r.2.1 r.2.2.1)).Y+2,((⟨H1.Y+5,H1.ay⟩:T).set d (cz r.2.2.2 r.2.1 r.2.2.1)).ay⟩)
   (aR (Nat.le_refl _) (aR V (aR V ⟨HY (H:=⟨H.Y+11,H.ay⟩) g.get,qN rfl l,by show q+1<=H.Y+3;omega,by show Nat.succ (k.length+aU.length)<=2^62;omega,aR V ⟨e,aR V ⟨iJ rfl rfl (HZ r.2.2.2 g2.get),aR V (by
    refine e2 V ?_
    exact⟨rfl,rfl⟩)⟩⟩⟩)))
  exact fin a aI aO
abbrev n0(b a:Nat):J:=J.slice (some ⟨0,b,0,0,6⟩) a a
abbrev o9(b a:Nat):J:=J.slice (some ⟨1,b,0,0,6⟩) a a
abbrev H2(c d b a:Nat)(e f:J):a8:=[(24,f),(23,.ptr (some ⟨1,d,0+Int.toNat (a:Int),0,6⟩)),(22,.int .i64 (a:Int)),(21,(o9 d b)),(20,e),(19,.ptr (some ⟨0,c,0+Int.toNat (a:Int),0,6⟩)),(18,.int .i64 (a:Int)),(17,(n0 c b)),(14,.bool true),(13,.int .i64 (b:Int)),(12,(n0 c b)),(11,.int .i64 (a:Int)),(0,(n0 c b)),(1,(o9 d b)),(5,.int .i64 (a:Int))]
theorem H3(f g:ac)(c d b a:Nat)(h i:J)(j:bW->a8->T->Prop)(l:((a:Int)<(b:Int)->(0<=(a:Int)/\(a:Int)<(b:Int))/\a1 env.D 42 ⟨0,c,0+Int.toNat (a:Int),0,6⟩ (T.af 15 [(0,f),(1,g)])=some h/\(0<=(a:Int)/\(a:Int)<(b:Int))/\a1 env.D 42 ⟨1,d,0+Int.toNat (a:Int),0,6⟩ (T.af 15 [(0,f),(1,g)])=some i/\iV env.D (a'.fC env) (jI (Operand.tmp 20) || jI (Operand.tmp 24)) BinOp.neq 42 (bf (H2 c d b a h i) (Operand.tmp 20)) (bf (H2 c d b a h i) (Operand.tmp 24))=some (J.bool false)/\(-9223372036854775808<=(a:Int)+1/\(a:Int)+1<=9223372036854775807)/\j .normal [(0,(n0 c b)),(1,(o9 d b)),(5,.int .i64 ((a:Int)+1))] (T.af 18 [(0,f),(1,g)]))/\(¬(a:Int)<(b:Int)->j (.exit 0) [(0,(n0 c b)),(1,(o9 d b)),(5,.int .i64 (a:Int))] (T.af 6 [(0,f),(1,g)]))) :
 ∃e k aa,bR 2 26 (br 33 0) [(0,.slice (some ⟨0,c,0,0,6⟩) b b),(1,.slice (some ⟨1,d,0,0,6⟩) b b),(5,.int .i64 a)] (T.rows 2 [(0,f),(1,g)]) e k aa/\j e k aa :=
 di cP mixed bT (hs:= .aq 4003 (ag 6002 (.ak (.val 6003 h) (ag 6006 (.ak (.val 6007 i) (.ak (.val 6008 (.bool false)) (ag 5001 .nil)))))) .nil) (keep:=[0,1,4,5]) ar l
theorem SO(b c:ac)(d e a g:Nat)(f:bm)(h:some (J.bool ((a:Int) != (a:Int)))=some (J.bool false)/\bR 2 26 (Code.loop (br 33 0)) [(0,(n0 d a)),(1,(o9 e a)),(5,.int .i64 0)] (T.af 9 [(0,b),(1,c)]) (.exit 0) [(0,(n0 d a)),(1,(o9 e a)),(5,.int .i64 (g:Int))] (T.af 6 [(0,b),(1,c)])/\f (.bool true) (T.af 7 [(0,b),(1,c)])) :
 bC 33 [.slice (some ⟨0,d,0,0,6⟩) a a,.slice (some ⟨1,e,0,0,6⟩) a a] (T.of [b,c]) f :=
 bI bT (.ak (.val 1004 (.bool false)) (.ak (.keep [0,1,5]) (.ak (.loop [(0,(n0 d a)),(1,(o9 e a)),(5,.int .i64 (g:Int))] (T.af 6 [(0,b),(1,c)]) (.exit 0)) .nil))) h
theorem SP(a:T)(b:Nat)(d:bW->a8->T->Prop)(f:aW b (a.Y) (d (.exit 0) [(0,.slice none 0 0),(1,.slice none 0 0),(5,.int .i64 0)] (aY a 4))) :
 ∃e c aa,bR b 26 (br 33 0) [(0,.slice none 0 0),(1,.slice none 0 0),(5,.int .i64 0)] a e c aa/\d e c aa :=
 di cP mixed bT (hs:= .nil) (keep:=[0,1,4,5]) ar f
theorem SQ(a:T)(b:bm)(c:aW (a.Y) (a.Y) (aW (a.Y) (a.Y+1) (aW (a.Y) (a.Y+6) (bR (a.Y) 26 (Code.loop (br 33 0)) [(0,.slice none 0 0),(1,.slice none 0 0),(5,.int .i64 0)] (T.mk (a.Y+6+1) (T.ay (T.mk (a.Y+1+5) (T.ay (aY a 1))))) (.exit 0) [(0,.slice none 0 0),(1,.slice none 0 0),(5,.int .i64 0)] (aY a 11)/\aW (a.Y) (a.Y+11) (bk (a.Y) (a.Y+12) (b (.bool true) (T.mk (a.Y+11+1) (T.ay (aY a 11))))))))) :
 bC 33 [.slice none 0 0,.slice none 0 0] a b :=
 bI bT (.ak (.keep [0,1,5]) (.ak (.loop [(0,.slice none 0 0),(1,.slice none 0 0),(5,.int .i64 0)] (aY a 11) (.exit 0)) .nil)) c
abbrev H4(a:T):T:=(T.mk (a.Y+14+2) (T.ay (T.mk (a.Y+4+10) (T.ay (T.mk (a.Y+4) (T.ay a))))))
theorem H5(a:T)(g j i h f l b c d n:Nat)(o:Option aT)(k:bW->a8->T->Prop)(p:aW g (a.Y) (((b:Int)<(f:Int)->aW g (a.Y+4) ((-9223372036854775808<=(c:Int)+1/\(c:Int)+1<=9223372036854775807)/\(0<=(b:Int)/\(b:Int)<(f:Int))/\a1 env.D 34 ⟨j,i,h+Int.toNat (b:Int),1,2⟩ (aY a 14)=some (J.slice o d n)/\(-9223372036854775808<=(c:Int)+1+(d:Int)/\(c:Int)+1+(d:Int)<=9223372036854775807)/\aW g (a.Y+14) ((134217728<(c:Int)+1+(d:Int)->aW g (a.Y+16) (k .ret [(0,.slice (some ⟨j,i,h,0,2⟩) f l),(2,.bool true),(3,.int .i64 ((c:Int)+1+(d:Int))),(4,.int .i64 (b:Int))] (T.mk (a.Y+16+1) (T.ay (H4 a)))))/\(¬134217728<(c:Int)+1+(d:Int)->aW g (a.Y+16) ((-9223372036854775808<=(b:Int)+1/\(b:Int)+1<=9223372036854775807)/\k .normal [(0,.slice (some ⟨j,i,h,0,2⟩) f l),(3,.int .i64 ((c:Int)+1+(d:Int))),(4,.int .i64 ((b:Int)+1))] (T.mk (a.Y+16+3) (T.ay (H4 a))))))))/\(¬(b:Int)<(f:Int)->k (.exit 0) [(0,.slice (some ⟨j,i,h,0,2⟩) f l),(3,.int .i64 (c:Int)),(4,.int .i64 (b:Int))] (aY a 4)))) :
 ∃e m aa,bR g 22 (br 13 0) [(0,.slice (some ⟨j,i,h,0,2⟩) f l),(3,.int .i64 c),(4,.int .i64 b)] a e m aa/\k e m aa :=
 di cP mixed bT (hs:= .aq 3003 (ag 5001 (ag 5004 (.ak (.val 5006 (.slice o d n)) (ag 5008 (.aq 6001 .nil (ag 4001 .nil)))))) .nil) (keep:=[0,2,3,4]) ar p
theorem SR(a:T)(b f:Nat)(d:bW->a8->T->Prop)(g:aW b (a.Y) (d (.exit 0) [(0,.slice none 0 f),(3,.int .i64 0),(4,.int .i64 0)] (aY a 4))) :
 ∃e c aa,bR b 22 (br 13 0) [(0,.slice none 0 f),(3,.int .i64 0),(4,.int .i64 0)] a e c aa/\d e c aa :=
 di cP mixed bT (hs:= .nil) (keep:=[0,2,3,4]) ar g
theorem H6(a b:T)(d c:Nat)(e:Option aT)(g h:J)(f:bm)(i:aW (a.Y) (a.Y) (aW (a.Y) (a.Y+1) (aW (a.Y) (a.Y+2) (bR (a.Y) 22 (Code.loop (br 13 0)) [(0,.slice e d c),(3,.int .i64 0),(4,.int .i64 0)] (T.mk (a.Y+2+1) (T.ay (T.mk (a.Y+1+1) (T.ay (aY a 1))))) (.exit 0) [(0,.slice e d c),(3,g),(4,h)] b/\aW (a.Y) (b.Y) (bk (a.Y) (b.Y+1) (f (.bool false) (aY b 1))))))) :
 bC 13 [.slice e d c] a f :=
 bI bT (.ak (.keep [0,3,4]) (.ak (.loop [(0,.slice e d c),(3,g),(4,h)] b (.exit 0)) .nil)) i
theorem SS(a b:T)(d c:Nat)(e:Option aT)(g h:J)(f:bm)(i:aW (a.Y) (a.Y) (aW (a.Y) (a.Y+1) (aW (a.Y) (a.Y+2) (bR (a.Y) 22 (Code.loop (br 13 0)) [(0,.slice e d c),(3,.int .i64 0),(4,.int .i64 0)] (T.mk (a.Y+2+1) (T.ay (T.mk (a.Y+1+1) (T.ay (aY a 1))))) .ret [(0,.slice e d c),(2,.bool true),(3,g),(4,h)] b/\bk (a.Y) (b.Y) (f (.bool true) b))))) :
 bC 13 [.slice e d c] a f :=
 bI bT (.ak (.keep [0,3,4]) (.ak (.loop [(0,.slice e d c),(2,.bool true),(3,g),(4,h)] b .ret) .nil)) i
theorem H7(b f:T)(d n c g a:Nat)(h j:aT)(k l:J)(m:Bool)(i:bW->a8->T->Prop)(p:aW d (b.Y) (((a:Int)<(c:Int)->aW d (b.Y+4) (dL env.D 34 (.slice (some h) c g) (.int .i64 (a:Int))=some (J.ptr (some j))/\bd env cr (b.Y+7) (bf [(75,.ptr (some j))]) (aY b 8) (Op.store 5 (Operand.tmp 75) (Operand.const (Value.int .u8 (238))))=some (J.tuple [],f)/\aW d (f.Y) ((-9223372036854775808<=(a:Int)+1/\(a:Int)+1<=9223372036854775807)/\i .normal [(0,.ptr (b7 n)),(5,k),(6,l),(7,.slice (some h) c g),(8,.bool m),(9,.int .i64 ((a:Int)+1))] (aY f 3))))/\(¬(a:Int)<(c:Int)->i (.exit 1) [(0,.ptr (b7 n)),(5,k),(6,l),(7,.slice (some h) c g),(8,.bool m),(9,.int .i64 (a:Int))] (aY b 4)))) :
 ∃e o aa,bR d 126 (br 15 0) [(0,.ptr (b7 n)),(5,k),(6,l),(7,.slice (some h) c g),(8,.bool m),(9,.int .i64 a)] b e o aa/\i e o aa :=
 di cP mixed bT (hs:= .aq 12003 (.ak (.val 14002 (.ptr (some j))) (.ak (.act 14003 (.tuple []) λx=>f) (ag 13001 .nil))) .nil) (keep:=[0,5,6,7,8,9]) ar p
abbrev gv(a:T):T:=(T.mk (a.Y+30) (a.2))
abbrev hz(d c e b a:Nat):J:=J.slice (some ⟨e,b,a,0,1⟩) d c
abbrev o'(a b d c:Nat):J:=J.slice (some ⟨b,d,c,0,1⟩) (a+2) (a+2)
theorem SU(d n v A q r b o B C p y z s:T)(m l R F H a k c j g i f e:Nat)(G E t u K N I L M O:J)(w:Bytes)(P:bm)(Q:aW (d.Y) (d.Y) (bd env cr (d.Y+0) (bf [(1,.agg [.int .i64 1,(hz a k i f e)])]) (aY d 2) (Op.box 36 (Operand.tmp 1))=some (J.ptr (some ⟨l,0,0,0,2⟩),n)/\aW (d.Y) (n.Y) (aW (d.Y) (n.Y+2) (a1 env.D 3 ⟨l,0,0,0,2⟩ (aY n 4)=some (.int .i64 1)/\aW (d.Y) (n.Y+4) (aW (d.Y) (n.Y+6) (aW (d.Y) (n.Y+7) (a1 env.D 34 ⟨l,0,0,1,2⟩ (aY n 12)=some ((hz a k i f e))/\eB env Builtin.append {toList:=[34,34]} [.slice none 0 0,(hz a k i f e)] (n.Y+10) (aY n 12)=some (G,v)/\aW (d.Y) (v.Y) (bd env cr (v.Y+1) (bf []) (aY v 4) (Op.buildSlice 34 2 {toList:=[(0,Operand.const (Value.int .u8 (165))),(1,Operand.const (Value.int .u8 (166)))]})=some (E,A)/\eB env Builtin.append {toList:=[34,34]} [G,E] (v.Y+2) A=some ((o' a c j g),q)/\aW (d.Y) (q.Y) (a1 env.D 25 ⟨m,0,0,0,4⟩ (aY q 11)=some (J.ptr (ba F))/\m<q.Y/\a1 env.D 34 ⟨l,0,0,1,2⟩ (aY q 11)=some ((hz a k i f e))/\l<q.Y/\ec env.D 34 ((o' a c j g)) none (some (.int .i64 (a:Int))) none=some (J.slice (some ⟨c,j,g,0,1⟩) a (a+2))/\bM 26 [.ptr (ba F),.slice (some ⟨c,j,g,0,1⟩) a (a+2)] (aY q 11) t r/\aW (d.Y) (r.Y) (a1 env.D 27 ⟨m,0,0,1,4⟩ (aY r 8)=some (J.ptr (cB H))/\m<r.Y/\a1 env.D 34 ⟨l,0,0,1,2⟩ (aY r 8)=some ((hz a k i f e))/\l<r.Y/\bM 31 [.ptr (cB H),(hz a k i f e)] (aY r 8) u b/\aW (d.Y) (b.Y) (a1 env.D 34 ⟨l,0,0,1,2⟩ (gv b)=some ((hz a k i f e))/\l<b.Y/\ec env.D 34 ((o' a c j g)) none (some (.int .i64 (a:Int))) none=some (J.slice (some ⟨c,j,g,0,1⟩) a (a+2))/\er env (b.Y+5) (bf [(42,.slice (some ⟨c,j,g,0,1⟩) a (a+2))]) (gv b) (Op.convert 34 9 (Operand.tmp 42))=some (J.str w,(gv b))/\Nat.le (Nat.succ (aT.id ⟨c,j,g,0,1⟩)) (b.Y)/\a1 env.D 34 ⟨l,0,0,1,2⟩ (gv b)=some ((hz a k i f e))/\l<b.Y/\er env (b.Y+8) (bf [(45,(hz a k i f e))]) (gv b) (Op.convert 34 9 (Operand.tmp 45))=some (J.str w,(gv b))/\Nat.le (Nat.succ (aT.id ⟨i,f,e,0,1⟩)) (b.Y)/\some (J.bool (w == w))=some (J.bool true)/\a1 env.D 34 ⟨l,0,0,1,2⟩ (gv b)=some ((hz a k i f e))/\l<b.Y/\dL env.D 34 ((o' a c j g)) (.int .i64 (a:Int))=some (J.ptr (some ⟨c,j,g+a,0,1⟩))/\a1 env.D 5 ⟨c,j,g+a,0,1⟩ (gv b)=some (.int .u8 165)/\c<b.Y/\a1 env.D 34 ⟨l,0,0,1,2⟩ (gv b)=some ((hz a k i f e))/\l<b.Y/\(-9223372036854775808<=(a:Int)+1/\(a:Int)+1<=9223372036854775807)/\dL env.D 34 ((o' a c j g)) (.int .i64 ((a:Int)+1))=some (J.ptr (some ⟨c,j,g+(a+1),0,1⟩))/\a1 env.D 5 ⟨c,j,g+(a+1),0,1⟩ (gv b)=some (.int .u8 166)/\c<b.Y/\aW (d.Y) (b.Y+30) (bR (d.Y) 126 (Code.loop (br 15 0)) [(0,.ptr (b7 m)),(5,t),(6,u),(7,(o' a c j g)),(8,.bool true),(9,.int .i64 0)] (T.mk (b.Y+30+1) (T.ay (gv b))) (.exit 1) [(0,.ptr (b7 m)),(5,t),(6,u),(8,.bool true)] o/\aW (d.Y) (o.Y) (aW (d.Y) (o.Y+2) (a1 env.D 30 ⟨m,0,0,2,4⟩ (aY o 13)=some K/\bd env cr (o.Y+8) (bf [(108,t)]) (aY o 13) (Op.buildSlice 30 1 {toList:=[(0,Operand.tmp 108)]})=some (I,B)/\eB env Builtin.append {toList:=[30,30]} [K,I] (o.Y+9) B=some (L,C)/\bd env cr (o.Y+12) (bf [(112,.ptr (some ⟨m,0,0,2,4⟩)),(110,L)]) C (Op.store 30 (Operand.tmp 112) (Operand.tmp 110))=some (J.tuple [],p)/\aW (d.Y) (p.Y) (a1 env.D 30 ⟨m,0,0,3,4⟩ (aY p 11)=some N/\bd env cr (p.Y+6) (bf [(118,u)]) (aY p 11) (Op.buildSlice 30 1 {toList:=[(0,Operand.tmp 118)]})=some (M,y)/\eB env Builtin.append {toList:=[30,30]} [N,M] (p.Y+7) y=some (O,z)/\bd env cr (p.Y+10) (bf [(122,.ptr (some ⟨m,0,0,3,4⟩)),(120,O)]) z (Op.store 30 (Operand.tmp 122) (Operand.tmp 120))=some (J.tuple [],s)/\aW (d.Y) (s.Y) (bM 33 [t,u] (aY s 4) (.bool true) (aY s 4)/\bk (d.Y) (s.Y+4) (P (.bool true) (aY s 4)))))))))))))))))) :
 bC 15 [.ptr (b7 m),.agg [.int .i64 1,.slice (some ⟨i,f,e,0,1⟩) a k]] d P :=
 bI bT (.ak (.act 0 (.ptr (some ⟨l,0,0,0,2⟩)) λx=>n) (.ak (.val 2001 (.int .i64 1)) (.ak (.val 6002 ((hz a k i f e))) (.ak (.act 6003 G λx=>v) (.ak (.act 7001 E λx=>A) (.ak (.act 7002 ((o' a c j g)) λx=>q) (.ak (.ej 8003 (.ptr (ba F))) (.ak (.ej 8006 ((hz a k i f e))) (.ak (.val 8008 (.slice (some ⟨c,j,g,0,1⟩) a (a+2))) (.ak (.act 8009 t λx=>r) (.ak (.ej 9003 (.ptr (cB H))) (.ak (.ej 9005 ((hz a k i f e))) (.ak (.act 9006 u λx=>b) (.ak (.ej 10002 ((hz a k i f e))) (.ak (.val 10004 (.slice (some ⟨c,j,g,0,1⟩) a (a+2))) (.ak (.ng 10005 (.str w) λh=>h) (.ak (.ej 10007 ((hz a k i f e))) (.ak (.ng 10008 (.str w) λh=>h) (.ak (.val 10009 (.bool true)) (.ak (.ej 10013 ((hz a k i f e))) (.ak (.val 10015 (.ptr (some ⟨c,j,g+a,0,1⟩))) (.ak (.ej 10016 (.int .u8 165)) (.ak (.ej 10022 ((hz a k i f e))) (ag 10024 (.ak (.val 10025 (.ptr (some ⟨c,j,g+(a+1),0,1⟩))) (.ak (.ej 10026 (.int .u8 166)) (.ak (.keep [0,5,6,7,8,9]) (.ak (.loop [(0,.ptr (b7 m)),(5,t),(6,u),(8,.bool true)] o (.exit 1)) (.ak (.val 22004 K) (.ak (.act 22006 I λx=>B) (.ak (.act 22007 L λx=>C) (.ak (.act 22010 (.tuple []) λx=>p) (.ak (.val 23004 N) (.ak (.act 23006 M λx=>y) (.ak (.act 23007 O λx=>z) (.ak (.act 23010 (.tuple []) λx=>s) (.ak (.val 24002 (.bool true)) .nil))))))))))))))))))))))))))))))))))))) Q
abbrev pa(a c b:Nat):J:=J.slice (some ⟨a,c,b,0,1⟩) 2 2
theorem SV(c j r u m n a k v w l s t o:T)(i g M z B f b e d:Nat)(A y p q E H C F G I:J)(K:bm)(L:aW (c.Y) (c.Y) (bd env cr (c.Y+0) (bf [(1,.agg [.int .i64 1,.slice none 0 f])]) (aY c 2) (Op.box 36 (Operand.tmp 1))=some (J.ptr (some ⟨g,0,0,0,2⟩),j)/\aW (c.Y) (j.Y) (aW (c.Y) (j.Y+2) (a1 env.D 3 ⟨g,0,0,0,2⟩ (aY j 4)=some (.int .i64 1)/\aW (c.Y) (j.Y+4) (aW (c.Y) (j.Y+6) (aW (c.Y) (j.Y+7) (a1 env.D 34 ⟨g,0,0,1,2⟩ (aY j 12)=some (J.slice none 0 f)/\eB env Builtin.append {toList:=[34,34]} [.slice none 0 0,.slice none 0 f] (j.Y+10) (aY j 12)=some (A,r)/\aW (c.Y) (r.Y) (bd env cr (r.Y+1) (bf []) (aY r 4) (Op.buildSlice 34 2 {toList:=[(0,Operand.const (Value.int .u8 (165))),(1,Operand.const (Value.int .u8 (166)))]})=some (y,u)/\eB env Builtin.append {toList:=[34,34]} [A,y] (r.Y+2) u=some ((pa b e d),m)/\aW (c.Y) (m.Y) (a1 env.D 25 ⟨i,0,0,0,4⟩ (aY m 11)=some (J.ptr (ba z))/\i<m.Y/\a1 env.D 34 ⟨g,0,0,1,2⟩ (aY m 11)=some (J.slice none 0 f)/\g<m.Y/\ec env.D 34 ((pa b e d)) none (some (.int .i64 0)) none=some (J.slice (some ⟨b,e,d,0,1⟩) 0 2)/\bM 26 [.ptr (ba z),.slice (some ⟨b,e,d,0,1⟩) 0 2] (aY m 11) p n/\aW (c.Y) (n.Y) (a1 env.D 27 ⟨i,0,0,1,4⟩ (aY n 8)=some (J.ptr (cB B))/\i<n.Y/\a1 env.D 34 ⟨g,0,0,1,2⟩ (aY n 8)=some (J.slice none 0 f)/\g<n.Y/\bM 31 [.ptr (cB B),.slice none 0 f] (aY n 8) q a/\aW (c.Y) (a.Y) (a1 env.D 34 ⟨g,0,0,1,2⟩ (gv a)=some (J.slice none 0 f)/\g<a.Y/\ec env.D 34 ((pa b e d)) none (some (.int .i64 0)) none=some (J.slice (some ⟨b,e,d,0,1⟩) 0 2)/\er env (a.Y+5) (bf [(42,.slice (some ⟨b,e,d,0,1⟩) 0 2)]) (gv a) (Op.convert 34 9 (Operand.tmp 42))=some (J.str [],(gv a))/\Nat.le (Nat.succ (aT.id ⟨b,e,d,0,1⟩)) (a.Y)/\a1 env.D 34 ⟨g,0,0,1,2⟩ (gv a)=some (J.slice none 0 f)/\g<a.Y/\er env (a.Y+8) (bf [(45,.slice none 0 f)]) (gv a) (Op.convert 34 9 (Operand.tmp 45))=some (J.str [],(gv a))/\some (J.bool true)=some (J.bool true)/\a1 env.D 34 ⟨g,0,0,1,2⟩ (gv a)=some (J.slice none 0 f)/\g<a.Y/\dL env.D 34 ((pa b e d)) (.int .i64 0)=some (J.ptr (some ⟨b,e,d,0,1⟩))/\a1 env.D 5 ⟨b,e,d,0,1⟩ (gv a)=some (.int .u8 165)/\b<a.Y/\a1 env.D 34 ⟨g,0,0,1,2⟩ (gv a)=some (J.slice none 0 f)/\g<a.Y/\dL env.D 34 ((pa b e d)) (.int .i64 1)=some (J.ptr (some ⟨b,e,d+1,0,1⟩))/\a1 env.D 5 ⟨b,e,d+1,0,1⟩ (gv a)=some (.int .u8 166)/\b<a.Y/\aW (c.Y) (a.Y+30) (bR (c.Y) 126 (Code.loop (br 15 0)) [(0,.ptr (b7 i)),(5,p),(6,q),(7,(pa b e d)),(8,.bool true),(9,.int .i64 0)] (T.mk (a.Y+30+1) (T.ay (gv a))) (.exit 1) [(0,.ptr (b7 i)),(5,p),(6,q),(8,.bool true)] k/\aW (c.Y) (k.Y) (aW (c.Y) (k.Y+2) (a1 env.D 30 ⟨i,0,0,2,4⟩ (aY k 13)=some E/\bd env cr (k.Y+8) (bf [(108,p)]) (aY k 13) (Op.buildSlice 30 1 {toList:=[(0,Operand.tmp 108)]})=some (C,v)/\eB env Builtin.append {toList:=[30,30]} [E,C] (k.Y+9) v=some (F,w)/\bd env cr (k.Y+12) (bf [(112,.ptr (some ⟨i,0,0,2,4⟩)),(110,F)]) w (Op.store 30 (Operand.tmp 112) (Operand.tmp 110))=some (J.tuple [],l)/\aW (c.Y) (l.Y) (a1 env.D 30 ⟨i,0,0,3,4⟩ (aY l 11)=some H/\bd env cr (l.Y+6) (bf [(118,q)]) (aY l 11) (Op.buildSlice 30 1 {toList:=[(0,Operand.tmp 118)]})=some (G,s)/\eB env Builtin.append {toList:=[30,30]} [H,G] (l.Y+7) s=some (I,t)/\bd env cr (l.Y+10) (bf [(122,.ptr (some ⟨i,0,0,3,4⟩)),(120,I)]) t (Op.store 30 (Operand.tmp 122) (Operand.tmp 120))=some (J.tuple [],o)/\aW (c.Y) (o.Y) (bM 33 [p,q] (aY o 4) (.bool true) (aY o 4)/\bk (c.Y) (o.Y+4) (K (.bool true) (aY o 4)))))))))))))))))) :
 bC 15 [.ptr (b7 i),.agg [.int .i64 1,.slice none 0 f]] c K :=
 bI bT (.ak (.act 0 (.ptr (some ⟨g,0,0,0,2⟩)) λx=>j) (.ak (.val 2001 (.int .i64 1)) (.ak (.val 6002 (.slice none 0 f)) (.ak (.act 6003 A λx=>r) (.ak (.act 7001 y λx=>u) (.ak (.act 7002 ((pa b e d)) λx=>m) (.ak (.ej 8003 (.ptr (ba z))) (.ak (.ej 8006 (.slice none 0 f)) (.ak (.val 8008 (.slice (some ⟨b,e,d,0,1⟩) 0 2)) (.ak (.act 8009 p λx=>n) (.ak (.ej 9003 (.ptr (cB B))) (.ak (.ej 9005 (.slice none 0 f)) (.ak (.act 9006 q λx=>a) (.ak (.ej 10002 (.slice none 0 f)) (.ak (.val 10004 (.slice (some ⟨b,e,d,0,1⟩) 0 2)) (.ak (.ng 10005 (.str []) λh=>h) (.ak (.ej 10007 (.slice none 0 f)) (.ak (.ng 10008 (.str []) λh=>h) (.ak (.val 10009 (.bool true)) (.ak (.ej 10013 (.slice none 0 f)) (.ak (.val 10015 (.ptr (some ⟨b,e,d,0,1⟩))) (.ak (.ej 10016 (.int .u8 165)) (.ak (.ej 10022 (.slice none 0 f)) (.ak (.val 10025 (.ptr (some ⟨b,e,d+1,0,1⟩))) (.ak (.ej 10026 (.int .u8 166)) (.ak (.keep [0,5,6,7,8,9]) (.ak (.loop [(0,.ptr (b7 i)),(5,p),(6,q),(8,.bool true)] k (.exit 1)) (.ak (.val 22004 E) (.ak (.act 22006 C λx=>v) (.ak (.act 22007 F λx=>w) (.ak (.act 22010 (.tuple []) λx=>l) (.ak (.val 23004 H) (.ak (.act 23006 G λx=>s) (.ak (.act 23007 I λx=>t) (.ak (.act 23010 (.tuple []) λx=>o) (.ak (.val 24002 (.bool true)) .nil)))))))))))))))))))))))))))))))))))) L
theorem SW(a b g c j k d l m e:T)(f v n o z y:Nat)(A:Option aT)(h i q t p r s u:J)(w:bm)(B:aW (a.Y) (a.Y) (bd env cr (a.Y+0) (bf [(1,.agg [.int .i64 2,.slice A z y])]) (aY a 2) (Op.box 36 (Operand.tmp 1))=some (J.ptr (some ⟨v,0,0,0,2⟩),b)/\aW (a.Y) (b.Y) (aW (a.Y) (b.Y+2) (a1 env.D 3 ⟨v,0,0,0,2⟩ (aY b 4)=some (.int .i64 2)/\aW (a.Y) (b.Y+4) (aW (a.Y) (b.Y+6) (aW (a.Y) (b.Y+8) (a1 env.D 25 ⟨f,0,0,0,4⟩ (aY b 14)=some (J.ptr (ba n))/\bM 27 [.ptr (ba n)] (aY b 14) h g/\aW (a.Y) (g.Y) (a1 env.D 27 ⟨f,0,0,1,4⟩ (aY g 6)=some (J.ptr (cB o))/\bM 32 [.ptr (cB o)] (aY g 6) i c/\aW (a.Y) (c.Y) (a1 env.D 30 ⟨f,0,0,2,4⟩ (aY c 11)=some q/\bd env cr (c.Y+6) (bf [(108,h)]) (aY c 11) (Op.buildSlice 30 1 {toList:=[(0,Operand.tmp 108)]})=some (p,j)/\eB env Builtin.append {toList:=[30,30]} [q,p] (c.Y+7) j=some (r,k)/\bd env cr (c.Y+10) (bf [(112,.ptr (some ⟨f,0,0,2,4⟩)),(110,r)]) k (Op.store 30 (Operand.tmp 112) (Operand.tmp 110))=some (J.tuple [],d)/\aW (a.Y) (d.Y) (a1 env.D 30 ⟨f,0,0,3,4⟩ (aY d 11)=some t/\bd env cr (d.Y+6) (bf [(118,i)]) (aY d 11) (Op.buildSlice 30 1 {toList:=[(0,Operand.tmp 118)]})=some (s,l)/\eB env Builtin.append {toList:=[30,30]} [t,s] (d.Y+7) l=some (u,m)/\bd env cr (d.Y+10) (bf [(122,.ptr (some ⟨f,0,0,3,4⟩)),(120,u)]) m (Op.store 30 (Operand.tmp 122) (Operand.tmp 120))=some (J.tuple [],e)/\aW (a.Y) (e.Y) (bM 33 [h,i] (aY e 4) (.bool true) (aY e 4)/\bk (a.Y) (e.Y+4) (w (.bool true) (aY e 4))))))))))))) :
 bC 15 [.ptr (b7 f),.agg [.int .i64 2,.slice A z y]] a w :=
 bI bT (.ak (.act 0 (.ptr (some ⟨v,0,0,0,2⟩)) λx=>b) (.ak (.val 2001 (.int .i64 2)) (.ak (.val 18003 (.ptr (ba n))) (.ak (.act 18004 h λx=>g) (.ak (.val 19003 (.ptr (cB o))) (.ak (.act 19004 i λx=>c) (.ak (.val 22004 q) (.ak (.act 22006 p λx=>j) (.ak (.act 22007 r λx=>k) (.ak (.act 22010 (.tuple []) λx=>d) (.ak (.val 23004 t) (.ak (.act 23006 s λx=>l) (.ak (.act 23007 u λx=>m) (.ak (.act 23010 (.tuple []) λx=>e) (.ak (.val 24002 (.bool true)) .nil))))))))))))))) B
theorem SX(b a d f:T)(e i g h l k c:Nat)(m:Option aT)(j:bm)(n:aW (b.Y) (b.Y) (bd env cr (b.Y+0) (bf [(1,.agg [.int .i64 3,.slice m l k])]) (aY b 2) (Op.box 36 (Operand.tmp 1))=some (J.ptr (some ⟨i,0,0,0,2⟩),a)/\aW (b.Y) (a.Y) (aW (b.Y) (a.Y+2) (a1 env.D 3 ⟨i,0,0,0,2⟩ (aY a 4)=some (.int .i64 3)/\aW (b.Y) (a.Y+4) (aW (b.Y) (a.Y+6) (aW (b.Y) (a.Y+8) (aW (b.Y) (a.Y+10) (a1 env.D 25 ⟨e,0,0,0,4⟩ (aY a 22)=some (J.ptr (ba g))/\e<a.Y+10/\bM 16 [.ptr (ba g)] (aY a 22) (.int .i64 (c:Int)) d/\mS (a.Y+22) (aY a 22) d=true/\a1 env.D 27 ⟨e,0,0,1,4⟩ d=some (J.ptr (cB h))/\e<a.Y+10/\bM 17 [.ptr (cB h)] d (.int .i64 (c:Int)) f/\some (J.bool ((c:Int) == (c:Int)))=some (J.bool true)/\bk (b.Y) (f.Y) (j (.bool true) f))))))))) :
 bC 15 [.ptr (b7 e),.agg [.int .i64 3,.slice m l k]] b j :=
 bI bT (.ak (.act 0 (.ptr (some ⟨i,0,0,0,2⟩)) λx=>a) (.ak (.val 2001 (.int .i64 3)) (.ak (.ej 21003 (.ptr (ba g))) (.ak (.act 21004 (.int .i64 (c:Int)) λx=>d) (.ak (.ej 21008 (.ptr (cB h))) (.ak (.act 21009 (.int .i64 (c:Int)) λx=>f) (.ak (.val 21010 (.bool true)) .nil))))))) n
theorem SY(b a:T)(i d g f:Nat)(c:Int)(h:Option aT)(e:bm)(j:aW (b.Y) (b.Y) (bd env cr (b.Y+0) (bf [(1,.agg [.int .i64 c,.slice h g f])]) (aY b 2) (Op.box 36 (Operand.tmp 1))=some (J.ptr (some ⟨d,0,0,0,2⟩),a)/\aW (b.Y) (a.Y) (aW (b.Y) (a.Y+2) (a1 env.D 3 ⟨d,0,0,0,2⟩ (aY a 4)=some (.int .i64 c)/\aW (b.Y) (a.Y+4) (some (J.bool (c == 1))=some (J.bool false)/\aW (b.Y) (a.Y+6) (some (J.bool (c == 2))=some (J.bool false)/\aW (b.Y) (a.Y+8) (some (J.bool (c == 3))=some (J.bool false)/\aW (b.Y) (a.Y+10) (bk (b.Y) (a.Y+11) (e (.bool true) (T.mk (a.Y+10+1) (T.ay (T.mk (a.Y+8+2) (T.ay (T.mk (a.Y+6+2) (T.ay (T.mk (a.Y+4+2) (T.ay (T.mk (a.Y+2+2) (T.ay (aY a 2)))))))))))))))))))) :
 bC 15 [.ptr (b7 i),.agg [.int .i64 c,.slice h g f]] b e :=
 bI bT (.ak (.act 0 (.ptr (some ⟨d,0,0,0,2⟩)) λx=>a) (.ak (.val 2001 (.int .i64 c)) (.ak (.val 4000 (.bool false)) (.ak (.val 17000 (.bool false)) (.ak (.val 20000 (.bool false)) .nil))))) j
abbrev jz(a:T):T:=(T.mk (a.Y+23) (a.2))
theorem H8(a:T)(h f b d c:Nat)(g n l m:Option aT)(i j:aT)(k:bW->a8->T->Prop)(p:aW h (a.Y) (a1 env.D 30 ⟨f,0,0,2,4⟩ (aY a 7)=some (J.slice g b b)/\((d:Int)<(b:Int)->aW h (a.Y+7) (a1 env.D 30 ⟨f,0,0,2,4⟩ (jz a)=some (J.slice g b b)/\f<a.Y+7/\dL env.D 30 (.slice g b b) (.int .i64 (d:Int))=some (J.ptr (some i))/\a1 env.D 56 i (jz a)=some (J.slice l c c)/\aT.id i<a.Y+7/\a1 env.D 30 ⟨f,0,0,3,4⟩ (jz a)=some (J.slice n b b)/\f<a.Y+7/\dL env.D 30 (.slice n b b) (.int .i64 (d:Int))=some (J.ptr (some j))/\a1 env.D 56 j (jz a)=some (J.slice m c c)/\aT.id j<a.Y+7/\bM 33 [.slice l c c,.slice m c c] (jz a) (.bool true) (jz a)/\aW h (a.Y+23) ((-9223372036854775808<=(d:Int)+1/\(d:Int)+1<=9223372036854775807)/\k .normal [(0,.ptr (b7 f)),(3,.int .i64 ((d:Int)+1))] (T.mk (a.Y+23+3) (T.ay (T.mk (a.Y+7+16) (T.ay (aY a 7))))))))/\(¬(d:Int)<(b:Int)->k (.exit 0) [(0,.ptr (b7 f)),(3,.int .i64 (d:Int))] (aY a 7)))) :
 ∃e o aa,bR h 169 (br 18 0) [(0,.ptr (b7 f)),(3,.int .i64 d)] a e o aa/\k e o aa :=
 di cP mixed bT (hs:= .ak (.val 2004 (.slice g b b)) (.aq 2006 (.ak (.ej 4003 (.slice g b b)) (.ak (.val 4005 (.ptr (some i))) (.ak (.ej 4006 (.slice l c c)) (.ak (.ej 4010 (.slice n b b)) (.ak (.val 4012 (.ptr (some j))) (.ak (.ej 4013 (.slice m c c)) (.ak (.val 4014 (.bool true)) (ag 3001 .nil)))))))) .nil)) (keep:=[0,3]) ar p
theorem H9(c l:T)(k j a d f b:Nat)(h i:Option aT)(g n:aT)(m:bW->a8->T->Prop)(p:aW k (c.Y) (a1 env.D 30 ⟨j,0,0,2,4⟩ (aY c 10)=some (J.slice h a a)/\dL env.D 30 (.slice h a a) (.int .i64 (d:Int))=some (J.ptr (some g))/\a1 env.D 56 g (aY c 10)=some (J.slice i b b)/\((f:Int)<(b:Int)->aW k (c.Y+10) (a1 env.D 30 ⟨j,0,0,2,4⟩ (jz c)=some (J.slice h a a)/\dL env.D 30 (.slice h a a) (.int .i64 (d:Int))=some (J.ptr (some g))/\a1 env.D 56 g (jz c)=some (J.slice i b b)/\(-9223372036854775808<= -10- (d:Int)/\ -10- (d:Int)<=9223372036854775807)/\dL env.D 56 (.slice i b b) (.int .i64 (f:Int))=some (J.ptr (some n))/\bd env cr (c.Y+22) (bf [(69,.ptr (some n)),(68,.agg [.int .i8 0,.int .i32 0,.int .u8 0,.int .i64 (-10- (d:Int)),.int .i64 0,.str []])]) (jz c) (Op.store 42 (Operand.tmp 69) (Operand.tmp 68))=some (J.tuple [],l)/\aW k (l.Y) ((-9223372036854775808<=(f:Int)+1/\(f:Int)+1<=9223372036854775807)/\m .normal [(0,.ptr (b7 j)),(4,.int .i64 (d:Int)),(5,.int .i64 ((f:Int)+1))] (aY l 3))))/\(¬(f:Int)<(b:Int)->m (.exit 4) [(0,.ptr (b7 j)),(4,.int .i64 (d:Int)),(5,.int .i64 (f:Int))] (aY c 10)))) :
 ∃e o aa,bR k 169 (br 18 2) [(0,.ptr (b7 j)),(4,.int .i64 d),(5,.int .i64 f)] c e o aa/\m e o aa :=
 di cP mixed bT (hs:= .ak (.val 10004 (.slice h a a)) (.ak (.val 10006 (.ptr (some g))) (.ak (.val 10007 (.slice i b b)) (.aq 10009 (.ak (.val 12003 (.slice h a a)) (.ak (.val 12005 (.ptr (some g))) (.ak (.val 12006 (.slice i b b)) (ag 12009 (.ak (.val 12011 (.ptr (some n))) (.ak (.act 12012 (.tuple []) λx=>l) (ag 11001 .nil))))))) .nil)))) (keep:=[0,4,5]) ar p
theorem Ia(b g:T)(f c d a:Nat)(k:Option aT)(j:J)(h:bW->a8->T->Prop)(l:aW f (b.Y) (a1 env.D 30 ⟨c,0,0,2,4⟩ (aY b 7)=some (J.slice k d d)/\((a:Int)<(d:Int)->aW f (b.Y+7) (bR f 169 (Code.loop (br 18 2)) [(0,.ptr (b7 c)),(4,.int .i64 (a:Int)),(5,.int .i64 0)] (T.mk (b.Y+7+1) (T.ay (aY b 7))) (.exit 4) [(0,.ptr (b7 c)),(4,.int .i64 (a:Int)),(5,j)] g/\aW f (g.Y) ((-9223372036854775808<=(a:Int)+1/\(a:Int)+1<=9223372036854775807)/\h .normal [(0,.ptr (b7 c)),(4,.int .i64 ((a:Int)+1))] (aY g 3))))/\(¬(a:Int)<(d:Int)->h (.exit 2) [(0,.ptr (b7 c)),(4,.int .i64 (a:Int))] (aY b 7)))) :
 ∃e i aa,bR f 169 (br 18 1) [(0,.ptr (b7 c)),(4,.int .i64 a)] b e i aa/\h e i aa :=
 di cP mixed bT (hs:= .ak (.val 7004 (.slice k d d)) (.aq 7006 (.ak (.keep [0,4,5]) (.ak (.loop [(0,.ptr (b7 c)),(4,.int .i64 (a:Int)),(5,j)] g (.exit 4)) (ag 8001 .nil))) .nil)) (keep:=[0,4]) ar l
theorem Ib(a g f:T)(d m c b:Nat)(l j k i:J)(h:bW->a8->T->Prop)(o:aW d (a.Y) (((b:Int)<70->aW d (a.Y+2) ((-9223372036854775808<=10+(c:Int)/\10+(c:Int)<=9223372036854775807)/\bd env cr (a.Y+6) (bf [(93,.agg [.int .i8 0,.int .i32 0,.int .u8 0,.int .i64 (10+(c:Int)),.int .i64 0,.str []])]) (aY a 9) (Op.buildSlice 56 1 {toList:=[(0,Operand.tmp 93)]})=some (i,g)/\eB env Builtin.append {toList:=[56,56]} [j,i] (a.Y+7) g=some (k,f)/\aW d (f.Y) ((-9223372036854775808<=(b:Int)+1/\(b:Int)+1<=9223372036854775807)/\h .normal [(0,.ptr (b7 m)),(6,l),(7,.int .i64 (c:Int)),(8,k),(9,.int .i64 ((b:Int)+1))] (aY f 3))))/\(¬(b:Int)<70->h (.exit 8) [(0,.ptr (b7 m)),(6,l),(7,.int .i64 (c:Int)),(8,j),(9,.int .i64 (b:Int))] (AU a)))) :
 ∃e n aa,bR d 169 (br 18 4) [(0,.ptr (b7 m)),(6,l),(7,.int .i64 c),(8,j),(9,.int .i64 b)] a e n aa/\h e n aa :=
 di cP mixed bT (hs:= .aq 19001 (ag 21002 (.ak (.act 21004 i λx=>g) (.ak (.act 21005 k λx=>f) (ag 20001 .nil)))) .nil) (keep:=[0,6,7,8,9]) ar o
theorem Ic(b g k j:T)(f d a c:Nat)(i:Option aT)(m:aT)(h o p n q s:J)(l:bW->a8->T->Prop)(t:aW f (b.Y) (a1 env.D 30 ⟨d,0,0,2,4⟩ (aY b 7)=some (J.slice i a a)/\((c:Int)<(a:Int)->aW f (b.Y+7) (a1 env.D 30 ⟨d,0,0,2,4⟩ (aY b 15)=some (J.slice i a a)/\dL env.D 30 (.slice i a a) (.int .i64 (c:Int))=some (J.ptr (some m))/\a1 env.D 56 m (aY b 15)=some o/\aW f (b.Y+15) (bR f 169 (Code.loop (br 18 4)) [(0,.ptr (b7 d)),(6,h),(7,.int .i64 (c:Int)),(8,o),(9,.int .i64 0)] (T.mk (b.Y+15+1) (T.ay (T.mk (b.Y+7+8) (T.ay (aY b 7))))) (.exit 8) [(0,.ptr (b7 d)),(6,h),(7,.int .i64 (c:Int)),(8,p),(9,s)] g/\aW f (g.Y) (bd env cr (g.Y+2) (bf [(97,p)]) (aY g 5) (Op.buildSlice 30 1 {toList:=[(0,Operand.tmp 97)]})=some (n,k)/\eB env Builtin.append {toList:=[30,30]} [h,n] (g.Y+3) k=some (q,j)/\aW f (j.Y) ((-9223372036854775808<=(c:Int)+1/\(c:Int)+1<=9223372036854775807)/\l .normal [(0,.ptr (b7 d)),(6,q),(7,.int .i64 ((c:Int)+1))] (aY j 3))))))/\(¬(c:Int)<(a:Int)->l (.exit 6) [(0,.ptr (b7 d)),(6,h),(7,.int .i64 (c:Int))] (aY b 7)))) :
 ∃e r aa,bR f 169 (br 18 3) [(0,.ptr (b7 d)),(6,h),(7,.int .i64 c)] b e r aa/\l e r aa :=
 di cP mixed bT (hs:= .ak (.val 15004 (.slice i a a)) (.aq 15006 (.ak (.val 17003 (.slice i a a)) (.ak (.val 17005 (.ptr (some m))) (.ak (.val 17006 o) (.ak (.keep [0,6,7,8,9]) (.ak (.loop [(0,.ptr (b7 d)),(6,h),(7,.int .i64 (c:Int)),(8,p),(9,s)] g (.exit 8)) (.ak (.act 22002 n λx=>k) (.ak (.act 22003 q λx=>j) (ag 16001 .nil)))))))) .nil)) (keep:=[0,6,7]) ar t
abbrev jA(a:T):T:=(T.mk (a.Y+58) (a.2))
theorem Ie(b:T)(m l a d f c k:Nat)(h n j s:Option aT)(g p i u:aT)(q:Int)(o:bW->a8->T->Prop)(t:aW m (b.Y) (dL env.D 30 (.slice n a a) (.int .i64 (d:Int))=some (J.ptr (some p))/\a1 env.D 56 p (aY b 7)=some (J.slice s k k)/\((f:Int)<(k:Int)->aW m (b.Y+7) (a1 env.D 30 ⟨l,0,0,2,4⟩ (jA b)=some (J.slice h a a)/\dL env.D 30 (.slice h a a) (.int .i64 (d:Int))=some (J.ptr (some g))/\a1 env.D 56 g (jA b)=some (J.slice j c c)/\some (J.bool (decide ((f:Int)<(c:Int))))=some (J.bool true)/\a1 env.D 30 ⟨l,0,0,2,4⟩ (jA b)=some (J.slice h a a)/\dL env.D 30 (.slice h a a) (.int .i64 (d:Int))=some (J.ptr (some g))/\a1 env.D 56 g (jA b)=some (J.slice j c c)/\dL env.D 56 (.slice j c c) (.int .i64 (f:Int))=some (J.ptr (some i))/\a1 env.D 3 {id:=aT.id i,ab:=aT.ab i,idx:=aT.idx i,fld:=aT.fld i+3,es:=aT.es i} (jA b)=some (.int .i64 q)/\(-9223372036854775808<= -10- (d:Int)/\ -10- (d:Int)<=9223372036854775807)/\some (J.bool (q != -10- (d:Int)))=some (J.bool false)/\a1 env.D 30 ⟨l,0,0,2,4⟩ (jA b)=some (J.slice h a a)/\dL env.D 30 (.slice h a a) (.int .i64 (d:Int))=some (J.ptr (some g))/\a1 env.D 56 g (jA b)=some (J.slice j c c)/\some (J.bool (decide ((f:Int)≥(c:Int))))=some (J.bool false)/\aW m (b.Y+58) ((-9223372036854775808<=(f:Int)+1/\(f:Int)+1<=9223372036854775807)/\o .normal [(0,.ptr (b7 l)),(6,.slice n a a),(10,.int .i64 (d:Int)),(11,.int .i64 ((f:Int)+1))] (T.mk (b.Y+58+3) (T.ay (T.mk (b.Y+7+51) (T.ay (aY b 7))))))))/\(¬(f:Int)<(k:Int)->o (.exit 12) [(0,.ptr (b7 l)),(6,.slice n a a),(10,.int .i64 (d:Int)),(11,.int .i64 (f:Int))] (aY b 7)))) :
 ∃e r aa,bR m 169 (br 18 6) [(0,.ptr (b7 l)),(6,.slice n a a),(10,.int .i64 d),(11,.int .i64 f)] b e r aa/\o e r aa :=
 di cP mixed bT (hs:= .ak (.val 27003 (.ptr (some p))) (.ak (.val 27004 (.slice s k k)) (.aq 27006 (.ak (.val 29004 (.slice h a a)) (.ak (.val 29006 (.ptr (some g))) (.ak (.val 29007 (.slice j c c)) (.ak (.val 29009 (.bool true)) (.ak (.val 29014 (.slice h a a)) (.ak (.val 29016 (.ptr (some g))) (.ak (.val 29017 (.slice j c c)) (.ak (.val 29019 (.ptr (some i))) (.ak (.val 29021 (.int .i64 q)) (ag 29023 (.ak (.val 29024 (.bool false)) (.ak (.val 29031 (.slice h a a)) (.ak (.val 29033 (.ptr (some g))) (.ak (.val 29034 (.slice j c c)) (.ak (.val 29036 (.bool false)) (ag 28001 .nil)))))))))))))))) .nil))) (keep:=[0,6,10,11]) ar t
theorem SZ(b:T)(o n a d f g c:Nat)(k m p l:Option aT)(i j u h:aT)(r:Int)(q:bW->a8->T->Prop)(t:aW o (b.Y) (dL env.D 30 (.slice m a a) (.int .i64 (d:Int))=some (J.ptr (some j))/\a1 env.D 56 j (aY b 7)=some (J.slice l c c)/\((f:Int)<(c:Int)->aW o (b.Y+7) (a1 env.D 30 ⟨n,0,0,2,4⟩ (jA b)=some (J.slice k a a)/\dL env.D 30 (.slice k a a) (.int .i64 (d:Int))=some (J.ptr (some i))/\a1 env.D 56 i (jA b)=some (J.slice p g g)/\some (J.bool (decide ((f:Int)<(g:Int))))=some (J.bool false)/\a1 env.D 30 ⟨n,0,0,2,4⟩ (jA b)=some (J.slice k a a)/\dL env.D 30 (.slice k a a) (.int .i64 (d:Int))=some (J.ptr (some i))/\a1 env.D 56 i (jA b)=some (J.slice p g g)/\some (J.bool (decide ((f:Int)≥(g:Int))))=some (J.bool true)/\dL env.D 30 (.slice m a a) (.int .i64 (d:Int))=some (J.ptr (some j))/\a1 env.D 56 j (jA b)=some (J.slice l c c)/\dL env.D 56 (.slice l c c) (.int .i64 (f:Int))=some (J.ptr (some h))/\a1 env.D 3 {id:=aT.id h,ab:=aT.ab h,idx:=aT.idx h,fld:=aT.fld h+3,es:=aT.es h} (jA b)=some (.int .i64 r)/\(-9223372036854775808<=10+(d:Int)/\10+(d:Int)<=9223372036854775807)/\some (J.bool (r != 10+(d:Int)))=some (J.bool false)/\aW o (b.Y+58) ((-9223372036854775808<=(f:Int)+1/\(f:Int)+1<=9223372036854775807)/\q .normal [(0,.ptr (b7 n)),(6,.slice m a a),(10,.int .i64 (d:Int)),(11,.int .i64 ((f:Int)+1))] (T.mk (b.Y+58+3) (T.ay (T.mk (b.Y+7+51) (T.ay (aY b 7))))))))/\(¬(f:Int)<(c:Int)->q (.exit 12) [(0,.ptr (b7 n)),(6,.slice m a a),(10,.int .i64 (d:Int)),(11,.int .i64 (f:Int))] (aY b 7)))) :
 ∃e s aa,bR o 169 (br 18 6) [(0,.ptr (b7 n)),(6,.slice m a a),(10,.int .i64 d),(11,.int .i64 f)] b e s aa/\q e s aa :=
 di cP mixed bT (hs:= .ak (.val 27003 (.ptr (some j))) (.ak (.val 27004 (.slice l c c)) (.aq 27006 (.ak (.val 29004 (.slice k a a)) (.ak (.val 29006 (.ptr (some i))) (.ak (.val 29007 (.slice p g g)) (.ak (.val 29009 (.bool false)) (.ak (.val 29031 (.slice k a a)) (.ak (.val 29033 (.ptr (some i))) (.ak (.val 29034 (.slice p g g)) (.ak (.val 29036 (.bool true)) (.ak (.val 29040 (.ptr (some j))) (.ak (.val 29041 (.slice l c c)) (.ak (.val 29043 (.ptr (some h))) (.ak (.val 29045 (.int .i64 r)) (ag 29047 (.ak (.val 29048 (.bool false)) (ag 28001 .nil))))))))))))))) .nil))) (keep:=[0,6,10,11]) ar t
theorem If(c h:T)(g d a b:Nat)(l f:Option aT)(k:J)(i:bW->a8->T->Prop)(m:aW g (c.Y) (a1 env.D 30 ⟨d,0,0,2,4⟩ (aY c 7)=some (J.slice l a a)/\((b:Int)<(a:Int)->aW g (c.Y+7) (bR g 169 (Code.loop (br 18 6)) [(0,.ptr (b7 d)),(6,.slice f a a),(10,.int .i64 (b:Int)),(11,.int .i64 0)] (T.mk (c.Y+7+1) (T.ay (aY c 7))) (.exit 12) [(0,.ptr (b7 d)),(6,.slice f a a),(10,.int .i64 (b:Int)),(11,k)] h/\aW g (h.Y) ((-9223372036854775808<=(b:Int)+1/\(b:Int)+1<=9223372036854775807)/\i .normal [(0,.ptr (b7 d)),(6,.slice f a a),(10,.int .i64 ((b:Int)+1))] (aY h 3))))/\(¬(b:Int)<(a:Int)->i (.exit 10) [(0,.ptr (b7 d)),(6,.slice f a a),(10,.int .i64 (b:Int))] (aY c 7)))) :
 ∃e j aa,bR g 169 (br 18 5) [(0,.ptr (b7 d)),(6,.slice f a a),(10,.int .i64 b)] c e j aa/\i e j aa :=
 di cP mixed bT (hs:= .ak (.val 24004 (.slice l a a)) (.aq 24006 (.ak (.keep [0,6,10,11]) (.ak (.loop [(0,.ptr (b7 d)),(6,.slice f a a),(10,.int .i64 (b:Int)),(11,k)] h (.exit 12)) (ag 25001 .nil))) .nil)) (keep:=[0,6,10]) ar m
theorem S0(a f c g d:T)(b:Nat)(e i j k l:J)(h:bm)(m:aW (a.Y) (a.Y) (aW (a.Y) (a.Y+1) (bR (a.Y) 169 (Code.loop (br 18 0)) [(0,.ptr (b7 b)),(3,.int .i64 0)] (T.mk (a.Y+1+1) (T.ay (aY a 1))) (.exit 0) [(0,.ptr (b7 b)),(3,i)] f/\aW (a.Y) (f.Y) (bR (a.Y) 169 (Code.loop (br 18 1)) [(0,.ptr (b7 b)),(4,.int .i64 0)] (aY f 1) (.exit 2) [(0,.ptr (b7 b)),(4,j)] c/\aW (a.Y) (c.Y) (aW (a.Y) (c.Y+1) (bR (a.Y) 169 (Code.loop (br 18 3)) [(0,.ptr (b7 b)),(6,.slice none 0 0),(7,.int .i64 0)] (T.mk (c.Y+1+1) (T.ay (aY c 1))) (.exit 6) [(0,.ptr (b7 b)),(6,e),(7,k)] g/\aW (a.Y) (g.Y) (bR (a.Y) 169 (Code.loop (br 18 5)) [(0,.ptr (b7 b)),(6,e),(10,.int .i64 0)] (aY g 1) (.exit 10) [(0,.ptr (b7 b)),(6,e),(10,l)] d/\aW (a.Y) (d.Y) (bk (a.Y) (d.Y+1) (h (.bool true) (aY d 1)))))))))) :
 bC 18 [.ptr (b7 b)] a h :=
 bI bT (.ak (.keep [0,3]) (.ak (.loop [(0,.ptr (b7 b)),(3,i)] f (.exit 0)) (.ak (.keep [0,4]) (.ak (.loop [(0,.ptr (b7 b)),(4,j)] c (.exit 2)) (.ak (.keep [0,6,7]) (.ak (.loop [(0,.ptr (b7 b)),(6,e),(7,k)] g (.exit 6)) (.ak (.keep [0,6,10]) (.ak (.loop [(0,.ptr (b7 b)),(6,e),(10,l)] d (.exit 10)) .nil)))))))) m
theorem S1(a:T)(e d h g:Nat)(f i:Option aT)(b:T)(c:bm)(j:aW (a.Y) (a.Y) (aW (a.Y) (a.Y+1) (bM 13 [.slice f e d] (aY a 7) (.bool true) b/\aW (a.Y) (b.Y) (bk (a.Y) (b.Y+1) (c (.bool true) (aY b 1)))))) :
 bC 3 [.slice f e d,.slice i h g] a c :=
 bI bT (.ak (.act 1001 (.bool true) λx=>b) .nil) j
theorem S2(a:T)(f d g e:Nat)(h i:Option aT)(c b:T)(j:bm)(k:aW (a.Y) (a.Y) (aW (a.Y) (a.Y+1) (bM 13 [.slice h f d] (aY a 7) (.bool false) c/\bM 13 [.slice i g e] c (.bool true) b/\nh [.slice h f d] [.slice i g e] (aY a 7) c (.bool false) (.bool true) c b/\aW (a.Y) (b.Y) (bk (a.Y) (b.Y+1) (j (.bool true) (aY b 1)))))) :
 bC 3 [.slice h f d,.slice i g e] a j :=
 bI bT (.ak (.act 1001 (.bool false) λx=>c) (.ak (.act 1004 (.bool true) λx=>b) .nil)) k
theorem S3(c d g v w:T)(b f k h l a o p:Nat)(m n:Option aT)(i j:aT)(q r:J)(t:bW->a8->T->Prop)(u:aW b (c.Y) (some (J.bool (decide ((a:Int)<(f:Int))))=some (J.bool true)/\aW b (c.Y+10) (some (J.bool (decide ((a:Int)<(f:Int))))=some (J.bool true)/\dL env.D 22 (.slice m f k) (.int .i64 (a:Int))=some (J.ptr (some i))/\a1 env.D 36 i (jz c)=some q/\bM 15 [.ptr (b7 o),q] (jz c) (.bool true) d/\aW b (d.Y) (some (J.bool (decide ((a:Int)<(h:Int))))=some (J.bool true)/\dL env.D 22 (.slice n h l) (.int .i64 (a:Int))=some (J.ptr (some j))/\a1 env.D 36 j (aY d 13)=some r/\bM 15 [.ptr (b7 p),r] (aY d 13) (.bool true) g/\aW b (g.Y) ((-9223372036854775808<=(a:Int)+1/\(a:Int)+1<=9223372036854775807)/\t .normal [(0,.slice m f k),(1,.slice n h l),(5,.ptr (b7 o)),(6,.ptr (b7 p)),(7,.int .i64 ((a:Int)+1))] (aY g 3)))))) :
 ∃e s aa,bR b 109 (br 3 0) [(0,.slice m f k),(1,.slice n h l),(5,.ptr (b7 o)),(6,.ptr (b7 p)),(7,.int .i64 a)] c e s aa/\t e s aa :=
 di cP mixed bT (hs:= .ak (.val 8003 (.bool true)) (.ak (.val 10003 (.bool true)) (.ak (.val 10008 (.ptr (some i))) (.ak (.val 10009 q) (.ak (.act 10010 (.bool true) λx=>d) (.ak (.val 12003 (.bool true)) (.ak (.val 12008 (.ptr (some j))) (.ak (.val 12009 r) (.ak (.act 12010 (.bool true) λx=>g) (ag 9001 .nil)))))))))) (keep:=[0,1,5,6,7]) ar u
theorem S4(d b:T)(c f h i o a k q:Nat)(j p:Option aT)(g:aT)(l:J)(n:bW->a8->T->Prop)(r:aW c (d.Y) (some (J.bool (decide ((a:Int)<(f:Int))))=some (J.bool true)/\aW c (d.Y+10) (some (J.bool (decide ((a:Int)<(f:Int))))=some (J.bool true)/\dL env.D 22 (.slice j f h) (.int .i64 (a:Int))=some (J.ptr (some g))/\a1 env.D 36 g (jz d)=some l/\bM 15 [.ptr (b7 k),l] (jz d) (.bool true) b/\aW c (b.Y) (some (J.bool (decide ((a:Int)<(i:Int))))=some (J.bool false)/\aW c (b.Y+13) ((-9223372036854775808<=(a:Int)+1/\(a:Int)+1<=9223372036854775807)/\n .normal [(0,.slice j f h),(1,.slice p i o),(5,.ptr (b7 k)),(6,.ptr (b7 q)),(7,.int .i64 ((a:Int)+1))] (T.mk (b.Y+13+3) (T.ay (aY b 13)))))))) :
 ∃e m aa,bR c 109 (br 3 0) [(0,.slice j f h),(1,.slice p i o),(5,.ptr (b7 k)),(6,.ptr (b7 q)),(7,.int .i64 a)] d e m aa/\n e m aa :=
 di cP mixed bT (hs:= .ak (.val 8003 (.bool true)) (.ak (.val 10003 (.bool true)) (.ak (.val 10008 (.ptr (some g))) (.ak (.val 10009 l) (.ak (.act 10010 (.bool true) λx=>b) (.ak (.val 12003 (.bool false)) (ag 9001 .nil))))))) (keep:=[0,1,5,6,7]) ar r
theorem S5(b f:T)(c g o d i a q k:Nat)(p j:Option aT)(h:aT)(l:J)(n:bW->a8->T->Prop)(r:aW c (b.Y) (some (J.bool (decide ((a:Int)<(g:Int))))=some (J.bool false)/\some (J.bool (decide ((a:Int)<(d:Int))))=some (J.bool true)/\aW c (b.Y+10) (some (J.bool (decide ((a:Int)<(g:Int))))=some (J.bool false)/\aW c (b.Y+23) (some (J.bool (decide ((a:Int)<(d:Int))))=some (J.bool true)/\dL env.D 22 (.slice j d i) (.int .i64 (a:Int))=some (J.ptr (some h))/\a1 env.D 36 h (aY b 36)=some l/\bM 15 [.ptr (b7 k),l] (aY b 36) (.bool true) f/\aW c (f.Y) ((-9223372036854775808<=(a:Int)+1/\(a:Int)+1<=9223372036854775807)/\n .normal [(0,.slice p g o),(1,.slice j d i),(5,.ptr (b7 q)),(6,.ptr (b7 k)),(7,.int .i64 ((a:Int)+1))] (aY f 3)))))) :
 ∃e m aa,bR c 109 (br 3 0) [(0,.slice p g o),(1,.slice j d i),(5,.ptr (b7 q)),(6,.ptr (b7 k)),(7,.int .i64 a)] b e m aa/\n e m aa :=
 di cP mixed bT (hs:= .ak (.val 8003 (.bool false)) (.ak (.val 8008 (.bool true)) (.ak (.val 10003 (.bool false)) (.ak (.val 12003 (.bool true)) (.ak (.val 12008 (.ptr (some h))) (.ak (.val 12009 l) (.ak (.act 12010 (.bool true) λx=>f) (ag 9001 .nil)))))))) (keep:=[0,1,5,6,7]) ar r
theorem S6(b:T)(f c i d j a m n:Nat)(k l:Option aT)(h:bW->a8->T->Prop)(o:aW f (b.Y) (some (J.bool (decide ((a:Int)<(c:Int))))=some (J.bool false)/\some (J.bool (decide ((a:Int)<(d:Int))))=some (J.bool false)/\h (.exit 0) [(0,.slice k c i),(1,.slice l d j),(5,.ptr (b7 m)),(6,.ptr (b7 n)),(7,.int .i64 (a:Int))] (aY b 10))) :
 ∃e g aa,bR f 109 (br 3 0) [(0,.slice k c i),(1,.slice l d j),(5,.ptr (b7 m)),(6,.ptr (b7 n)),(7,.int .i64 a)] b e g aa/\h e g aa :=
 di cP mixed bT (hs:= .ak (.val 8003 (.bool false)) (.ak (.val 8008 (.bool false)) .nil)) (keep:=[0,1,5,6,7]) ar o
theorem S7(a q m C E p F G g b j k l r s t u:T)(y v z w e n c f o d h i:Nat)(A B:Option aT)(I:J)(H:bm)(K:aW (a.Y) (a.Y) (aW (a.Y) (a.Y+1) (bM 13 [.slice A y v] (aY a 7) (.bool false) q/\bM 13 [.slice B z w] q (.bool false) m/\nh [.slice A y v] [.slice B z w] (aY a 7) q (.bool false) (.bool false) q m/\aW (a.Y) (m.Y) (bM 14 [] (aY m 6) (.ptr (ba e)) C/\bd env cr (m.Y+2) (bf [(15,.agg [.str [],.bool false,.str []])]) C (Op.box 29 (Operand.tmp 15))=some (J.ptr (cB n),E)/\bd env cr (m.Y+4) (bf [(17,.agg [.ptr (ba e),.ptr (cB n),.slice none 0 0,.slice none 0 0])]) E (Op.box 32 (Operand.tmp 17))=some (J.ptr (b7 c),p)/\aW (a.Y) (p.Y) (bM 14 [] (aY p 6) (.ptr (ba f)) F/\bd env cr (p.Y+2) (bf [(20,.agg [.str [],.bool false,.str []])]) F (Op.box 29 (Operand.tmp 20))=some (J.ptr (cB o),G)/\bd env cr (p.Y+4) (bf [(22,.agg [.ptr (ba f),.ptr (cB o),.slice none 0 0,.slice none 0 0])]) G (Op.box 32 (Operand.tmp 22))=some (J.ptr (b7 d),g)/\aW (a.Y) (g.Y) (a1 env.D 25 ⟨c,0,0,0,4⟩ (aY g 12)=some (J.ptr (ba e))/\a1 env.D 25 ⟨d,0,0,0,4⟩ (aY g 12)=some (J.ptr (ba f))/\aW (a.Y) (g.Y+12) (bR (a.Y) 109 (Code.loop (br 3 0)) [(0,.slice A y v),(1,.slice B z w),(5,.ptr (b7 c)),(6,.ptr (b7 d)),(7,.int .i64 0)] (T.mk (g.Y+12+1) (T.ay (aY g 12))) (.exit 0) [(5,.ptr (b7 c)),(6,.ptr (b7 d)),(7,I)] b/\aW (a.Y) (b.Y) (a1 env.D 25 ⟨c,0,0,0,4⟩ (aY b 36)=some (J.ptr (ba e))/\c<b.Y/\bM 16 [.ptr (ba e)] (aY b 36) (.int .i64 (h:Int)) j/\mS (b.Y+36) (aY b 36) j=true/\a1 env.D 27 ⟨c,0,0,1,4⟩ j=some (J.ptr (cB n))/\c<b.Y/\bM 17 [.ptr (cB n)] j (.int .i64 (h:Int)) k/\some (J.bool ((h:Int) == (h:Int)))=some (J.bool true)/\a1 env.D 25 ⟨d,0,0,0,4⟩ k=some (J.ptr (ba f))/\d<b.Y/\bM 16 [.ptr (ba f)] k (.int .i64 (i:Int)) l/\mS (b.Y+36) k l=true/\a1 env.D 27 ⟨d,0,0,1,4⟩ l=some (J.ptr (cB o))/\d<b.Y/\bM 17 [.ptr (cB o)] l (.int .i64 (i:Int)) r/\some (J.bool ((i:Int) == (i:Int)))=some (J.bool true)/\bM 18 [.ptr (b7 c)] r (.bool true) s/\bM 18 [.ptr (b7 d)] s (.bool true) t/\bM 19 [] t (.bool true) u/\nh [.ptr (ba e)] [.ptr (ba f)] (aY b 36) k (.int .i64 (h:Int)) (.int .i64 (i:Int)) j l/\nh [.ptr (cB n)] [.ptr (cB o)] j l (.int .i64 (h:Int)) (.int .i64 (i:Int)) k r/\nh [.ptr (b7 c)] [.ptr (b7 d)] r s (.bool true) (.bool true) s t/\bk (a.Y) (u.Y) (H (.bool true) u))))))))) :
 bC 3 [.slice A y v,.slice B z w] a H :=
 bI bT (.ak (.act 1001 (.bool false) λx=>q) (.ak (.act 1004 (.bool false) λx=>m) (.ak (.act 3000 (.ptr (ba e)) λx=>C) (.ak (.act 3002 (.ptr (cB n)) λx=>E) (.ak (.act 3004 (.ptr (b7 c)) λx=>p) (.ak (.act 4000 (.ptr (ba f)) λx=>F) (.ak (.act 4002 (.ptr (cB o)) λx=>G) (.ak (.act 4004 (.ptr (b7 d)) λx=>g) (.ak (.val 5003 (.ptr (ba e))) (.ak (.val 5009 (.ptr (ba f))) (.ak (.keep [0,1,5,6,7]) (.ak (.loop [(5,.ptr (b7 c)),(6,.ptr (b7 d)),(7,I)] b (.exit 0)) (.ak (.ej 14003 (.ptr (ba e))) (.ak (.act 14004 (.int .i64 (h:Int)) λx=>j) (.ak (.ej 14008 (.ptr (cB n))) (.ak (.act 14009 (.int .i64 (h:Int)) λx=>k) (.ak (.val 14010 (.bool true)) (.ak (.ej 14015 (.ptr (ba f))) (.ak (.act 14016 (.int .i64 (i:Int)) λx=>l) (.ak (.ej 14020 (.ptr (cB o))) (.ak (.act 14021 (.int .i64 (i:Int)) λx=>r) (.ak (.val 14022 (.bool true)) (.ak (.act 14026 (.bool true) λx=>s) (.ak (.act 14030 (.bool true) λx=>t) (.ak (.act 14033 (.bool true) λx=>u) .nil))))))))))))))))))))))))) K
theorem S8(a:T)(d b c:Nat)(f g:Option aT)(e:bm)(h:aW (a.Y) (a.Y) (aW (a.Y) (a.Y+1) (aW (a.Y) (a.Y+3) (a1 env.D 34 ⟨d,0,0,2,6⟩ (aY a 15)=some (J.slice g c c)/\d<a.Y+3/\a1 env.D 34 ⟨d,0,0,1,6⟩ (aY a 15)=some (J.slice f b b)/\d<a.Y+3/\(-9223372036854775808<=(c:Int)+(b:Int)/\(c:Int)+(b:Int)<=9223372036854775807)/\bk (a.Y) (a.Y+15) (e (.int .i64 ((c:Int)+(b:Int))) (T.mk (a.Y+3+12) (T.ay (T.mk (a.Y+1+2) (T.ay (aY a 1)))))))))) :
 bC 16 [.ptr (ba d)] a e :=
 bI bT (.ak (.ej 3003 (.slice g c c)) (.ak (.ej 3008 (.slice f b b)) (ag 3010 .nil))) h
theorem S9(a:T)(b:Nat)(c d:Bytes)(e:bm)(f:aW (a.Y) (a.Y) (aW (a.Y) (a.Y+1) (aW (a.Y) (a.Y+3) (a1 env.D 9 ⟨b,0,0,2,3⟩ (aY a 15)=some (J.str d)/\b<a.Y+3/\a1 env.D 9 ⟨b,0,0,0,3⟩ (aY a 15)=some (J.str c)/\b<a.Y+3/\(-9223372036854775808<=(↑d.length:Int)+(↑c.length:Int)/\(↑d.length:Int)+(↑c.length:Int)<=9223372036854775807)/\bk (a.Y) (a.Y+15) (e (.int .i64 ((↑d.length:Int)+(↑c.length:Int))) (T.mk (a.Y+3+12) (T.ay (T.mk (a.Y+1+2) (T.ay (aY a 1)))))))))) :
 bC 17 [.ptr (cB b)] a e :=
 bI bT (.ak (.ej 3003 (.str d)) (.ak (.ej 3008 (.str c)) (ag 3010 .nil))) f
theorem eL{H:T}{p i es:Nat}{aX:List J}{x:J}{t:TypeId}{ty:bj}(a:(a'.D env t).map (λd=>d.kind.isAgg)=some false)(ag:H.get p=some (ac.aj [.agg aX] es true ty))(ah:aX[i]? =some x):a1 (a'.D env) t ⟨p,0,0,i,es⟩ H=some x:=by obtain⟨d,aa,h2⟩:=b4.1 a;unfold a1;rw [aa,ag];have b:(ac.aj [.agg aX] es true ty).elem? 0 0=some (.agg aX):=rfl;simp only [b];simp [ft,h2,ah]
theorem S'{H:T}{p i es o n c:Nat}{aX:List J}{a:Option aT}{t:TypeId}{ty:bj}(b:(a'.D env t).map (λd=>(d.kind.isAgg,d.size))=some (false,1))(ag:H.get p=some (ac.aj [.agg aX] es true ty))(ah:i<aX.length):eA (a'.D env) t ⟨p,0,0,i,es⟩ (.slice a n c) H=some (H.set p (ac.aj [.agg (aX.set i (.slice a n c))] es true ty)):=by obtain⟨d,aa,h2⟩:=b4.1 b;simp only [bo]at h2;unfold eA;rw [aa,ag];have hle:i+1<=aX.length:=ah;simp [J.fits,h2.1,h2.2,ac.aj,kn,J.cells,gk,hle]
abbrev ke(dp rp:Nat)(tv wv:J):ac:=ac.aj [.agg [.ptr (some ⟨dp,0,0,0,6⟩),.ptr (some ⟨rp,0,0,0,3⟩),tv,wv]] 4 true (some (32,4))
abbrev fB(z:Int)(o:Option aT)(n c:Nat):ac:=ac.aj [.agg [.int .i64 z,.slice o n c]] 2 true (some (36,2))
theorem w0{F:a8}{nid:Nat}{H:T}{z:Int}{o:Option aT}{n c k:Nat}(a:bf F (.tmp k)=.agg [.int .i64 z,.slice o n c]):bd env cr nid (bf F) H (Op.box 36 (Operand.tmp k))=some (.ptr (some ⟨nid,0,0,0,2⟩),H.set nid (fB z o n c)):=by
 have:bd env cr nid (bf F) H (Op.box 36 (Operand.tmp k))=bd env cr nid (λ_=> .agg [.int .i64 z,.slice o n c]) H (Op.box 36 (Operand.tmp k)):=by simp only [bd,a]
 exact this.trans ar
theorem Ig:nk env.D 30 56 1 24:=by have aa:(env.D 56).map (λx=>(x.size,x.bytes,x.mQ))=some (1,24,true):= ar;have h2:(env.D 30).map (λx=>x.kind)=some (.slice 56):= ar;obtain⟨x,b,k⟩:=b4.1 aa;obtain⟨d,a,c⟩:=b4.1 h2;simp only [bo]at k;exact⟨d,x,a,c,b,k.1,k.2.1,aA,k.2.2⟩
abbrev ig:bj:=some (56,0)
theorem Ih{F:a8}{k nid n c:Nat}{o:Option aT}{H:T}(a:bf F (.tmp k)=.slice o n c):bd env cr nid (bf F) H (Op.buildSlice 30 1 {toList:=[(0,Operand.tmp k)]})=some (.slice (some ⟨nid,0,0,0,1⟩) 1 1,H.set nid (ac.aj [.slice o n c] 1 true)):=by
 have:bd env cr nid (bf F) H (Op.buildSlice 30 1 {toList:=[(0,Operand.tmp k)]})=k1 (a'.D env) 30 1 [(0,.slice o n c)] nid H:=by rw [<-a];rfl
 exact this.trans ar
theorem Ii(F:a8)(nid:Nat)(H:T):bd env cr nid (bf F) H (Op.buildSlice 34 2 {toList:=[(0,Operand.const (Value.int .u8 (165))),(1,Operand.const (Value.int .u8 (166)))]})=some (.slice (some ⟨nid,0,0,0,1⟩) 2 2,H.set nid (ac.aj [.int .u8 165,.int .u8 166] 1 true)):=by have:bd env cr nid (bf F) H (Op.buildSlice 34 2 {toList:=[(0,Operand.const (Value.int .u8 (165))),(1,Operand.const (Value.int .u8 (166)))]})=k1 (a'.D env) 34 2 [(0,.int .u8 165),(1,.int .u8 166)] nid H:=rfl;exact this.trans ar
theorem w1{sz n:Nat}{H:T}{y:Nat}{l:List J}(az:l.length=n)(aN:n≠0):dF sz (.slice (some ⟨y,0,0,0,sz⟩) n n) (H.set y (ac.aj l sz true))=some l:=by have a:=T.eT H y (ac.aj l sz true);simp only [dF,dy,a];rw [ap aN,aE ⟨by simp [ac.b0,ac.aj,az],by simp [ac.aj,az]⟩];simp [ac.aj,<-az]
theorem Ij{H:T}{q ab i:Nat}{B:ac}{x:aP}(e:H.get q=some B)(he:B.elem? ab i=some (bi x)):a1 (a'.D env) 42 ⟨q,ab,i,0,6⟩ H=some (bi x):=by have a:(a'.D env 42).map (λd=>(d.kind.isAgg,d.size))=some (true,6):= ar;obtain⟨d,aa,h2⟩:=b4.1 a;simp only [bo]at h2;unfold a1;rw [aa,e];simp only [he];simp [ft,h2.1,h2.2,bi]
theorem Bf{H:T}{col:Nat->Nat}{cs c2:Nat}{v1 v2:J}{es:List aP}(aa:iI H col cs v1 es)(h2:iI H col c2 v2 es)(al:cs≠c2)(az:es.length<2^62):bu 33 [v1,v2] H (.bool true) H:=by
 rcases aa.ex with ⟨rfl,rfl⟩|⟨w,p,o,y,b,A,rfl,g1,g,aI⟩
 .rcases h2.ex with ⟨rfl,_⟩|⟨h,_⟩
  .obtain⟨e,a,C,f,rfl,rfl,rfl⟩:=SP ⟨7,.nil⟩ 0 (λe a aa=>e=.exit 0/\a=[(0,J.slice none 0 0),(1,J.slice none 0 0),(5,J.int .i64 0)]/\aa=⟨11,.nil⟩) ⟨rfl,rfl,rfl⟩;obtain⟨v,ad,m,rfl⟩:=SQ ⟨0,.nil⟩ (λv ad=>v=.bool true) ⟨cZ.dJ (bX.last an f),rfl⟩;exact bl.cm ⟨_,ad,m,rfl⟩ rfl rfl H
  .exact absurd rfl h
 .rcases h2.ex with ⟨_,h⟩|⟨_,q,l2,z,c,B,rfl,g2,i,aO⟩
  .exact absurd h w
  have m:p≠q:=λh=>by subst h;exact al (y.symm.trans z)
  have u :∀(k j:Nat),es.length-j<=k->j<=es.length->dl 2 26 (br 33 0) (qA b c es.length j) (T.rows 2 [(0,A),(1,B)]) (.exit 0) (qA b c es.length es.length) (T.af 6 [(0,A),(1,B)]):=by
   intro k;induction k with
   |zero =>
    intro j t d;obtain rfl:j=es.length:= V;obtain⟨e,a,aa,f,rfl,rfl,rfl⟩:=H3 A B b c es.length es.length .undef .undef (λe a aa=>e=.exit 0/\a=qA b c es.length es.length/\aa=T.af 6 [(0,A),(1,B)]) ⟨λh=> V,λ_=>⟨rfl,rfl,rfl⟩⟩;exact bX.last an f
   |succ k ih =>
    intro j t d;by_cases al:j<es.length
    .have o:a1 (a'.D env) 42 ⟨0,b,0+Int.toNat (j:Int),0,6⟩ (T.af 15 [(0,A),(1,B)])=some (bi es[j]):=by rw [show 0+Int.toNat (j:Int)=j by simp];exact Ij rfl (aI j al)
     have l2:a1 (a'.D env) 42 ⟨1,c,0+Int.toNat (j:Int),0,6⟩ (T.af 15 [(0,A),(1,B)])=some (bi es[j]):=by rw [show 0+Int.toNat (j:Int)=j by simp];exact Ij rfl (aO j al)
     obtain⟨e,a,aa,f,rfl,rfl,rfl⟩:=H3 A B b c es.length j (bi es[j]) (bi es[j]) (λe a aa=>e=.normal/\a=qA b c es.length (j+1)/\aa=T.af 18 [(0,A),(1,B)]) ⟨λ_=>⟨⟨V,V⟩,o,⟨V,V⟩,l2,(Qx _ _).trans (by rw [gj rfl];rfl),⟨V,V⟩,rfl,by rw [show((j:Int)+1)=((j+1:Nat):Int)by omega],rfl⟩,λh=>absurd V h⟩;exact bX.round f (Gj g i rfl rfl) (ih (j+1) V V)
    .exact ih j V d
  have r:=(u es.length 0 V V).pre (Gj (K:=9) g i rfl rfl);obtain⟨v,ad,s,rfl,rfl⟩:=SO A B b c es.length es.length (λv ad=>v=.bool true/\ad=T.af 7 [(0,A),(1,B)]) ⟨an,cZ.dJ r,rfl,rfl⟩
  have:=bl.pure (l:=[A,B]) s (λx n=>by
   rcases cM.1 n with rfl|n
   .exact g
   .rw [cC.1 n];exact i) (by show [T.get _ 0,T.get _ 1]=_;rfl) (ci.bool _) (by exact⟨by show 0<2;decide,by show 1<2;decide,trivial⟩) (H:=H) [p,q] (by simp [m]) (by
    intro j d;rcases cM.1 d with rfl|d
    .exact o
    .rw [cC.1 d];exact l2) (by simp [g1,g2])
  simpa [J.aK,aT.aK,cK]using this
theorem gQ.pb{H:T}{col:Nat->Nat}{c d:Nat}{I:bO}{s:bq}(g:gQ H col c d I s)(k:s.ai.length<2^40)(ae:s.aw.length<2^40):bu 16 [.ptr (some ⟨d,0,0,0,6⟩)] H (.int .i64 (Keys.held s:Nat)) ⟨H.Y+15,H.ay⟩:=by
 obtain⟨ks,a,_⟩:=g.at';obtain⟨kv,pv,ov,ty,e,f,h,_⟩:=a.ex;obtain⟨j,rfl⟩:=AG f;obtain⟨dE,rfl⟩:=Qj h;have l:=a.lt;have b:(a'.D env 34).map (λd=>d.kind.isAgg)=some false:= ar
 obtain⟨v,ad,i,rfl,rfl⟩:=S8 H d s.ai.length s.aw.length j dE (λv ad=>v=.int .i64 (Keys.held s:Nat)/\ad=⟨H.Y+15,H.ay⟩)
  (aR (Nat.le_refl _) (aR V (aR V ⟨eL (H:=⟨H.Y+15,H.ay⟩) b e rfl,V,eL (H:=⟨H.Y+15,H.ay⟩) b e rfl,V,⟨V,V⟩,by
   refine e2 V ?_
   exact⟨by unfold Keys.held;rw [show((s.aw.length+s.ai.length:Nat):Int)=(s.aw.length:Int)+(s.ai.length:Int)by omega],rfl⟩⟩)))
 exact i
theorem e3.pb{H:T}{col:Nat->Nat}{c d:Nat}{k t:Bytes}{n:Bool}(g:e3 H col c d k n t)(e:k.length<2^40)(h:t.length<2^40):bu 17 [.ptr (some ⟨d,0,0,0,3⟩)] H (.int .i64 (t.length+k.length:Nat)) ⟨H.Y+15,H.ay⟩:=by
 have f:=g.lt;have a:(a'.D env 9).map (λd=>d.kind.isAgg)=some false:= ar
 obtain⟨v,ad,b,rfl,rfl⟩:=S9 H d k t (λv ad=>v=.int .i64 (t.length+k.length:Nat)/\ad=⟨H.Y+15,H.ay⟩)
  (aR (Nat.le_refl _) (aR V (aR V ⟨eL (H:=⟨H.Y+15,H.ay⟩) a g.get rfl,V,eL (H:=⟨H.Y+15,H.ay⟩) a g.get rfl,V,⟨V,V⟩,by
   refine e2 V ?_
   exact⟨by rw [show((t.length+k.length:Nat):Int)=(t.length:Int)+(k.length:Int)by omega],rfl⟩⟩)))
 exact b
structure qO(H:T)(col:Nat->Nat)(q bv bw:Nat)(bA:List (Int×Bytes)):Prop where
 ok:bA≠[]->q<H.Y/\col q=0/\∃b,H.get q=some b/\∀(r:Nat)(h:r<bA.length),∃dE gu,b.elem? bv (bw+r)=some (.agg [.int .i64 bA[r].1,.slice dE bA[r].2.length gu])/\jr H col 0 dE bA[r].2
theorem qO.aJ{H H':T}{col bg:Nat->Nat}{q bv bw:Nat}{bA:List (Int×Bytes)}{L:List Nat}(h:qO H col q bv bw bA)(m:bs H H' col bg L)(al:0 ∉ L):qO H' bg q bv bw bA:=by refine⟨λd=> ?_⟩;obtain⟨lt,a,b,c,e⟩:=h.ok d;have az:=m.Y;refine⟨V,by rw [m.col q lt (by rw [a];exact al)];exact a,b,by rw [m.get q lt (by rw [a];exact al)];exact c,λr h=> ?_⟩;obtain⟨dE,gu,aa,h2⟩:=e r h;exact⟨dE,gu,aa,h2.aJ m al⟩
theorem qO.load{H:T}{col:Nat->Nat}{q bv bw:Nat}{bA:List (Int×Bytes)}(h:qO H col q bv bw bA)(r:Nat)(c:r<bA.length):∃dE gu,jr H col 0 dE bA[r].2/\(∀k,a1 (a'.D env) 34 ⟨q,bv,bw+r,1,2⟩ ⟨H.Y+k,H.ay⟩=some (.slice dE bA[r].2.length gu))/\∀k,a1 (a'.D env) 36 ⟨q,bv,bw+r,0,2⟩ ⟨H.Y+k,H.ay⟩=some (.agg [.int .i64 bA[r].1,.slice dE bA[r].2.length gu]):=by
 obtain⟨_,_,b,f,j⟩:=h.ok (λe=>by rw [e]at c;simp at c);obtain⟨dE,gu,aa,h2⟩:=j r c;have g:(a'.D env 34).map (λd=>d.kind.isAgg)=some false:= ar;have i:(a'.D env 36).map (λd=>(d.kind.isAgg,d.size))=some (true,2):= ar;obtain⟨d1,ao,a2⟩:=b4.1 g;obtain⟨d2,aH,b2⟩:=b4.1 i;simp only [bo]at b2;refine⟨dE,gu,h2,λk=> ?_,λk=> ?_⟩
 .have a:(⟨H.Y+k,H.ay⟩:T).get q=some b:=f;unfold a1;rw [ao,a];simp only [aa];simp [ft,a2]
 .have a:(⟨H.Y+k,H.ay⟩:T).get q=some b:=f;unfold a1;rw [aH,a];simp only [aa];simp [ft,b2.1,b2.2]
def fp(bA:List (Int×Bytes)):Nat:=(bA.map λx=>1+x.2.length).sum
theorem Ik{bA:List (Int×Bytes)}{i:Nat}(ah:i<bA.length):fp (bA.take (i+1))=fp (bA.take i)+1+bA[i].2.length:=by unfold fp;rw [<-w8 ah,kj,List.sum_append];simp;omega
theorem Ta(bA:List (Int×Bytes))(i:Nat):fp (bA.take i)<=fp bA:=by
 conv=>rhs;rw [<-List.take_append_drop i bA]
 unfold fp;rw [kj,List.sum_append];exact Nat.le_add_right _ _
theorem Bg{bA:List (Int×Bytes)}{i:Nat}(ah:i<bA.length):1+bA[i].2.length<=fp bA:=by have:=Ta bA (i+1);rw [Ik ah]at this;omega
theorem Il(bA:List (Int×Bytes)):bA.length<=fp bA:=by
 unfold fp;induction bA with
 |nil=>exact Nat.le_refl _
 |cons a l ih=>simp only [b',eF,List.sum_cons];omega
def kP(H:T)(col:Nat->Nat)(o:Option aT)(bA:List (Int×Bytes)):Prop:=(o=none/\bA=[])\/ ∃q bv bw,o=some ⟨q,bv,bw,0,2⟩/\qO H col q bv bw bA
theorem kP.aJ{H H':T}{col bg:Nat->Nat}{o:Option aT}{bA:List (Int×Bytes)}{L:List Nat}(h:kP H col o bA)(m:bs H H' col bg L)(al:0 ∉ L):kP H' bg o bA:=by
 rcases h with h|⟨q,bv,bw,aa,h2⟩
 .exact .inl h
 .exact .inr ⟨q,bv,bw,aa,h2.aJ m al⟩
theorem Im{H:T}{col:Nat->Nat}{o:Option aT}{c:Nat}{bA:List (Int×Bytes)}(h:kP H col o bA)(az:bA.length<2^60)(n:∀(r:Nat)(h:r<bA.length),bA[r].2.length<2^60) :
 ∃b k,bu 13 [.slice o bA.length c] H (.bool b) ⟨H.Y+k,H.ay⟩/\0<k/\(b=false->fp bA<=2^27):=by
 rcases h with ⟨rfl,rfl⟩|⟨q,bv,bw,rfl,l⟩
 .obtain⟨e,d,z,f,rfl,rfl,rfl⟩:=SR ⟨H.Y+3,H.ay⟩ H.Y c (λe d aa=>e=.exit 0/\d=[(0,J.slice none 0 c),(3,J.int .i64 0),(4,J.int .i64 0)]/\aa=⟨H.Y+7,H.ay⟩) (aR (by show H.Y<=H.Y+3;omega) ⟨rfl,rfl,rfl⟩)
  obtain⟨v,ad,g,rfl,rfl⟩:=H6 H ⟨H.Y+7,H.ay⟩ 0 c none (.int .i64 0) (.int .i64 0) (λv ad=>v=.bool false/\ad=⟨H.Y+8,H.ay⟩) (aR (Nat.le_refl _) (aR V (aR V ⟨cZ.dJ (bX.last an f),aR (by show H.Y<=H.Y+7;omega) (by
   refine e2 (by show H.Y<=H.Y+7+1;omega) ?_
   exact⟨rfl,rfl⟩)⟩)))
  exact⟨false,8,g,aA,λ_=>by show 0<=_;omega⟩
 .have key:∀(t i a:Nat),bA.length-i<=t->i<=bA.length->fp (bA.take i)<=2^27-> ∃k x y,
   (fp bA<=2^27/\dl H.Y 22 (br 13 0) [(0,.slice (some ⟨q,bv,bw,0,2⟩) bA.length c),(3,.int .i64 (fp (bA.take i):Nat)),(4,.int .i64 (i:Nat))] ⟨H.Y+a,H.ay⟩ (.exit 0) [(0,.slice (some ⟨q,bv,bw,0,2⟩) bA.length c),(3,x),(4,y)] ⟨H.Y+k,H.ay⟩) \/
   dl H.Y 22 (br 13 0) [(0,.slice (some ⟨q,bv,bw,0,2⟩) bA.length c),(3,.int .i64 (fp (bA.take i):Nat)),(4,.int .i64 (i:Nat))] ⟨H.Y+a,H.ay⟩ .ret [(0,.slice (some ⟨q,bv,bw,0,2⟩) bA.length c),(2,.bool true),(3,x),(4,y)] ⟨H.Y+k,H.ay⟩:=by
   intro t;induction t with
   |zero =>
    intro i a w ah hs;obtain rfl:i=bA.length:= V;obtain⟨e,d,aa,f,rfl,rfl,rfl⟩:=H5 ⟨H.Y+a,H.ay⟩ H.Y q bv bw bA.length c bA.length (fp (bA.take bA.length)) 0 0 none (λe d aa=>e=.exit 0/\d=[(0,.slice (some ⟨q,bv,bw,0,2⟩) bA.length c),(3,.int .i64 (fp (bA.take bA.length):Nat)),(4,.int .i64 (bA.length:Nat))]/\aa=⟨H.Y+(a+4),H.ay⟩) (aR (by show H.Y<=H.Y+a;omega) ⟨λh=>absurd h V,λ_=>⟨rfl,rfl,by show T.mk (H.Y+a+4) _=_;rw [lJ]⟩⟩);rw [jH]at hs;exact⟨_,_,_,.inl ⟨hs,bX.last an f⟩⟩
   |succ t ih =>
    intro i a w ah hs;by_cases al:i<bA.length
    .obtain⟨dE,gu,_,p,_⟩:=l.load i al;have j:=Ik al;have A:=n i al
     have s:a1 (a'.D env) 34 ⟨q,bv,bw+Int.toNat (i:Int),1,2⟩ ⟨H.Y+a+14,H.ay⟩=some (.slice dE bA[i].2.length gu):=by rw [fU,lJ H.Y];exact p _
     obtain⟨e,d,aa,f,m⟩:=H5 ⟨H.Y+a,H.ay⟩ H.Y q bv bw bA.length c i (fp (bA.take i)) bA[i].2.length gu dE (λe d aa=>(2^27<fp (bA.take (i+1))/\e=.ret/\d=[(0,.slice (some ⟨q,bv,bw,0,2⟩) bA.length c),(2,.bool true),(3,.int .i64 (fp (bA.take (i+1)):Nat)),(4,.int .i64 (i:Nat))]/\aa=⟨H.Y+(a+17),H.ay⟩)\/(fp (bA.take (i+1))<=2^27/\e=.normal/\d=[(0,.slice (some ⟨q,bv,bw,0,2⟩) bA.length c),(3,.int .i64 (fp (bA.take (i+1)):Nat)),(4,.int .i64 ((i+1:Nat):Int))]/\aa=⟨H.Y+(a+19),H.ay⟩))
      (aR (by show H.Y<=H.Y+a;omega) ⟨λ_=>aR (by show H.Y<=H.Y+a+4;omega) ⟨⟨V,V⟩,⟨V,V⟩,s,⟨V,V⟩,aR (by show H.Y<=H.Y+a+14;omega) ⟨λh=>aR (by show H.Y<=H.Y+a+16;omega) (.inl ⟨V,rfl,by rw [j];rw [show((fp (bA.take i):Nat):Int)+1+(bA[i].2.length:Nat)=((fp (bA.take i)+1+bA[i].2.length:Nat):Int)by omega],rfl⟩),λh=>aR (by show H.Y<=H.Y+a+16;omega) ⟨⟨V,V⟩,.inr ⟨V,rfl,by rw [j];rw [show((fp (bA.take i):Nat):Int)+1+(bA[i].2.length:Nat)=((fp (bA.take i)+1+bA[i].2.length:Nat):Int)by omega,show(i:Int)+1=((i+1:Nat):Int)by omega],rfl⟩⟩⟩⟩,λh=>absurd h V⟩)
     rcases m with ⟨_,rfl,rfl,rfl⟩|⟨u,rfl,rfl,rfl⟩
     .exact⟨_,_,_,.inr (bX.last an f)⟩
     .obtain⟨k,x,y,⟨g1,g2⟩|g2⟩:=ih (i+1) (a+19) V V u
      .exact⟨k,x,y,.inl ⟨g1,bX.step f g2⟩⟩
      .exact⟨k,x,y,.inr (bX.step f g2)⟩
    .exact ih i a V ah hs
  obtain⟨k,x,y,⟨g1,g2⟩|g2⟩:=key bA.length 0 3 V V (by show 0<=_;omega)
  .obtain⟨v,ad,g,rfl,rfl⟩:=H6 H ⟨H.Y+k,H.ay⟩ bA.length c (some ⟨q,bv,bw,0,2⟩) x y (λv ad=>v=.bool false/\ad=⟨H.Y+(k+1),H.ay⟩) (aR (Nat.le_refl _) (aR V (aR V ⟨cZ.dJ g2,aR (by show H.Y<=H.Y+k;omega) (by
    refine e2 (by show H.Y<=H.Y+k+1;omega) ?_
    exact⟨rfl,rfl⟩)⟩)))
   exact⟨false,_,g,V,λ_=>g1⟩
  .obtain⟨v,ad,g,rfl,rfl⟩:=SS H ⟨H.Y+k,H.ay⟩ bA.length c (some ⟨q,bv,bw,0,2⟩) x y (λv ad=>v=.bool true/\ad=⟨H.Y+k,H.ay⟩) (aR (Nat.le_refl _) (aR V (aR V ⟨cZ.dJ g2,by
    refine e2 (by show H.Y<=H.Y+k;omega) ?_
    exact⟨rfl,rfl⟩⟩)))
   refine⟨true,k+1,g.pad (h2:=⟨H.Y+(k+1),H.ay⟩) ?_ ?_,V,λh=>by cases h⟩
   .show H.Y+k<=H.Y+(k+1);omega
   .intro _ _;rfl
end Go.Proofs.YtddnafghiejcoaaGreatDoor
namespace Go.Proofs.YtddnafghiejcoaaGreatDoor
open Go.bh Go.Keys
set_option maxRecDepth 1000000
end Go.Proofs.YtddnafghiejcoaaGreatDoor
namespace Go.Keys
end Go.Keys
namespace Go.Proofs.YtddnafghiejcoaaGreatDoor
open Go.bh Go.Keys
set_option maxRecDepth 1000000
open Go.Lib
def bN(t j:Nat):Nat:=2*j+t+30
theorem eX{t i j:Nat}(h:i≠j):bN t i≠bN t j:=by unfold bN;omega
theorem jB(t j:Nat):30<=bN t j:=by unfold bN;omega
structure gT(H:T)(col:Nat->Nat)(t p dp rp:Nat)(tv wv:J)(tl wl:List J)(I:bO)(d:bq)(bp:List (List aP)):Prop where
 lt:p<H.Y
 n1:col p=bN t 0
 get:H.get p=some (ke dp rp tv wv)
 mD:gQ H col (bN t 1) dp I d
 jy:e3 H col (bN t 2) rp d.ai (decide (d.nx=.cb)) d.aw
 iK:c1 H col (bN t 3) 1 ig tv tl
 n3:c1 H col (bN t 4) 1 ig wv wl
 iL:tl.length=bp.length
 wn:wl.length=bp.length
 jg:∀(i:Nat)(h:i<bp.length)(x:J),tl[i]? =some x->c1 H col (bN t (5+2*i)) 6 ek x (bp[i].map bi)
 w2:∀(i:Nat)(h:i<bp.length)(x:J),wl[i]? =some x->iI H col (bN t (6+2*i)) x bp[i]
theorem gT.aJ{H H':T}{col bg:Nat->Nat}{t p dp rp:Nat}{tv wv:J}{tl wl:List J}{I:bO}{d:bq}{bp:List (List aP)}{L:List Nat}(g:gT H col t p dp rp tv wv tl wl I d bp)(m:bs H H' col bg L)(al:∀j,bN t j ∉ L):gT H' bg t p dp rp tv wv tl wl I d bp:=by have az:=m.Y;have a:=g.n1;have aN:=al 0;exact⟨by have:=g.lt;omega,by rw [m.col p g.lt (by rw [a];exact aN)];exact a,by rw [m.get p g.lt (by rw [a];exact aN)];exact g.get,g.mD.aJ m (al 1),g.jy.aJ m (al 2),g.iK.aJ m (al 3),g.n3.aJ m (al 4),g.iL,g.wn,λi h x e=>(g.jg i h x e).aJ m (al _),λi h x e=>(g.w2 i h x e).aJ m (al _)⟩
theorem c1.Tb{H:T}{col:Nat->Nat}{s sz:Nat}{ty:bj}{v:J}{l:List J}(k:Nat)(h:c1 H col s sz ty v l):c1 H (λx=>if col x=s then k else col x) k sz ty v l/\bs H H col (λx=>if col x=s then k else col x) [s]:=by
 refine⟨?_,⟨Nat.le_refl _,λ_ _ _=>rfl,λx _ h=>ap (by simpa using h)⟩⟩;rcases h.ex with h|⟨aa,o,h2,a,b⟩
 .exact⟨.inl h⟩
 .exact⟨.inr ⟨aa,o,h2,by simp [a],b⟩⟩
theorem c1.Io{H:T}{col:Nat->Nat}{sz:Nat}{ty:bj}{v:J}{l:List J}(k:Nat)(h:c1 H col 7 sz ty v l):c1 H (λx=>if col x=7 then k else col x) k sz ty v l/\bs H H col (λx=>if col x=7 then k else col x) [7]:=by
 refine⟨?_,⟨Nat.le_refl _,λ_ _ _=>rfl,λx _ h=>ap (by simpa using h)⟩⟩;rcases h.ex with h|⟨aa,o,h2,a,b⟩
 .exact⟨.inl h⟩
 .exact⟨.inr ⟨aa,o,h2,by simp [a],b⟩⟩
theorem Ip{H:T}{col:Nat->Nat}{p c i P b a n m:Nat}{aX:List J}{ty:bj}{o:Option aT}{tv:J}{tl:List J}(ae:p<H.Y)(ag:H.get p=some (ac.aj [.agg aX] 4 true ty))(ah:aX[i]? =some tv)(iK:c1 H col c 1 ig tv tl)(x:c≠8)(q:col p≠c)(u:col p≠8)(I:b<P)(G:a<P)(K:tl.length<2^30) :
 ∃s g j bg f,(∀(F:a8)(k:Nat),bf F (.tmp k)=.slice o n m->bd env cr (H.Y+b) (bf F) ⟨H.Y+P,H.ay⟩ (Op.buildSlice 30 1 {toList:=[(0,Operand.tmp k)]})=some (.slice (some ⟨H.Y+b,0,0,0,1⟩) 1 1,s)) /\
  eB env .append #[30,30] [tv,.slice (some ⟨H.Y+b,0,0,0,1⟩) 1 1] (H.Y+a) s=some (.slice f (tl.length+1) (tl.length+1),g) /\
  eA (a'.D env) 30 ⟨p,0,0,i,4⟩ (.slice f (tl.length+1) (tl.length+1)) g=some j/\j.get p=some (ac.aj [.agg (aX.set i (.slice f (tl.length+1) (tl.length+1)))] 4 true ty) /\
  c1 j bg c 1 ig (.slice f (tl.length+1) (tl.length+1)) (tl++[.slice o n m])/\bs H j col bg [c,8,col p]/\H.Y+P<=j.Y/\bg p=col p:=by
 have m0:=bs.fresh H col P;have C:fresh H col (H.Y+b)=8:=gP V;have m1:=bs.kd (H:=⟨H.Y+P,H.ay⟩) (ac.aj [.slice o n m] 1 true) C;have eY:=(iK.aJ m0 an).aJ m1 (by simpa using x);have z:dF 1 (.slice (some ⟨H.Y+b,0,0,0,1⟩) 1 1) ((⟨H.Y+P,H.ay⟩:T).set (H.Y+b) (ac.aj [.slice o n m] 1 true))=some [.slice o n m]:=w1 rfl aA;obtain⟨E,g,l,aI,g2,m2,n2⟩:=eY.fu (nid:=H.Y+a) Ig (by show H.Y+a<H.Y+P;omega) (gP V) z (by simp only [hk];omega) (by simp only [hk];omega);have n2:g.Y=H.Y+P:=n2
 obtain⟨f,rfl⟩:∃f,E=.slice f (tl.length+1) (tl.length+1):=by
  rcases g2.ex with ⟨_,h⟩|⟨_,_,_,_,_,_,_,h,_⟩
  .simp at h
  .rw [dt,hk]at h;exact⟨_,h⟩
 have r:=(m0.trans (m1.trans m2)).sub (M:=[c,8]) an;have t:l p=col p:=r.col p ae (by simp only [cM,ff,ea,eR];exact⟨q,u⟩)
 have A:g.get p=some (ac.aj [.agg aX] 4 true ty):=by rw [r.get p ae (by simp only [cM,ff,ea,eR];exact⟨q,u⟩)];exact ag
 have B:i<aX.length:=(dT.1 ah).1;have v:(a'.D env 30).map (λd=>(d.kind.isAgg,d.size))=some (false,1):= ar;have m3:=bs.tf (H:=g) (col:=l) (y:=p) (c:=col p) (ac.aj [.agg (aX.set i (.slice f (tl.length+1) (tl.length+1)))] 4 true ty) t;refine⟨_,g,_,l,f,λF k w=>Ih w,aI,S' (o:=0) v A B,T.eT _ _ _,g2.aJ m3 (by simpa using λe=>q e.symm),(r.trans m3).sub an,by show H.Y+P<=g.Y;omega,t⟩
theorem c1.ez{H:T}{col:Nat->Nat}{c sz:Nat}{ty:bj}{v:J}{l:List J}(h:c1 H col c sz ty v l):∃o,v=.slice o l.length l.length:=by
 rcases h.ex with ⟨rfl,rfl⟩|⟨_,o,_,_,ab,_,_,rfl,_⟩
 .exact⟨none,rfl⟩
 .exact⟨_,rfl⟩
theorem iI.ez{H:T}{col:Nat->Nat}{c:Nat}{v:J}{es:List aP}(h:iI H col c v es):∃o,v=.slice o es.length es.length:=by
 rcases h.ex with ⟨rfl,rfl⟩|⟨_,o,_,_,ab,_,rfl,_⟩
 .exact⟨none,rfl⟩
 .exact⟨_,rfl⟩
theorem Iq{H:T}{col:Nat->Nat}{t p dp rp P b a P2 b2 a2:Nat}{tv wv av bv:J}{tl wl:List J}{I:bO}{d:bq}{bp:List (List aP)}{es:List aP}(g:gT H col t p dp rp tv wv tl wl I d bp)(z:c1 H col (bN t (5+2*bp.length)) 6 ek av (es.map bi))(G:iI H col (bN t (6+2*bp.length)) bv es)
 (X:b<P) (U:a<P) (Z:b2<P2) (W:a2<P2) (L:bp.length<2^30) :
 ∃v w c s u f y A N O co c2 bg,(∀(F:a8)(k:Nat),bf F (.tmp k)=av->bd env cr (H.Y+b) (bf F) ⟨H.Y+P,H.ay⟩ (Op.buildSlice 30 1 {toList:=[(0,Operand.tmp k)]})=some (N,v)) /\
  eB env .append #[30,30] [tv,N] (H.Y+a) v=some (y,w)/\eA (a'.D env) 30 ⟨p,0,0,2,4⟩ y w=some c/\H.Y+P<=c.Y/\c.get p=some (ke dp rp y wv) /\
  (∀(F:a8)(k:Nat),bf F (.tmp k)=bv->bd env cr (c.Y+b2) (bf F) ⟨c.Y+P2,c.ay⟩ (Op.buildSlice 30 1 {toList:=[(0,Operand.tmp k)]})=some (O,s)) /\
  eB env .append #[30,30] [wv,O] (c.Y+a2) s=some (A,u)/\eA (a'.D env) 30 ⟨p,0,0,3,4⟩ A u=some f/\c.Y+P2<=f.Y /\
  gT f bg t p dp rp y A co c2 I d (bp++[es])/\iI f bg (bN t (5+2*bp.length)) av es/\iI f bg (bN t (6+2*bp.length)) bv es/\bs H f col bg [bN t 0,bN t 3,bN t 4,8]:=by
 obtain⟨B,rfl⟩:=z.ez;obtain⟨bw,rfl⟩:=G.ez;rw [gy]at z⊢;have c0:=g.n1;have r:∀j,bN t j≠8:=λj=>by have:=jB t j;omega
 have am:(bN t 0≠bN t 3):=eX aA;have a0:(bN t 0≠bN t 4):=eX aA;obtain⟨v,w,c,Q,bn,aI,aO,S,C,g1,m1,a9,a4⟩:=Ip (i:=2) (o:=B) (n:=es.length) (m:=es.length) (b:=b) (a:=a) (P:=P) g.lt g.get rfl g.iK (r _) (by rw [c0];exact am) (by rw [c0];exact r _) X U (by rw [g.iL];exact L);rw [c0]at m1;have ct:=g.n3.aJ m1 (by simp only [cM,ff,ea,eR];exact⟨eX aA,r _,eX aA⟩);have cs:Q p=bN t 0:=by rw [a4,c0]
 have a3:p<c.Y:=by have:=g.lt;omega
 obtain⟨s,u,f,R,ce,f1,f2,f3,f4,g2,m2,l2,a5⟩:=Ip (i:=3) (o:=bw) (n:=es.length) (m:=es.length) (b:=b2) (a:=a2) (P:=P2) a3 C rfl ct (r _) (by rw [cs];exact a0) (by rw [cs];exact r _) Z W (by rw [g.wn];exact L);rw [cs]at m2;have q:=(m1.trans m2).sub (M:=[bN t 0,bN t 3,bN t 4,8]) an
 have lW:∀j,j=1\/j=2\/5<=j->bN t j ∉ [bN t 0,bN t 3,bN t 4,8]:=by intro j c3;simp only [cM,ff,ea,eR];exact⟨eX V,eX V,eX V,r _⟩
 have E:=z.aJ q (lW _ V);have K:=G.aJ q (lW _ V);refine⟨v,w,c,s,u,f,.slice bn (tl.length+1) (tl.length+1),.slice ce (wl.length+1) (wl.length+1),.slice (some ⟨H.Y+b,0,0,0,1⟩) 1 1,.slice (some ⟨c.Y+b2,0,0,0,1⟩) 1 1,tl++[.slice B es.length es.length],wl++[.slice bw es.length es.length],R,aI,aO,S,a9,C,f1,f2,f3,l2,?_,E.kw,K,q⟩;refine⟨V,by rw [a5,cs],f4,g.mD.aJ q (lW _ V),g.jy.aJ q (lW _ V),g1.aJ m2 (by simp only [cM,ff,ea,eR];exact⟨eX aA,r _,eX aA⟩),g2,by simp [g.iL],by simp [g.wn],λi h x e=> ?_,λi h x e=> ?_⟩
 .simp only [dt,hk]at h;by_cases l:i<bp.length
  .rw [hW (by rw [g.iL];exact l)]at e;rw [List.getElem_append_left l];exact(g.jg i l x e).aJ q (lW _ V)
  .obtain rfl:i=bp.length:= V;rw [hX (by rw [g.iL];exact Nat.le_refl _),g.iL]at e;simp only [oc,fe,a6]at e;subst e;rw [List.getElem_append_right (Nat.le_refl _)];simp only [oc,List.getElem_cons_zero];exact E
 .simp only [dt,hk]at h;by_cases l:i<bp.length
  .rw [hW (by rw [g.wn];exact l)]at e;rw [List.getElem_append_left l];exact(g.w2 i l x e).aJ q (lW _ V)
  .obtain rfl:i=bp.length:= V;rw [hX (by rw [g.wn];exact Nat.le_refl _),g.wn]at e;simp only [oc,fe,a6]at e;subst e;rw [List.getElem_append_right (Nat.le_refl _)];simp only [oc,List.getElem_cons_zero];exact K
def kQ(d:bq)(z:Int)(aU:Bytes):bq×List (List aP) :=
 if z=1 then((bY d aU).1,[(bY d aU).2])else if z=2 then((Keys.flush d).1,[(Keys.flush d).2])else(d,[])
theorem Tc(d:bq)(c:kb d):(if decide (d.nx=gE.cb)=true then d.ai else [])=(Keys.flush d).1.ai/\decide (d.nx=gE.cb)=decide ((Keys.flush d).1.nx=gE.cb)/\d.aw=(Keys.flush d).1.aw /\
 (if decide (d.nx=gE.cb)=true\/d.ai=[]then []else [if d.ai=[27]then cY 4 else if d.ai=[27,91]then dq 91 2 else if d.ai=[27,79]then dq 79 2 else cQ d.ai])=(Keys.flush d).2:=by
 by_cases ae:d.nx=.cb
 .have e:Keys.flush d=(d,[]):=by unfold Keys.flush;rw [aE (.inl ae)]
  rw [e];simp [ae]
 .by_cases a:d.ai=[]
  .have e:Keys.flush d=(d,[]):=by unfold Keys.flush;rw [aE (.inr a)]
   rw [e];simp [ae,a]
  .have e:Keys.flush d=if d.ai=[27]then tell {d with ax:=[]} (cY 4)else if d.ai=[27,91]\/d.ai=[27,79]then tell {d with ax:=[]} (dq ((d.ai.getD 1 0).toNat) 2)else tell {d with ax:=[]} (cQ d.ai):=by unfold Keys.flush;rw [ap (by rintro (h|h);exact ae h;exact a h)]
   rw [e];by_cases aa:d.ai=[27]
   .simp [ae,aa,tell]
   .by_cases h2:d.ai=[27,91]
    .simp [ae,h2,tell]
    .by_cases b:d.ai=[27,79]
     .simp [ae,b,tell]
     .simp [ae,a,aa,h2,b,tell]
theorem tg{d:bq}(h:Keys.Good d):d.ai.length<2^20/\d.aw.length<=65536:=by
 obtain⟨nx,ai,ax,aw⟩:=d;cases nx with
 |ground=>obtain⟨aa,h2,a⟩:=h;simp only at aa a⊢; simp [aa,a]
 |cH=>obtain⟨aa,h2,a⟩:=h;simp only at aa a⊢; simp [aa,a]
 |cd =>
  obtain⟨aa,h2,a,b,c⟩:=h;simp only at aa h2 b⊢;have:=LC ai;have e:=dW List.length h2;rw [ep]at e;simp only [aa,dx];omega
 |sequence=>obtain⟨aa,h2,a,b⟩:=h;simp only at h2 b⊢; simp only [h2,dx];omega
 |single=>obtain⟨aa,h2,a⟩:=h;simp only at h2 a⊢; simp [h2,a]
 |cb=>obtain⟨aa,h2,a,b⟩:=h;simp only at h2 b⊢; omega
def qP(H:T)(col:Nat->Nat)(t p dp rp:Nat)(d:bq)(bp:List (List aP))(z:Int)(o:Option aT)(aU:Bytes)(c:Nat):Prop :=
 ∃H' bg tv wv tl wl I,bu 15 [.ptr (some ⟨p,0,0,0,4⟩),.agg [.int .i64 z,.slice o aU.length c]] H (.bool true) H'/\gT H' bg t p dp rp tv wv tl wl I (kQ d z aU).1 (bp++(kQ d z aU).2)/\bs H H' col bg [bN t 0,bN t 1,bN t 2,bN t 3,bN t 4,7,8,9,11]/\H.Y<=H'.Y
theorem Td{H:T}{col:Nat->Nat}{t p dp rp c:Nat}{tv wv:J}{tl wl:List J}{I:bO}{d:bq}{bp:List (List aP)}{z:Int}{o:Option aT}{aU:Bytes}(g:gT H col t p dp rp tv wv tl wl I d bp)(aa:z≠1)(h2:z≠2)(b:z≠3):qP H col t p dp rp d bp z o aU c:=by
 have m0:=bs.fresh H col 2;have i:fresh H col (H.Y+0)=8:=gP V;have m1:=bs.kd (H:=⟨H.Y+2,H.ay⟩) (fB z o aU.length c) i;have l:((⟨H.Y+2,H.ay⟩:T).set (H.Y+0) (fB z o aU.length c)).Y=H.Y+2:=rfl;have h:((⟨H.Y+2,H.ay⟩:T).set (H.Y+0) (fB z o aU.length c)).get (H.Y+0)=some (fB z o aU.length c):=T.eT _ _ _;generalize e:(⟨H.Y+2,H.ay⟩:T).set (H.Y+0) (fB z o aU.length c)=H1 at *;have n4:(a'.D env 3).map (λd=>d.kind.isAgg)=some false:= ar;have m2:=bs.fresh H1 (fresh H col) 11
 obtain⟨v,ad,f,rfl,rfl⟩:=SY H H1 p (H.Y+0) aU.length c z o (λv ad=>v=.bool true/\ad=⟨H1.Y+11,H1.ay⟩)
  (aR (Nat.le_refl _) ⟨by rw [<-e];exact w0 rfl,aR V (aR V ⟨eL (H:=⟨H1.Y+4,H1.ay⟩) n4 h rfl,aR V ⟨by rw [q2 aa],aR V ⟨by rw [q2 h2],aR V ⟨by rw [q2 b],aR V (by
   refine e2 V ?_
   exact⟨rfl,rfl⟩)⟩⟩⟩⟩)⟩)
 have a:=(m0.trans (m1.trans m2)).sub (M:=[8]) an;have k:∀j,bN t j≠8:=λj=>by have:=jB t j;omega
 refine⟨_,_,tv,wv,tl,wl,I,f,?_,a.sub an,by show H.Y<=H1.Y+11;omega⟩;unfold kQ;rw [ap aa,ap h2,fV];exact g.aJ a λj=>by simpa using k j
theorem Te{H:T}{col:Nat->Nat}{t p dp rp c:Nat}{tv wv:J}{tl wl:List J}{I:bO}{d:bq}{bp:List (List aP)}{o:Option aT}{aU:Bytes}(g:gT H col t p dp rp tv wv tl wl I d bp)(h:Keys.Good d):qP H col t p dp rp d bp 3 o aU c:=by
 obtain⟨q,ae⟩:=tg h;have m0:=bs.fresh H col 2;have n:fresh H col (H.Y+0)=8:=gP V;have m1:=bs.kd (H:=⟨H.Y+2,H.ay⟩) (fB 3 o aU.length c) n;have s:((⟨H.Y+2,H.ay⟩:T).set (H.Y+0) (fB 3 o aU.length c)).Y=H.Y+2:=rfl;have m:((⟨H.Y+2,H.ay⟩:T).set (H.Y+0) (fB 3 o aU.length c)).get (H.Y+0)=some (fB 3 o aU.length c):=T.eT _ _ _;have e:∀j,bN t j≠8:=λj=>by have:=jB t j;omega
 have g1:=(g.aJ m0 λj=> an).aJ m1 λj=>by simpa using e j
 generalize i:(⟨H.Y+2,H.ay⟩:T).set (H.Y+0) (fB 3 o aU.length c)=H1 at *;have n4:(a'.D env 3).map (λd=>d.kind.isAgg)=some false:= ar;have mE:(a'.D env 25).map (λd=>d.kind.isAgg)=some false:= ar;have pc:(a'.D env 27).map (λd=>d.kind.isAgg)=some false:= ar;have m2:=bs.fresh H1 (fresh H col) 22;have g2:=g1.aJ m2 λj=> an
 have k:=g2.mD.pb V V;have m3:=bs.fresh ⟨H1.Y+22,H1.ay⟩ (fresh H1 (fresh H col)) 15;have g3:=g2.aJ m3 λj=> an
 have a:=g3.jy.pb V V;have m4:=bs.fresh ⟨H1.Y+22+15,H1.ay⟩ (fresh ⟨H1.Y+22,H1.ay⟩ (fresh H1 (fresh H col))) 15;have r:=g.lt;have f:(d.aw.length+d.ai.length:Nat)=Keys.held d:=rfl;rw [f]at a
 obtain⟨v,ad,l,rfl,rfl⟩:=SX H H1 ⟨H1.Y+22+15,H1.ay⟩ ⟨H1.Y+22+15+15,H1.ay⟩ p (H.Y+0) dp rp aU.length c (Keys.held d) o (λv ad=>v=.bool true/\ad=⟨H1.Y+22+15+15,H1.ay⟩)
  (aR (Nat.le_refl _) ⟨by rw [<-i];exact w0 rfl,aR V (aR V ⟨eL (H:=⟨H1.Y+4,H1.ay⟩) n4 m rfl,aR V (aR V (aR V (aR V ⟨eL (H:=⟨H1.Y+22,H1.ay⟩) mE g1.get rfl,V,⟨k⟩,ud λ_ _=>rfl,eL (H:=⟨H1.Y+22+15,H1.ay⟩) pc g1.get rfl,V,⟨a⟩,an,by
   refine e2 (by show H.Y<=H1.Y+22+15+15;omega) ?_
   exact⟨rfl,rfl⟩⟩)))⟩)⟩)
 have b:=(m0.trans (m1.trans (m2.trans (m3.trans m4)))).sub (M:=[8]) an;refine⟨_,_,tv,wv,tl,wl,I,l,?_,b.sub an,by show H.Y<=H1.Y+22+15+15;omega⟩;unfold kQ;rw [ap aA,ap aA,fV];exact g.aJ b λj=>by simpa using e j
theorem gT.dec{H H':T}{col bg:Nat->Nat}{t p dp rp:Nat}{tv wv:J}{tl wl:List J}{I aC:bO}{d a:bq}{bp:List (List aP)}{L:List Nat}(g:gT H col t p dp rp tv wv tl wl I d bp)(m:bs H H' col bg L)(b:∀j,j≠1->j≠2->(j<5+2*bp.length)->bN t j ∉ L)
 (f:gQ H' bg (bN t 1) dp aC a) (k:e3 H' bg (bN t 2) rp a.ai (decide (a.nx=.cb)) a.aw):gT H' bg t p dp rp tv wv tl wl aC a bp:=by
 have az:=m.Y;have c:=g.n1;have aN:=b 0 aA aA V;exact⟨by have:=g.lt;omega,by rw [m.col p g.lt (by rw [c];exact aN)];exact c,by rw [m.get p g.lt (by rw [c];exact aN)];exact g.get,f,k,g.iK.aJ m (b 3 aA aA V),g.n3.aJ m (b 4 aA aA V),g.iL,g.wn,λi h x e=>(g.jg i h x e).aJ m (b _ V V V),λi h x e=>(g.w2 i h x e).aJ m (b _ V V V)⟩
theorem n4:(a'.D env 3).map (λd=>d.kind.isAgg)=some false:= ar
theorem mE:(a'.D env 25).map (λd=>d.kind.isAgg)=some false:= ar
theorem pc:(a'.D env 27).map (λd=>d.kind.isAgg)=some false:= ar
theorem Tf:(a'.D env 34).map (λd=>d.kind.isAgg)=some false:= ar
theorem n5:(a'.D env 30).map (λd=>d.kind.isAgg)=some false:= ar
theorem kf(t j:Nat):bN t j≠8:=by have:=jB t j;omega
theorem pd(t j:Nat):bN t j≠7:=by have:=jB t j;omega
theorem th(t j:Nat):bN t j≠9:=by have:=jB t j;omega
theorem Tg{H:T}{col:Nat->Nat}{t p dp rp c:Nat}{tv wv:J}{tl wl:List J}{I:bO}{d:bq}{bp:List (List aP)}{o:Option aT}{aU:Bytes}(g:gT H col t p dp rp tv wv tl wl I d bp)(n:Keys.Good d)(Z:kb d)(a9:bp.length<2^30):qP H col t p dp rp d bp 2 o aU c:=by
 obtain⟨d3,ae⟩:=tg n;obtain⟨f1,f2,f3,f4⟩:=Tc d Z;have m0:=bs.fresh H col 2;have ce:fresh H col (H.Y+0)=8:=gP V;have m1:=bs.kd (H:=⟨H.Y+2,H.ay⟩) (fB 2 o aU.length c) ce;have d4:((⟨H.Y+2,H.ay⟩:T).set (H.Y+0) (fB 2 o aU.length c)).Y=H.Y+2:=rfl;have a5:((⟨H.Y+2,H.ay⟩:T).set (H.Y+0) (fB 2 o aU.length c)).get (H.Y+0)=some (fB 2 o aU.length c):=T.eT _ _ _;have g1:=(g.aJ m0 λj=> an).aJ m1 λj=>by simpa using kf t j
 generalize X:(⟨H.Y+2,H.ay⟩:T).set (H.Y+0) (fB 2 o aU.length c)=H1 at *;have m2:=bs.fresh H1 (fresh H col) 14;have g2:=g1.aJ m2 λj=> an
 obtain⟨e,av,k,l,a3,F,S,m3,q⟩:=g2.mD.flush n V;have q:H1.Y+14<e.Y:=q;obtain⟨U,m4⟩:=S.Io (bN t (5+2*bp.length));have G:=F.aJ m4 (by simpa using pd t 1);have c0:=(g2.jy.aJ m3 (by simpa using eX (t:=t) (by decide:(2:Nat)≠1))).aJ m4 (by simpa using pd t 2);generalize d2:(λx=>if l x=7 then bN t (5+2*bp.length)else l x)=C at *;have m5:=bs.fresh e C 6;obtain⟨f,bv,D,a4,s,m,m6⟩:=(c0.aJ m5 an).flush (c2:=bN t (6+2*bp.length));have d5:e.Y+6<=f.Y:=m6.Y;rw [f1,f2,f3]at s;rw [f4]at m;have K:=(G.aJ m5 an).aJ m6 (by simpa using eX (t:=t) (by decide:(1:Nat)≠2));have W:=(U.aJ m5 an).aJ m6 (by simpa using eX (t:=t) (by omega:5+2*bp.length≠2));have r:=(m3.trans (m4.trans (m5.trans m6))).sub (M:=[bN t 1,7,bN t 2]) an
 have g4:gT f D t p dp rp tv wv tl wl k (Keys.flush d).1 bp:=g2.dec r (λj aa h2 d1=>by
  simp only [cM,ff,ea,eR]
  exact⟨eX aa,pd _ _,eX h2⟩) K s
 obtain⟨y,z,i,A,B,h,u,w,c3,c5,c4,c9,E,aI,aO,L,dg,N,O,Q,R,d0,g5,co,ct,m7⟩:=Iq (P:=11) (b:=6) (a:=7) (P2:=11) (b2:=6) (a2:=7) g4 W m aA aA aA aA a9;have m8:=bs.fresh h E 4
 have am:=Bf (co.aJ m8 an) (ct.aJ m8 an) (eX V) (by
  have:(Keys.flush d).2.length<=1:=by
   unfold Keys.flush;split
   .simp
   .split
    .simp [tell]
    .split<;>simp [tell]
  omega)
 have bn:(⟨e.Y+6,e.ay⟩:T).get p=some (ke dp rp tv wv):=by
  have:=(m3.trans (m4.trans m5)).get p g2.lt (by
   rw [g2.n1];simp only [eG,cM,ff,ea,eR]
   exact⟨eX aA,pd _ _⟩)
  rw [this];exact g2.get
 obtain⟨v,ad,a0,rfl,rfl⟩:=SW H H1 e f y z i A B h p (H.Y+0) dp rp aU.length c o av bv tv wv c3 u c5 w (λv ad=>v=.bool true/\ad=⟨h.Y+4,h.ay⟩)
  (aR (Nat.le_refl _) ⟨by rw [<-X];exact w0 rfl,aR V (aR V ⟨eL (H:=⟨H1.Y+4,H1.ay⟩) n4 a5 rfl,aR V (aR V (aR V ⟨eL (H:=⟨H1.Y+14,H1.ay⟩) mE g1.get rfl,⟨a3⟩,aR V ⟨eL (H:=⟨e.Y+6,e.ay⟩) pc bn rfl,⟨a4⟩,aR V ⟨eL (H:=⟨f.Y+11,f.ay⟩) n5 g4.get rfl,aI _ _ rfl,aO,iJ rfl rfl L,aR V ⟨eL (H:=⟨i.Y+11,i.ay⟩) n5 N rfl,O _ _ rfl,Q,iJ rfl rfl R,aR V ⟨⟨am⟩,by
   refine e2 V ?_
   exact⟨rfl,rfl⟩⟩⟩⟩⟩⟩))⟩)⟩)
 refine⟨_,_,u,w,c4,c9,k,a0,?_,(m0.trans (m1.trans (m2.trans (r.trans (m7.trans m8))))).sub an,by show H.Y<=h.Y+4;omega⟩;unfold kQ;rw [ap aA,aE rfl];exact g5.aJ m8 λj=> an
structure w3(H:T)(f w N:Nat):Prop where
 lt:f<H.Y
 ex:∃B,H.get f=some B/\B.ro=false/\B.ab=w/\B.aQ.length=N/\∀e∈B.aQ,∃z,e=J.int .u8 z
theorem Th{H:T}{f w N i:Nat}{z:Int}(h:w3 H f w N)(ah:i<N):∃H',eA (a'.D env) 5 ⟨f,w,i,0,1⟩ (.int .u8 z) H=some H'/\w3 H' f w N/\H'.Y=H.Y/\∀j,j≠f->H'.get j=H.get j:=by
 obtain⟨B,ag,b,c,l,he⟩:=h.ex;have g:(a'.D env 5).map (λd=>(d.kind.isAgg,d.size))=some (false,1):= ar;obtain⟨d,aa,h2⟩:=b4.1 g;simp only [bo]at h2;have a:i<B.aQ.length:= V;obtain⟨z0,m⟩:=he _ (gw a);refine⟨H.set f {B with aQ:=B.aQ.set i (.int .u8 z),eb:=B.ab},?_,⟨h.lt,_,T.eT _ _ _,b,c,by simpa using l,λe hm=> ?_⟩,rfl,λj k=>T.eO _ _ (ki k)⟩
 .unfold eA;rw [aa,ag];simp [J.fits,h2.1,h2.2,b,c,a,m,kn,J.hD]
 .rcases tt hm with hm|rfl
  .exact he e hm
  .exact⟨z,rfl⟩
abbrev qQ(p:Nat)(av bv:J)(f w N i:Nat):a8:=[(0,.ptr (some ⟨p,0,0,0,4⟩)),(5,av),(6,bv),(7,.slice (some ⟨f,w,0,0,1⟩) N N),(8,.bool true),(9,.int .i64 (i:Nat))]
theorem Bh{f w N i:Nat}(ah:i<N):dL (a'.D env) 34 (.slice (some ⟨f,w,0,0,1⟩) N N) (.int .i64 (i:Nat))=some (.ptr (some ⟨f,w,0+i,0,1⟩)):=by have aa:(a'.D env 5).map (λx=>x.size)=some 1:= ar;have h2:(a'.D env 34).map (λx=>x.kind)=some (.slice 5):= ar;obtain⟨x,b,g⟩:=b4.1 aa;obtain⟨d,a,e⟩:=b4.1 h2;have:=lY.index (o:=some ⟨f,w,0,0,1⟩) (n:=N) (c:=N) (id:=f) (ab:=w) (off:=0) (es:=1) (.inl rfl) a e b g.symm (k:= .i64) (i:=((i:Nat):Int)) V V;rw [fU]at this;exact this
theorem Ti{B p f w N:Nat}{av bv:J}(q:N<2^40):∀(k i:Nat)(H:T),N-i<=k->i<=N->B<=H.Y->w3 H f w N ->
 ∃H',dl B 126 (br 15 0) (qQ p av bv f w N i) H (.exit 1) (qQ p av bv f w N N) H'/\H.Y<=H'.Y/\∀j,j≠f->H'.get j=H.get j:=by
 intro k;induction k with
 |zero =>
  intro i H l ah a hw;obtain rfl:i=N:= V;obtain⟨e,F,ad,b,rfl,rfl,rfl⟩:=H7 H H B p i i i ⟨f,w,0,0,1⟩ ⟨f,w,0,0,1⟩ av bv true (λe F h=>e=.exit 1/\F=qQ p av bv f w i i/\h=⟨H.Y+4,H.ay⟩) (aR a ⟨λh=>absurd h V,λ_=>⟨rfl,rfl,rfl⟩⟩);exact⟨_,bX.last an b,by show H.Y<=H.Y+4;omega,λ_ _=>rfl⟩
 |succ k ih =>
  intro i H l ah a hw;by_cases al:i<N
  .obtain⟨H1,hs,d,g,o⟩:=Th (H:=⟨H.Y+8,H.ay⟩) (z:=238) ⟨by have:=hw.lt;show f<H.Y+8;omega,hw.ex⟩ al;have g:H1.Y=H.Y+8:=g;rw [show i=0+i by omega]at hs
   obtain⟨e,F,ad,b,rfl,rfl,rfl⟩:=H7 H H1 B p N N i ⟨f,w,0,0,1⟩ ⟨f,w,0+i,0,1⟩ av bv true (λe F h=>e=.normal/\F=qQ p av bv f w N (i+1)/\h=⟨H1.Y+3,H1.ay⟩)
    (aR a ⟨λ_=>aR V ⟨Bh al,iJ rfl rfl hs,aR V ⟨⟨V,V⟩,rfl,by rw [show(i:Int)+1=((i+1:Nat):Int)by omega],rfl⟩⟩,λh=>absurd h V⟩)
   obtain⟨H',m,az,n⟩:=ih (i+1) ⟨H1.Y+3,H1.ay⟩ V V (by show B<=H1.Y+3;omega) ⟨by have:=d.lt;show f<H1.Y+3;omega,d.ex⟩;exact⟨H',bX.step b m,by have:H1.Y+3<=H'.Y:=az;omega,λj c=>(n j c).trans (o j c)⟩
  .exact ih i H V ah a hw
theorem Tj{f w n N:Nat}(h:n<=N):ec (a'.D env) 34 (.slice (some ⟨f,w,0,0,1⟩) N N) none (some (.int .i64 (n:Nat))) none=some (.slice (some ⟨f,w,0,0,1⟩) n N):=by
 have aa:(a'.D env 5).map (λx=>x.size)=some 1:= ar;have h2:(a'.D env 34).map (λx=>x.kind)=some (.slice 5):= ar;obtain⟨x,b,e⟩:=b4.1 aa;obtain⟨d,a,c⟩:=b4.1 h2;unfold ec;rw [a];simp only [c,b];have cq:eh (some (.int .i64 (n:Nat))) N N=some n:=by simp [eh,h]
 have g:eh none N N=some N:=rfl;have cn:eh none 0 n=some 0:=rfl;simp only [g,cq,cn];simp [e]
theorem Ir{H:T}{f w i m a:Nat}{l:List J}{ty:bj}{z:Int}(ag:H.get f=some (bL l 1 w m a ty))(ah:l[i]? =some (.int .u8 z)):a1 (a'.D env) 5 ⟨f,w,i,0,1⟩ H=some (.int .u8 z):=by
 refine Gc ag ?_;unfold ac.elem?;rw [aE]
 .exact ah
 .simpa [ac.b0]using (dT.1 ah).1
theorem Tk{H:T}{col:Nat->Nat}{t p dp rp c:Nat}{tv wv:J}{tl wl:List J}{I:bO}{d:bq}{bp:List (List aP)}{o:Option aT}{aU:Bytes}(g:gT H col t p dp rp tv wv tl wl I d bp)(gt:Keys.Good d)(op:kb d)(pm:bp.length<2^30)(g3:jr H col 0 o aU)(az:aU.length<2^28):qP H col t p dp rp d bp 1 o aU c:=by
 obtain⟨ip,ae⟩:=tg gt;have m0:=bs.fresh H col 2;have i1:fresh H col (H.Y+0)=8:=gP V
 have m1:bs ⟨H.Y+2,H.ay⟩ ((⟨H.Y+2,H.ay⟩:T).set (H.Y+0) (fB 1 o aU.length c)) (fresh H col) (λx=>if x=H.Y+0 then 10 else fresh H col x) [8]:=by
  refine⟨Nat.le_refl _,λx _ h=>T.eO _ _ λe=> ?_,λx _ h=>ap λe=> ?_⟩
  .subst e;rw [i1]at h;simp at h
  .subst e;rw [i1]at h;simp at h
 have t3:((⟨H.Y+2,H.ay⟩:T).set (H.Y+0) (fB 1 o aU.length c)).Y=H.Y+2:=rfl;have S:((⟨H.Y+2,H.ay⟩:T).set (H.Y+0) (fB 1 o aU.length c)).get (H.Y+0)=some (fB 1 o aU.length c):=T.eT _ _ _;have g1:=(g.aJ m0 λj=> an).aJ m1 λj=>by simpa using kf t j
 have aH:=(g3.aJ m0 an).aJ m1 aA;have g6:∀F,bf F (.tmp 1)=.agg [.int .i64 1,.slice o aU.length c]->bd env cr (H.Y+0) (bf F) ⟨H.Y+2,H.ay⟩ (Op.box 36 (Operand.tmp 1))=some (.ptr (some ⟨H.Y+0,0,0,0,2⟩),(⟨H.Y+2,H.ay⟩:T).set (H.Y+0) (fB 1 o aU.length c)):=λF on=>w0 on
 have c4:(λx=>if x=H.Y+0 then 10 else fresh H col x) (H.Y+0)=10:=aE rfl;generalize ts:(⟨H.Y+2,H.ay⟩:T).set (H.Y+0) (fB 1 o aU.length c)=H1 at *;generalize tx:(λx=>if x=H.Y+0 then 10 else fresh H col x)=d9 at *;have m2:=bs.fresh H1 d9 12;obtain⟨gc,s,el,fd,ge,m3,n2⟩:=(c1.nil ⟨H1.Y+12,H1.ay⟩ (fresh H1 d9) 9 1 bZ).fu (nid:=H1.Y+10) Gm (by show H1.Y+10<H1.Y+12;omega) (gP V) ((aH.aJ m2 an).aQ (n:=c)) (by simp only [dx,e1];omega) (by simp only [dx,e1];omega);have n2:s.Y=H1.Y+12:=n2;rw [eg]at ge;have m4:=bs.fresh s el 4;have ps:fresh s el (s.Y+1)=8:=gP V;have m5:=bs.kd (H:=⟨s.Y+4,s.ay⟩) (ac.aj [.int .u8 165,.int .u8 166] 1 true) ps;have or:dF 1 (.slice (some ⟨s.Y+1,0,0,0,1⟩) 2 2) ((⟨s.Y+4,s.ay⟩:T).set (s.Y+1) (ac.aj [.int .u8 165,.int .u8 166] 1 true))=some [.int .u8 165,.int .u8 166]:=w1 rfl aA;obtain⟨md,r,L,fn,nm,m6,i6⟩:=((ge.aJ m4 an).aJ m5 aA).fu (nid:=s.Y+2) Gm (by show s.Y+2<s.Y+4;omega) (gP V) or (by simp only [b',dx,e1];omega) (by simp only [b',dx,e1];omega);have i6:r.Y=s.Y+4:=i6
 obtain⟨f,w,c9,ce,rfl,hu,X,W⟩:∃f w m bn,md=.slice (some ⟨f,w,0,0,1⟩) (aU.length+2) (aU.length+2)/\r.get f=some (bL (aG aU++[.int .u8 165,.int .u8 166]) 1 w m bn bZ)/\f<r.Y/\L f=9:=by
  rcases nm.ex with ⟨_,h⟩|⟨_,ro,h2,go,ab,m,bn,gs,nx⟩
  .simp at h
  .rw [dt,e1]at gs;exact⟨ro,ab,m,bn,gs,nx,h2,go⟩
 have U:=(m2.trans (m3.trans (m4.trans (m5.trans m6)))).sub (M:=[9,8]) an;have g4:=g1.aJ U λj=>by simp only [cM,ff,ea,eR];exact⟨th _ _,kf _ _⟩
 have j1:=aH.aJ U aA;have j0:H.Y+0<H1.Y:= V;have co:r.get (H.Y+0)=some (fB 1 o aU.length c):=by rw [U.get _ j0 (by rw [c4];decide)];exact S
 have qr:L (H.Y+0)=10:=by rw [U.col _ j0 (by rw [c4];decide)];exact c4
 have d8:jr r L 9 (some ⟨f,w,0,0,1⟩) aU:=by refine⟨.inr ⟨f,w,0,rfl,⟨_,hu,λj am=> ?_⟩,X,W⟩⟩;unfold ac.elem?;rw [aE (by simp [ac.b0,e1];omega)];simp only [eM];rw [hW (by rw [e1];exact am)];simp [aG,am]
 have m7:=bs.fresh r L 11;have g5:=g4.aJ m7 λj=> an
 obtain⟨l,av,d6,em,hm,le,mk,m8⟩:=g5.mD.feed (m:=aU.length+2) gt az (d8.aJ m7 an) (λe=>th t 1 e.symm);have t5:r.Y+11<=l.Y:=m8.Y;obtain⟨mp,m9⟩:=mk.Io (bN t (5+2*bp.length));have lw:=le.aJ m9 (by simpa using pd t 1);have C:=(m8.trans m9).sub (M:=[bN t 1,7]) an;generalize ty:(λx=>if em x=7 then bN t (5+2*bp.length)else em x)=O at *;have fs:∀j,j≠1->bN t j ∉ [bN t 1,7]:=λj am=>by simp only [cM,ff,ea,eR];exact⟨eX am,pd _ _⟩
 have K:∀k,k<30->k≠7->k ∉ [bN t 1,7]:=λk ip of=>by simp only [cM,ff,ea,eR];exact⟨by have:=jB t 1;omega,of⟩
 have i9:H.Y+0<r.Y+11:= V;have c5:fresh r L (H.Y+0)=10:=by rw [m7.col _ V an];exact qr
 have c0:l.get (H.Y+0)=some (fB 1 o aU.length c):=by rw [C.get _ i9 (by rw [c5];exact K 10 aA aA)];exact co
 have rd:O (H.Y+0)=10:=by rw [C.col _ i9 (by rw [c5];exact K 10 aA aA)];exact c5
 have sn:=g5.jy.aJ C (fs 2 aA);have is:l.get p=some (ke dp rp tv wv):=by rw [C.get p g5.lt (by rw [g5.n1];exact fs 0 aA)];exact g5.get
 have d7:=(j1.aJ m7 an).aJ C (K 0 aA aA);have j3:=(d8.aJ m7 an).aJ C (K 9 aA aA);have ov:l.get f=some (bL (aG aU++[.int .u8 165,.int .u8 166]) 1 w c9 ce bZ):=by rw [C.get f (by show f<r.Y+11;omega) (by rw [m7.col f X an,W];exact K 9 aA aA)];exact hu
 have c3:O f=9:=by rw [C.col f (by show f<r.Y+11;omega) (by rw [m7.col f X an,W];exact K 9 aA aA),m7.col f X an];exact W
 have m10:=bs.fresh l O 8;have os:=(HF op aU).1;obtain⟨i,bv,z,hs,a4,Z,m11⟩:=(sn.aJ m10 an).feed (c2:=0) (ct:=11) (m:=c) (d7.aJ m10 an) (by have:=jB t 2;omega) aA (kf _ _) V V;rw [os]at a4 Z;have t6:l.Y+8<=i.Y:=m11.Y;obtain⟨Z,i4⟩:=Z.Tb (bN t (6+2*bp.length));have a4:=a4.aJ i4 (by have:=jB t 2;simp;omega);have m11:=(m11.trans i4).sub (M:=[bN t 2,11,8]) an;generalize t0:(λx=>if z x=11 then bN t (6+2*bp.length)else z x)=z at *;have f0:∀j,j≠2->bN t j ∉ [bN t 2,11,8]:=λj aa=>by simp only [cM,ff,ea,eR];exact⟨eX aa,by have:=jB t j;omega,kf _ _⟩
 have Q:∀k,k<30->k≠8->k≠11->k ∉ [bN t 2,11,8]:=λk ip ok no=>by simp only [cM,ff,ea,eR];exact⟨by have:=jB t 2;omega,no,ok⟩
 have l2:=(lw.aJ m10 an).aJ m11 (f0 1 aA);have mt:=(mp.aJ m10 an).aJ m11 (f0 _ V);have i5:=(C.trans (m10.trans m11)).sub (M:=[bN t 1,7,bN t 2,11,8]) an
 have g7:gT i z t p dp rp tv wv tl wl d6 (bY d aU).1 bp:=g5.dec i5 (λj aa h2 go=>by
  simp only [cM,ff,ea,eR]
  exact⟨eX aa,pd _ _,eX h2,by have:=jB t j;omega,kf _ _⟩) l2 a4
 have s2:H.Y+0<l.Y:= V;have a3:∀x,x<l.Y->fresh l O x=O x:=λx a0=>m10.col x a0 an
 have E:i.get (H.Y+0)=some (fB 1 o aU.length c):=by rw [m11.get _ (by show H.Y+0<l.Y+8;omega) (by rw [a3 _ s2,rd];exact Q 10 aA aA aA)];exact c0
 have j2:=(d7.aJ m10 an).aJ m11 (Q 0 aA aA aA);have ks:=(j3.aJ m10 an).aJ m11 (Q 9 aA aA aA);have hw:i.get f=some (bL (aG aU++[.int .u8 165,.int .u8 166]) 1 w c9 ce bZ):=by rw [m11.get f (by show f<l.Y+8;omega) (by rw [a3 f V,c3];exact Q 9 aA aA aA)];exact ov
 have pv:z f=9:=by rw [m11.col f (by show f<l.Y+8;omega) (by rw [a3 f V,c3];exact Q 9 aA aA aA),a3 f V];exact c3
 have m12:=bs.fresh i z 31
 have pp:w3 ⟨i.Y+31,i.ay⟩ f w (aU.length+2):=by
  refine⟨by show f<i.Y+31;omega,_,hw,rfl,rfl,by simp [e1],λe he=> ?_⟩;rcases eG.1 he with he|he
  .obtain⟨x,_,rfl⟩:=dz.1 (show e∈aU.map _ from he);exact⟨_,rfl⟩
  .simp only [cM,ff,ea]at he;rcases he with rfl|rfl<;>exact⟨_,rfl⟩
 obtain⟨A,pl,dg,rt⟩:=Ti (B:=H.Y) (p:=p) (av:=av) (bv:=bv) V (aU.length+2) 0 ⟨i.Y+31,i.ay⟩ V V (by show H.Y<=i.Y+31;omega) pp;have dg:i.Y+31<=A.Y:=dg;have m13:bs ⟨i.Y+31,i.ay⟩ A (fresh i z) (fresh i z) [9]:=⟨dg,λx _ h=>rt x λe=>by subst e;rw [m12.col x V an,pv]at h;simp at h,λ_ _ _=>rfl⟩
 have g8:=(g7.aJ m12 λj=> an).aJ m13 λj=>by simpa using th t j
 have mx:=(mt.aJ m12 an).aJ m13 (by simpa using th t _);have ne:=(Z.aJ m12 an).aJ m13 (by simpa using th t _);obtain⟨d4,d5,G,d2,d3,y,d0,d1,i7,i8,sz,s1,eq,f1,f2,f3,f4,f5,f6,f7,f8,f9,g9,rx,sm,m14⟩:=Iq (P:=13) (b:=8) (a:=9) (P2:=11) (b2:=6) (a2:=7) g8 mx (c1.kw ne) aA aA aA aA pm;have m15:=bs.fresh y eq 4;have t1:=yQ aU d;have g2:=Bf (rx.aJ m15 an) (sm.aJ m15 an) (eX V) (by show(bY d aU).2.length<_;omega)
 have g0:bR H.Y 126 (Code.loop (br 15 0)) (qQ p av bv f w (aU.length+2) 0) ⟨i.Y+31,i.ay⟩ (.exit 1) [(0,.ptr (some ⟨p,0,0,0,4⟩)),(5,av),(6,bv),(8,.bool true)] A :=
  (cZ.dJ pl).post (b5.facts (a8.nj (qQ p av bv f w (aU.length+2) (aU.length+2)) [0,5,6,8]))
 have it:dL (a'.D env) 34 (.slice (some ⟨f,w,0,0,1⟩) (aU.length+2) (aU.length+2)) (.int .i64 (aU.length:Nat))=some (.ptr (some ⟨f,w,0+aU.length,0,1⟩)):=Bh V
 have i0:dL (a'.D env) 34 (.slice (some ⟨f,w,0,0,1⟩) (aU.length+2) (aU.length+2)) (.int .i64 ((aU.length:Int)+1))=some (.ptr (some ⟨f,w,0+(aU.length+1),0,1⟩)):=by rw [show(aU.length:Int)+1=((aU.length+1:Nat):Int)by omega];exact Bh V
 have id:(⟨i.Y+30,i.ay⟩:T).get f=some (bL (aG aU++[.int .u8 165,.int .u8 166]) 1 w c9 ce bZ):=hw;have i2:a1 (a'.D env) 5 ⟨f,w,0+aU.length,0,1⟩ ⟨i.Y+30,i.ay⟩=some (.int .u8 165):=Ir id (by rw [eM,hX (by rw [e1];exact Nat.le_refl _),e1];simp)
 have i3:a1 (a'.D env) 5 ⟨f,w,0+(aU.length+1),0,1⟩ ⟨i.Y+30,i.ay⟩=some (.int .u8 166):=Ir id (by rw [eM,hX (by rw [e1];exact Nat.le_add_right _ _),e1,show aU.length+1-aU.length=1 by omega];rfl)
 have es:dF 1 (.slice (some ⟨f,w,0,0,1⟩) aU.length (aU.length+2)) ⟨i.Y+30,i.ay⟩=some (aG aU):=(ks.aJ (bs.fresh i z 30) an).aQ;have e0:dF 1 (.slice o aU.length c) ⟨i.Y+30,i.ay⟩=some (aG aU):=(j2.aJ (bs.fresh i z 30) an).aQ;have a5:=Tj (f:=f) (w:=w) (n:=aU.length) (N:=aU.length+2) V;have u:∀(a9:T),a9.get (H.Y+0)=some (fB 1 o aU.length c)->a1 (a'.D env) 34 ⟨H.Y+0,0,0,1,2⟩ a9=some (.slice o aU.length c):=λa9 h=>eL Tf h rfl
 have t2:=g.lt
 have fin:∀{v:J}{ad:T},bu 15 [.ptr (some ⟨p,0,0,0,4⟩),.agg [.int .i64 1,.slice o aU.length c]] H v ad->v=.bool true->ad=⟨y.Y+4,y.ay⟩->qP H col t p dp rp d bp 1 o aU c:=by
  rintro v ad R rfl rfl;have rg:=(m0.trans (m1.trans (U.trans (m7.trans (i5.trans (m12.trans (m13.trans (m14.trans m15))))))))
  refine⟨⟨y.Y+4,y.ay⟩,fresh y eq,d0,d1,sz,s1,d6,R,?_,?_,by show H.Y<=y.Y+4;omega⟩
  .unfold kQ;rw [aE rfl];exact g9.aJ m15 λj=> an
  .exact rg.sub (by
    intro x a0;simp only [eG,cM,ff,ea,false_or]at a0⊢
    rcases a0 with h|(h|h)|(h|h|h|h|h)|h|(h|h|h|h)<;>simp [h])
 rcases g3.ex with ⟨rfl,rfl⟩|⟨q,kv,bw,rfl,_,t4,_⟩
 .obtain⟨v,ad,R,aI,aO⟩:=SV H H1 s _ r l i A d4 d5 G d2 d3 y p (H.Y+0) 0 dp rp c f w 0 gc (.slice (some ⟨s.Y+1,0,0,0,1⟩) 2 2) av bv tv wv i7 d0 i8 d1 (λv ad=>v=.bool true/\ad=⟨y.Y+4,y.ay⟩)
   (aR (Nat.le_refl _) ⟨g6 _ rfl,aR V (aR V ⟨eL (H:=⟨H1.Y+4,H1.ay⟩) n4 S rfl,aR V (aR V (aR V ⟨u ⟨H1.Y+12,H1.ay⟩ S,fd,aR V ⟨Ii _ _ _,fn,aR V ⟨eL (H:=⟨r.Y+11,r.ay⟩) mE g4.get rfl,V,u ⟨r.Y+11,r.ay⟩ co,V,a5,⟨hm⟩,aR V ⟨eL (H:=⟨l.Y+8,l.ay⟩) pc is rfl,V,u ⟨l.Y+8,l.ay⟩ c0,V,⟨hs⟩,
    aR V ⟨u ⟨i.Y+30,i.ay⟩ E,V,a5,qN rfl es,by show f+1<=i.Y;omega,u ⟨i.Y+30,i.ay⟩ E,V,qN rfl e0,rfl,u ⟨i.Y+30,i.ay⟩ E,V,it,i2,V,u ⟨i.Y+30,i.ay⟩ E,V,i0,i3,V,aR V ⟨g0,aR V (aR V ⟨eL (H:=⟨A.Y+13,A.ay⟩) n5 g8.get rfl,f1 _ _ rfl,f2,iJ rfl rfl f3,aR V ⟨eL (H:=⟨G.Y+11,G.ay⟩) n5 f5 rfl,f6 _ _ rfl,f7,iJ rfl rfl f8,aR V ⟨⟨g2⟩,by
     refine e2 V ?_
     exact⟨rfl,rfl⟩⟩⟩⟩)⟩⟩⟩⟩⟩⟩))⟩)⟩)
  exact fin R aI aO
 .obtain⟨v,ad,R,aI,aO⟩:=SU H H1 s _ r l i A d4 d5 G d2 d3 y p (H.Y+0) 0 dp rp aU.length c f w 0 q kv bw gc (.slice (some ⟨s.Y+1,0,0,0,1⟩) 2 2) av bv tv wv i7 d0 i8 d1 aU (λv ad=>v=.bool true/\ad=⟨y.Y+4,y.ay⟩)
   (aR (Nat.le_refl _) ⟨g6 _ rfl,aR V (aR V ⟨eL (H:=⟨H1.Y+4,H1.ay⟩) n4 S rfl,aR V (aR V (aR V ⟨u ⟨H1.Y+12,H1.ay⟩ S,fd,aR V ⟨Ii _ _ _,fn,aR V ⟨eL (H:=⟨r.Y+11,r.ay⟩) mE g4.get rfl,V,u ⟨r.Y+11,r.ay⟩ co,V,a5,⟨hm⟩,aR V ⟨eL (H:=⟨l.Y+8,l.ay⟩) pc is rfl,V,u ⟨l.Y+8,l.ay⟩ c0,V,⟨hs⟩,
    aR V ⟨u ⟨i.Y+30,i.ay⟩ E,V,a5,qN rfl es,by show f+1<=i.Y;omega,u ⟨i.Y+30,i.ay⟩ E,V,qN rfl e0,by show q+1<=i.Y;omega,an,u ⟨i.Y+30,i.ay⟩ E,V,it,i2,V,u ⟨i.Y+30,i.ay⟩ E,V,⟨V,V⟩,i0,i3,V,aR V ⟨g0,aR V (aR V ⟨eL (H:=⟨A.Y+13,A.ay⟩) n5 g8.get rfl,f1 _ _ rfl,f2,iJ rfl rfl f3,aR V ⟨eL (H:=⟨G.Y+11,G.ay⟩) n5 f5 rfl,f6 _ _ rfl,f7,iJ rfl rfl f8,aR V ⟨⟨g2⟩,by
     refine e2 V ?_
     exact⟨rfl,rfl⟩⟩⟩⟩)⟩⟩⟩⟩⟩⟩))⟩)⟩)
  exact fin R aI aO
theorem Tl{o v N i:Nat}(ah:i<N):dL (a'.D env) 30 (.slice (some ⟨o,v,0,0,1⟩) N N) (.int .i64 (i:Nat))=some (.ptr (some ⟨o,v,0+i,0,1⟩)):=by have aa:(a'.D env 56).map (λx=>x.size)=some 1:= ar;have h2:(a'.D env 30).map (λx=>x.kind)=some (.slice 56):= ar;obtain⟨x,b,f⟩:=b4.1 aa;obtain⟨d,a,e⟩:=b4.1 h2;have:=lY.index (o:=some ⟨o,v,0,0,1⟩) (n:=N) (c:=N) (id:=o) (ab:=v) (off:=0) (es:=1) (.inl rfl) a e b f.symm (k:= .i64) (i:=((i:Nat):Int)) V V;rw [fU]at this;exact this
theorem Bi{o v N i:Nat}(ah:i<N):dL (a'.D env) 56 (.slice (some ⟨o,v,0,0,6⟩) N N) (.int .i64 (i:Nat))=some (.ptr (some ⟨o,v,0+i,0,6⟩)):=by have aa:(a'.D env 42).map (λx=>x.size)=some 6:= ar;have h2:(a'.D env 56).map (λx=>x.kind)=some (.slice 42):= ar;obtain⟨x,b,f⟩:=b4.1 aa;obtain⟨d,a,e⟩:=b4.1 h2;have:=lY.index (o:=some ⟨o,v,0,0,6⟩) (n:=N) (c:=N) (id:=o) (ab:=v) (off:=0) (es:=6) (.inl rfl) a e b f.symm (k:= .i64) (i:=((i:Nat):Int)) V V;rw [fU]at this;exact this
theorem c1.at'{H:T}{col:Nat->Nat}{c i n:Nat}{v:J}{l:List J}{o:Option aT}(h:c1 H col c 1 ig v l)(ah:l[i]? =some (.slice o n n)):∃a,dL (a'.D env) 30 v (.int .i64 (i:Nat))=some (.ptr (some a))/\(∀k,a1 (a'.D env) 56 a ⟨H.Y+k,H.ay⟩=some (.slice o n n))/\a.id<H.Y:=by
 have b:=(dT.1 ah).1;rcases h.ex with ⟨_,rfl⟩|⟨_,q,lt,_,ab,m,f,rfl,ag⟩
 .simp at ah
 .refine⟨_,Tl b,λk=> ?_,lt⟩;have e:(a'.D env 56).map (λd=>d.kind.isAgg)=some false:= ar;obtain⟨d,aa,h2⟩:=b4.1 e;have j:(⟨H.Y+k,H.ay⟩:T).get q=some (bL l 1 ab m f ig):=ag;unfold a1;rw [aa,j]
  have g:(bL l 1 ab m f ig).elem? ab (0+i)=some (.slice o n n):=by unfold ac.elem?;rw [aE (by simpa [ac.b0]using b),eM];exact ah
  simp only [g];simp [ft,h2]
structure jC(H:T)(col:Nat->Nat)(t p dp rp:Nat)(tv wv:J)(tl wl:List J):Prop where
 lt:p<H.Y
 n1:col p=bN t 0
 get:H.get p=some (ke dp rp tv wv)
 iK:c1 H col (bN t 3) 1 ig tv tl
 n3:c1 H col (bN t 4) 1 ig wv wl
theorem jC.aJ{H H':T}{col bg:Nat->Nat}{t p dp rp:Nat}{tv wv:J}{tl wl:List J}{L:List Nat}(g:jC H col t p dp rp tv wv tl wl)(m:bs H H' col bg L)(aN:bN t 0 ∉ L)(b:bN t 3 ∉ L)(c:bN t 4 ∉ L):jC H' bg t p dp rp tv wv tl wl:=by have az:=m.Y;have a:=g.n1;exact⟨by have:=g.lt;omega,by rw [m.col p g.lt (by rw [a];exact aN)];exact a,by rw [m.get p g.lt (by rw [a];exact aN)];exact g.get,g.iK.aJ m b,g.n3.aJ m c⟩
theorem gT.Bj{H:T}{col:Nat->Nat}{t p dp rp:Nat}{tv wv:J}{tl wl:List J}{I:bO}{d:bq}{bp:List (List aP)}(g:gT H col t p dp rp tv wv tl wl I d bp):jC H col t p dp rp tv wv tl wl:=⟨g.lt,g.n1,g.get,g.iK,g.n3⟩
theorem jC.kg{H:T}{col:Nat->Nat}{t p dp rp:Nat}{tv wv:J}{tl wl:List J}(g:jC H col t p dp rp tv wv tl wl):∃a,tv=.slice a tl.length tl.length/\∀k,a1 (a'.D env) 30 ⟨p,0,0,2,4⟩ ⟨H.Y+k,H.ay⟩=some (.slice a tl.length tl.length):=by obtain⟨a,rfl⟩:=g.iK.ez;exact⟨a,rfl,λk=>eL (H:=⟨H.Y+k,H.ay⟩) n5 g.get rfl⟩
theorem Tm{B t p dp rp:Nat}{tv wv:J}{tl wl:List J}{I:bO}{d:bq}{bp:List (List aP)}(M:bp.length<2^40)(z:∀l∈bp,l.length<2^40):∀(k i:Nat)(H:T)(col:Nat->Nat),bp.length-i<=k->i<=bp.length->B<=H.Y->gT H col t p dp rp tv wv tl wl I d bp ->
 ∃H' bg,dl B 169 (br 18 0) [(0,.ptr (some ⟨p,0,0,0,4⟩)),(3,.int .i64 (i:Nat))] H (.exit 0) [(0,.ptr (some ⟨p,0,0,0,4⟩)),(3,.int .i64 (bp.length:Nat))] H'/\bs H H' col bg []/\B<=H'.Y:=by
 intro k;induction k with
 |zero =>
  intro i H col C ah c g;obtain rfl:i=bp.length:= V;obtain⟨q,rfl,cD⟩:=g.Bj.kg;rw [g.iL]at cD;obtain⟨e,F,ad,n,rfl,rfl,rfl⟩:=H8 H B p bp.length bp.length 0 q none none none ⟨0,0,0,0,0⟩ ⟨0,0,0,0,0⟩ (λe F h=>e=.exit 0/\F=[(0,.ptr (some ⟨p,0,0,0,4⟩)),(3,.int .i64 (bp.length:Nat))]/\h=⟨H.Y+7,H.ay⟩) (aR c ⟨cD 7,λh=>absurd h V,λ_=>⟨rfl,rfl,rfl⟩⟩);exact⟨_,_,bX.last an n,bs.fresh H col 7,by show B<=H.Y+7;omega⟩
 |succ k ih =>
  intro i H col C ah c g;by_cases al:i<bp.length
  .obtain⟨q,rfl,cD⟩:=g.Bj.kg;obtain⟨w,rfl⟩:=g.n3.ez;have v:∀k,a1 (a'.D env) 30 ⟨p,0,0,3,4⟩ ⟨H.Y+k,H.ay⟩=some (.slice w wl.length wl.length):=λk=>eL (H:=⟨H.Y+k,H.ay⟩) n5 g.get rfl
   rw [g.iL]at cD;rw [g.wn]at v;have o:tl[i]? =some (tl[i]'(by rw [g.iL];exact al)):=c7 _;have hw:wl[i]? =some (wl[i]'(by rw [g.wn];exact al)):=c7 _;have gt:=g.jg i al _ o;have f:=g.w2 i al _ hw;obtain⟨cy,r⟩:=gt.ez;obtain⟨L,x⟩:=f.ez;rw [gy]at r;rw [r]at o gt;rw [x]at hw f;obtain⟨a,s,G,O⟩:=g.iK.at' o;obtain⟨b,u,K,P⟩:=g.n3.at' hw;rw [g.iL]at s;rw [g.wn]at u;have m23:=bs.fresh H col 23;have A:=Bf (gt.kw.aJ m23 an) (f.aJ m23 an) (eX V) (by have:=z _ (gw al);omega);have N:=g.lt
   obtain⟨e,F,ad,n,rfl,rfl,rfl⟩:=H8 H B p bp.length i bp[i].length q w cy L a b (λe F h=>e=.normal/\F=[(0,.ptr (some ⟨p,0,0,0,4⟩)),(3,.int .i64 ((i+1:Nat):Int))]/\h=⟨H.Y+26,H.ay⟩)
    (aR c ⟨cD 7,λ_=>aR V ⟨cD 23,V,s,G 23,V,v 23,V,u,K 23,V,⟨A⟩,aR V ⟨⟨V,V⟩,rfl,by rw [show(i:Int)+1=((i+1:Nat):Int)by omega],rfl⟩⟩,λh=>absurd h V⟩)
   have m:=bs.fresh H col 26;obtain⟨H',bg,E,aJ,y⟩:=ih (i+1) ⟨H.Y+26,H.ay⟩ _ V V (by show B<=H.Y+26;omega) (g.aJ m λj=> an);exact⟨H',bg,bX.step n E,m.trans aJ,y⟩
  .exact ih i H col V ah c g
def gU(i:Nat):aP:=⟨0,0,0, -10- (i:Int),0,[]⟩
def gV(i:Nat):aP:=⟨0,0,0,10+(i:Int),0,[]⟩
structure iM(H:T)(col:Nat->Nat)(c:Nat)(v:J)(es:List aP)(k i:Nat):Prop where
 ex:(v=.slice none 0 0/\es=[])\/(es≠[]/\∃o,o<H.Y/\col o=c/\∃ab m f,v=.slice (some ⟨o,ab,0,0,6⟩) es.length es.length/\H.get o=some (bL ((List.replicate k (gU i)++es.drop k).map bi) 6 ab m f ek)/\(0<k->m=ab))
theorem iM.aJ{H H':T}{col bg:Nat->Nat}{c:Nat}{v:J}{es:List aP}{k i:Nat}{L:List Nat}(h:iM H col c v es k i)(m:bs H H' col bg L)(al:c ∉ L):iM H' bg c v es k i:=by
 rcases h.ex with h|⟨aa,o,h2,a,ab,g,f,b,d,e⟩
 .exact⟨.inl h⟩
 .have az:=m.Y;exact⟨.inr ⟨aa,o,V,by rw [m.col o h2 (by rw [a];exact al)];exact a,ab,g,f,b,by rw [m.get o h2 (by rw [a];exact al)];exact d,e⟩⟩
theorem c1.Tn{H:T}{col:Nat->Nat}{c i:Nat}{v:J}{es:List aP}(h:c1 H col c 6 ek v (es.map bi)):iM H col c v es 0 i:=by
 rcases h.ex with ⟨aa,h2⟩|⟨aa,o,h2,b,ab,m,f,a,d⟩
 .exact⟨.inl ⟨aa,by simpa using h2⟩⟩
 .exact⟨.inr ⟨by simpa using aa,o,h2,b,ab,m,f,by rw [gy]at a;exact a,by simpa using d,λh=>absurd h aA⟩⟩
theorem iM.ez{H:T}{col:Nat->Nat}{c:Nat}{v:J}{es:List aP}{k i:Nat}(h:iM H col c v es k i):∃o,v=.slice o es.length es.length:=by
 rcases h.ex with ⟨rfl,rfl⟩|⟨_,o,_,_,ab,_,_,rfl,_⟩
 .exact⟨none,rfl⟩
 .exact⟨_,rfl⟩
theorem To{H:T}{o ab m f k:Nat}{l:List aP}{x:aP}(ag:H.get o=some (bL (l.map bi) 6 ab m f ek))(b:k<l.length):eA (a'.D env) 42 ⟨o,ab,0+k,0,6⟩ (bi x) H=some (H.set o (bL ((l.set k x).map bi) 6 ab ab f ek)):=by have a:(a'.D env 42).map (λd=>(d.kind.isAgg,d.size))=some (true,6):= ar;obtain⟨d,aa,h2⟩:=b4.1 a;simp only [bo]at h2;unfold eA;rw [aa,ag,eM];simp [J.fits,h2.1,h2.2,kn,bi,J.cells,gk,J.hD,b,List.map_set]
theorem Tp{es:List aP}{k i:Nat}(a:k<es.length):(List.replicate k (gU i)++es.drop k).set k (gU i)=List.replicate (k+1) (gU i)++es.drop (k+1):=by rw [iS a,List.set_append_right _ _ an,q3,oc,List.set_cons_zero,List.replicate_succ',ik];rfl
theorem Tq{B t p dp rp i:Nat}{tv wv:J}{tl wl:List J}{es:List aP}{x:J}(ah:tl[i]? =some x)(hit:i<2^40)(az:es.length<2^40):∀(q k:Nat)(H:T)(col:Nat->Nat),es.length-k<=q->k<=es.length->B<=H.Y->jC H col t p dp rp tv wv tl wl->iM H col (bN t (5+2*i)) x es k i ->
 ∃H' bg,dl B 169 (br 18 2) [(0,.ptr (some ⟨p,0,0,0,4⟩)),(4,.int .i64 (i:Nat)),(5,.int .i64 (k:Nat))] H (.exit 4) [(0,.ptr (some ⟨p,0,0,0,4⟩)),(4,.int .i64 (i:Nat)),(5,.int .i64 (es.length:Nat))] H'/\iM H' bg (bN t (5+2*i)) x es es.length i/\bs H H' col bg [bN t (5+2*i)]/\B<=H'.Y:=by
 intro q;induction q with
 |zero =>
  intro k H col v n b g mk;obtain rfl:k=es.length:= V;obtain⟨l,rfl,cD⟩:=g.kg;obtain⟨cy,rfl⟩:=mk.ez;obtain⟨a,c,d,w⟩:=g.iK.at' ah;obtain⟨e,F,ad,j,rfl,rfl,rfl⟩:=H9 H H B p tl.length i es.length es.length l cy a a (λe F h=>e=.exit 4/\F=[(0,.ptr (some ⟨p,0,0,0,4⟩)),(4,.int .i64 (i:Nat)),(5,.int .i64 (es.length:Nat))]/\h=⟨H.Y+10,H.ay⟩) (aR b ⟨cD 10,c,d 10,λh=>absurd h V,λ_=>⟨rfl,rfl,rfl⟩⟩);have m:=bs.fresh H col 10;exact⟨_,_,bX.last an j,mk.aJ m an,m.sub an,by show B<=H.Y+10;omega⟩
 |succ q ih =>
  intro k H col v n b g mk;by_cases al:k<es.length
  .obtain⟨l,rfl,cD⟩:=g.kg;have A:=mk;rcases A.ex with ⟨_,he⟩|⟨u,o,lt,y,ab,E,f,rfl,ag,hm⟩
   .rw [he]at al;simp at al
   obtain⟨a,c,d,w⟩:=g.iK.at' ah;have m0:=bs.fresh H col 23;have hs:=To (H:=⟨H.Y+23,H.ay⟩) (x:=gU i) (k:=k) ag (by simp;omega);rw [Tp al]at hs;have b8:fresh H col o=bN t (5+2*i):=by rw [m0.col o lt an];exact y
   have m1:=bs.tf (H:=⟨H.Y+23,H.ay⟩) (bL ((List.replicate (k+1) (gU i)++es.drop (k+1)).map bi) 6 ab ab f ek) b8;have D:((⟨H.Y+23,H.ay⟩:T).set o (bL ((List.replicate (k+1) (gU i)++es.drop (k+1)).map bi) 6 ab ab f ek)).Y=H.Y+23:=rfl
   have z:iM ((⟨H.Y+23,H.ay⟩:T).set o (bL ((List.replicate (k+1) (gU i)++es.drop (k+1)).map bi) 6 ab ab f ek)) (fresh H col) (bN t (5+2*i)) (.slice (some ⟨o,ab,0,0,6⟩) es.length es.length) es (k+1) i :=
    ⟨.inr ⟨u,o,by show o<H.Y+23;omega,b8,ab,ab,f,rfl,T.eT _ _ _,λ_=>rfl⟩⟩
   have g1:=(g.aJ m0 an an an).aJ m1 (by simpa using eX V) (by simpa using eX V) (by simpa using eX V);generalize C:(⟨H.Y+23,H.ay⟩:T).set o (bL ((List.replicate (k+1) (gU i)++es.drop (k+1)).map bi) 6 ab ab f ek)=H1 at *
   obtain⟨e,F,ad,j,rfl,rfl,rfl⟩:=H9 H H1 B p tl.length i k es.length l (some ⟨o,ab,0,0,6⟩) a ⟨o,ab,0+k,0,6⟩ (λe F h=>e=.normal/\F=[(0,.ptr (some ⟨p,0,0,0,4⟩)),(4,.int .i64 (i:Nat)),(5,.int .i64 ((k+1:Nat):Int))]/\h=⟨H1.Y+3,H1.ay⟩)
    (aR b ⟨cD 10,c,d 10,λ_=>aR V ⟨cD 23,c,d 23,⟨V,V⟩,Bi al,iJ rfl rfl hs,aR V ⟨⟨V,V⟩,rfl,by rw [show(k:Int)+1=((k+1:Nat):Int)by omega],rfl⟩⟩,λh=>absurd h V⟩)
   have m2:=bs.fresh H1 (fresh H col) 3;obtain⟨H',bg,s,mk',aJ,r⟩:=ih (k+1) ⟨H1.Y+3,H1.ay⟩ _ V V (by show B<=H1.Y+3;omega) (g1.aJ m2 an an an) (z.aJ m2 an);exact⟨H',bg,bX.step j s,mk',(m0.trans (m1.trans (m2.trans aJ))).sub an,r⟩
  .exact ih k H col V n b g mk
def LT(t N:Nat):List Nat:=(List.range N).map λi=>bN t (5+2*i)
theorem Is{t N i:Nat}(h:i<N):bN t (5+2*i)∈LT t N:=dz.2 ⟨i,dX.2 h,rfl⟩
theorem Tr{B t p dp rp:Nat}{tv wv:J}{tl wl:List J}{bp:List (List aP)}(G:bp.length<2^40)(w:∀l∈bp,l.length<2^40)(d:tl.length=bp.length):∀(q i:Nat)(H:T)(col:Nat->Nat),bp.length-i<=q->i<=bp.length->B<=H.Y->jC H col t p dp rp tv wv tl wl ->
 (∀(j:Nat)(h:j<bp.length)(x:J),tl[j]? =some x->iM H col (bN t (5+2*j)) x bp[j] (if j<i then bp[j].length else 0) j) ->
 ∃H' bg,dl B 169 (br 18 1) [(0,.ptr (some ⟨p,0,0,0,4⟩)),(4,.int .i64 (i:Nat))] H (.exit 2) [(0,.ptr (some ⟨p,0,0,0,4⟩)),(4,.int .i64 (bp.length:Nat))] H'/\jC H' bg t p dp rp tv wv tl wl /\
  (∀(j:Nat)(h:j<bp.length)(x:J),tl[j]? =some x->iM H' bg (bN t (5+2*j)) x bp[j] bp[j].length j)/\bs H H' col bg (LT t bp.length)/\B<=H'.Y:=by
 intro q;induction q with
 |zero =>
  intro i H col C ah a g mk;obtain rfl:i=bp.length:= V;obtain⟨f,rfl,cD⟩:=g.kg;rw [d]at cD;obtain⟨e,F,ad,b,rfl,rfl,rfl⟩:=Ia H H B p bp.length bp.length f .undef (λe F h=>e=.exit 2/\F=[(0,.ptr (some ⟨p,0,0,0,4⟩)),(4,.int .i64 (bp.length:Nat))]/\h=⟨H.Y+7,H.ay⟩) (aR a ⟨cD 7,λh=>absurd h V,λ_=>⟨rfl,rfl,rfl⟩⟩);have m:=bs.fresh H col 7
  exact⟨_,_,bX.last an b,g.aJ m an an an,λj h x e=>by
   have:=mk j h x e;rw [aE h]at this
   exact this.aJ m an,m.sub an,by show B<=H.Y+7;omega⟩
 |succ q ih =>
  intro i H col C ah a g mk;by_cases al:i<bp.length
  .obtain⟨f,rfl,cD⟩:=g.kg;rw [d]at cD;have c:tl[i]? =some (tl[i]'(by rw [d];exact al)):=c7 _;have m0:=bs.fresh H col 8;have o:=mk i al _ c;rw [ap V]at o;obtain⟨H1,r,z,E,m1,v⟩:=Tq (B:=B) c V (w _ (gw al)) bp[i].length 0 ⟨H.Y+8,H.ay⟩ (fresh H col) V V (by show B<=H.Y+8;omega) (g.aJ m0 an an an) (o.aJ m0 an);have g1:=(g.aJ m0 an an an).aJ m1 (by simpa using eX V) (by simpa using eX V) (by simpa using eX V)
   obtain⟨e,F,ad,b,rfl,rfl,rfl⟩:=Ia H H1 B p bp.length i f (.int .i64 (bp[i].length:Nat)) (λe F h=>e=.normal/\F=[(0,.ptr (some ⟨p,0,0,0,4⟩)),(4,.int .i64 ((i+1:Nat):Int))]/\h=⟨H1.Y+3,H1.ay⟩)
    (aR a ⟨cD 7,λ_=>aR V ⟨cZ.dJ z,aR v ⟨⟨V,V⟩,rfl,by rw [show(i:Int)+1=((i+1:Nat):Int)by omega],rfl⟩⟩,λh=>absurd h V⟩)
   have m2:=bs.fresh H1 r 3
   obtain⟨H',bg,A,s,mk',aJ,u⟩:=ih (i+1) ⟨H1.Y+3,H1.ay⟩ _ V V (by show B<=H1.Y+3;omega) (g1.aJ m2 an an an) (λj h x e=>by
    by_cases y:j=i
    .subst y;rw [c]at e;simp only [a6]at e;subst e;rw [aE V];exact E.aJ m2 an
    .have D:=((mk j h x e).aJ m0 an).aJ m1 (by simpa using eX V);have n:=D.aJ m2 an
     have aI:(if j<i then bp[j].length else 0)=if j<i+1 then bp[j].length else 0:=by
      by_cases q:j<i
      .rw [aE q,aE V]
      .rw [ap q,ap V]
     rw [aI]at n
     exact n)
   exact⟨H',bg,bX.step b A,s,mk',(m0.trans (m1.trans (m2.trans aJ))).sub (by
    intro x k;simp only [eg,eG,cC]at k;rcases k with h|h
    .rw [h];exact Is al
    .exact h),u⟩
  .exact ih i H col V ah a g mk
structure ii(H:T)(col:Nat->Nat)(c:Nat)(v kR:J)(n j i:Nat):Prop where
 ex:(n=0/\v=.slice none 0 0/\c1 H col c 6 ek kR ((List.replicate j (gV i)).map bi))\/(n≠0/\∃o,o<H.Y/\col o=c/\∃ab f,v=.slice (some ⟨o,ab,0,0,6⟩) n n/\kR=.slice (some ⟨o,ab+j,0,0,6⟩) (n+j) (n+j)/\H.get o=some (bL ((List.replicate n (gU i)++List.replicate j (gV i)).map bi) 6 (ab+j) ab f ek)/\(0<j->f=n))
theorem ii.aJ{H H':T}{col bg:Nat->Nat}{c:Nat}{v kR:J}{n j i:Nat}{L:List Nat}(h:ii H col c v kR n j i)(m:bs H H' col bg L)(al:c ∉ L):ii H' bg c v kR n j i:=by
 rcases h.ex with ⟨aa,h2,a⟩|⟨aa,o,h2,a,ab,f,b,d,e,g⟩
 .exact⟨.inl ⟨aa,h2,a.aJ m al⟩⟩
 .have az:=m.Y;exact⟨.inr ⟨aa,o,V,by rw [m.col o h2 (by rw [a];exact al)];exact a,ab,f,b,d,by rw [m.get o h2 (by rw [a];exact al)];exact e,g⟩⟩
theorem iM.fr{H:T}{col:Nat->Nat}{c:Nat}{v:J}{es:List aP}{i:Nat}(h:iM H col c v es es.length i):ii H col c v v es.length 0 i:=by
 rcases h.ex with ⟨rfl,rfl⟩|⟨aa,o,h2,d,ab,m,f,a,b,e⟩
 .exact⟨.inl ⟨rfl,rfl,c1.nil _ _ _ _ _⟩⟩
 .have ae:=fS.2 aa;obtain rfl:=e ae;rw [lO]at b;exact⟨.inr ⟨V,o,h2,d,m,f,a,by rw [lI,lI];exact a,by simpa using b,λh=>absurd h aA⟩⟩
theorem ii.ez{H:T}{col:Nat->Nat}{c:Nat}{v kR:J}{n j i:Nat}(h:ii H col c v kR n j i):(∃o,v=.slice o n n)/\∃o,kR=.slice o (n+j) (n+j):=by
 rcases h.ex with ⟨rfl,rfl,a⟩|⟨_,o,_,_,ab,_,rfl,rfl,_⟩
 .obtain⟨o,e⟩:=a.ez;rw [gy,q3]at e;exact⟨⟨none,rfl⟩,o,by rw [eM];exact e⟩
 .exact⟨⟨_,rfl⟩,_,rfl⟩
theorem ii.fu{H:T}{col:Nat->Nat}{c n j i a b P:Nat}{v kR:J}(h:ii H col c v kR n j i)(al:c≠8)(x:b<P)(w:a<P)(y:n+j<2^31) :
 ∃H1 g2 d bg,k1 (a'.D env) 56 1 [(0,bi (gV i))] (H.Y+b) ⟨H.Y+P,H.ay⟩=some (.slice (some ⟨H.Y+b,0,0,0,6⟩) 1 1,H1)/\eB env .append #[56,56] [kR,.slice (some ⟨H.Y+b,0,0,0,6⟩) 1 1] (H.Y+a) H1=some (g2,d) /\
  ii d bg c v g2 n (j+1) i/\bs H d col bg [c,8]/\H.Y+P<=d.Y:=by
 have m0:=bs.fresh H col P;have t:fresh H col (H.Y+b)=8:=gP V;have m1:=bs.kd (H:=⟨H.Y+P,H.ay⟩) (ac.aj [bi (gV i)] 6 true) t;have aa:=(h.aJ m0 an).aJ m1 (by simpa using al);have g:dF 6 (.slice (some ⟨H.Y+b,0,0,0,6⟩) 1 1) ((⟨H.Y+P,H.ay⟩:T).set (H.Y+b) (ac.aj [bi (gV i)] 6 true))=some [bi (gV i)]:=w1 rfl aA;have r:((⟨H.Y+P,H.ay⟩:T).set (H.Y+b) (ac.aj [bi (gV i)] 6 true)).Y=H.Y+P:=rfl;rcases aa.ex with ⟨e0,b3,eY⟩|⟨u,o,lt,k,ab,f,aI,rfl,ag,p⟩
 .obtain⟨g2,d,l,e,m,m2,n2⟩:=eY.fu (nid:=H.Y+a) AJ (by show H.Y+a<H.Y+P;omega) (gP V) g (by simp only [gy,q3,hk];omega) (by simp only [gy,q3,hk];omega);refine⟨_,g2,d,l,Bd _ _ _,e,⟨.inl ⟨e0,b3,?_⟩⟩,(m0.trans (m1.trans m2)).sub an,by rw [n2,r];exact Nat.le_refl _⟩;rw [List.replicate_succ',kj];exact m
 .have hlen:((List.replicate n (gU i)++List.replicate j (gV i)).map bi).length=n+j:= an;have e:=CM (nid:=H.Y+a) AJ g an (a:=⟨o,ab+j,0,0,6⟩) (len:=n+j) (cap:=n+j) (b:=bL ((List.replicate n (gU i)++List.replicate j (gV i)).map bi) 6 (ab+j) ab f ek) (by simp only [hk];omega) (by simp only [hk];omega) ag ⟨rfl,rfl⟩ an rfl rfl rfl (by rw [hlen];exact eM _) (.inr rfl);have m2:=bs.tf (H:=(⟨H.Y+P,H.ay⟩:T).set (H.Y+b) (ac.aj [bi (gV i)] 6 true)) ((bL ((List.replicate n (gU i)++List.replicate j (gV i)).map bi) 6 (ab+j) ab f ek).grow [bi (gV i)]) k;refine⟨_,_,_,fresh H col,Bd _ _ _,e,⟨.inr ⟨u,o,lt,k,ab,if ab=ab+j then n+j else min f (n+j),aI,rfl,?_,λ_=> ?_⟩⟩,(m0.trans (m1.trans m2)).sub an,Nat.le_refl _⟩
  .rw [T.eT]
   have s:(List.replicate n (gU i)++List.replicate j (gV i)).map bi++[bi (gV i)]=(List.replicate n (gU i)++List.replicate (j+1) (gV i)).map bi:=by rw [List.replicate_succ'];simp
   simp only [ac.grow,s,hlen];rfl
  .by_cases q:j=0
   .subst q;simp
   .rw [ap V,p V];omega
theorem Ts{B t p dp rp i n:Nat}{tv wv:J}{tl wl:List J}{x mvv:J}{c:Nat}(w:c≠8)(ah:i<2^40)(az:n<2^30):∀(q j:Nat)(H:T)(col:Nat->Nat)(g:J),70-j<=q->j<=70->B<=H.Y->ii H col c x g n j i ->
 ∃H' bg f,dl B 169 (br 18 4) [(0,.ptr (some ⟨p,0,0,0,4⟩)),(6,mvv),(7,.int .i64 (i:Nat)),(8,g),(9,.int .i64 (j:Nat))] H (.exit 8) [(0,.ptr (some ⟨p,0,0,0,4⟩)),(6,mvv),(7,.int .i64 (i:Nat)),(8,f),(9,.int .i64 (70:Nat))] H'/\ii H' bg c x f n 70 i/\bs H H' col bg [c,8]/\B<=H'.Y:=by
 intro q;induction q with
 |zero =>
  intro j H col g z o k fr;obtain rfl:j=70:= V;obtain⟨e,F,ad,l,rfl,rfl,rfl⟩:=Ib H H H B p i 70 mvv g g g (λe F h=>e=.exit 8/\F=[(0,.ptr (some ⟨p,0,0,0,4⟩)),(6,mvv),(7,.int .i64 (i:Nat)),(8,g),(9,.int .i64 (70:Nat))]/\h=⟨H.Y+2,H.ay⟩) (aR k ⟨λh=>absurd h V,λ_=>⟨rfl,rfl,rfl⟩⟩);have m:=bs.fresh H col 2;exact⟨_,_,g,bX.last an l,fr.aJ m an,m.sub an,by show B<=H.Y+2;omega⟩
 |succ q ih =>
  intro j H col g z o k fr;by_cases al:j<70
  .obtain⟨H1,g2,d,r,aI,aO,u,m,A⟩:=fr.fu (b:=6) (a:=7) (P:=9) w aA aA V
   obtain⟨e,F,ad,l,rfl,rfl,rfl⟩:=Ib H H1 d B p i j mvv g g2 (.slice (some ⟨H.Y+6,0,0,0,6⟩) 1 1) (λe F h=>e=.normal/\F=[(0,.ptr (some ⟨p,0,0,0,4⟩)),(6,mvv),(7,.int .i64 (i:Nat)),(8,g2),(9,.int .i64 ((j+1:Nat):Int))]/\h=⟨d.Y+3,d.ay⟩)
    (aR k ⟨λ_=>aR V ⟨⟨V,V⟩,(Be rfl).trans aI,aO,aR V ⟨⟨V,V⟩,rfl,by rw [show(j:Int)+1=((j+1:Nat):Int)by omega],rfl⟩⟩,λh=>absurd h V⟩)
   have m2:=bs.fresh d r 3;obtain⟨H',bg,f,y,s,aJ,v⟩:=ih (j+1) ⟨d.Y+3,d.ay⟩ _ g2 V V (by show B<=d.Y+3;omega) (u.aJ m2 an);exact⟨H',bg,f,bX.step l y,s,(m.trans (m2.trans aJ)).sub an,v⟩
  .exact ih j H col g V o k fr
theorem c1.Tt{H:T}{col:Nat->Nat}{c P b a n m:Nat}{o:Option aT}{v:J}{l:List J}(h:c1 H col c 1 ig v l)(al:c≠8)(p:b<P)(j:a<P)(q:l.length<2^30) :
 ∃H1 v2 d bg,(∀(F:a8)(k:Nat),bf F (.tmp k)=.slice o n m->bd env cr (H.Y+b) (bf F) ⟨H.Y+P,H.ay⟩ (Op.buildSlice 30 1 {toList:=[(0,Operand.tmp k)]})=some (.slice (some ⟨H.Y+b,0,0,0,1⟩) 1 1,H1)) /\
  eB env .append #[30,30] [v,.slice (some ⟨H.Y+b,0,0,0,1⟩) 1 1] (H.Y+a) H1=some (v2,d)/\c1 d bg c 1 ig v2 (l++[.slice o n m])/\bs H d col bg [c,8]/\H.Y+P<=d.Y:=by
 have m0:=bs.fresh H col P;have i:fresh H col (H.Y+b)=8:=gP V;have m1:=bs.kd (H:=⟨H.Y+P,H.ay⟩) (ac.aj [.slice o n m] 1 true) i;have eY:=(h.aJ m0 an).aJ m1 (by simpa using al);have g:dF 1 (.slice (some ⟨H.Y+b,0,0,0,1⟩) 1 1) ((⟨H.Y+P,H.ay⟩:T).set (H.Y+b) (ac.aj [.slice o n m] 1 true))=some [.slice o n m]:=w1 rfl aA;obtain⟨v2,d,e,aI,g2,m2,n2⟩:=eY.fu (nid:=H.Y+a) Ig (by show H.Y+a<H.Y+P;omega) (gP V) g (by simp only [hk];omega) (by simp only [hk];omega);have n2:d.Y=H.Y+P:=n2;exact⟨_,v2,d,e,λF k f=>Ih f,aI,g2,(m0.trans (m1.trans m2)).sub an,V⟩
theorem It(t j:Nat):bN t j≠12:=by have:=jB t j;omega
theorem Tu{B t p dp rp:Nat}{tv wv:J}{tl wl:List J}{bp:List (List aP)}(co:bp.length<2^30)(a0:∀l∈bp,l.length<2^30)(w:tl.length=bp.length):∀(q i:Nat)(H:T)(col:Nat->Nat)(mvv:J)(f:List J),bp.length-i<=q->i<=bp.length->B<=H.Y->jC H col t p dp rp tv wv tl wl->c1 H col 12 1 ig mvv f->f.length=i ->
 (∀(j:Nat)(h:j<bp.length)(x:J),tl[j]? =some x->i<=j->iM H col (bN t (5+2*j)) x bp[j] bp[j].length j)->(∀(j:Nat)(h:j<bp.length)(x y:J),tl[j]? =some x->f[j]? =some y->ii H col (bN t (5+2*j)) x y bp[j].length 70 j) ->
 ∃H' bg M r,dl B 169 (br 18 3) [(0,.ptr (some ⟨p,0,0,0,4⟩)),(6,mvv),(7,.int .i64 (i:Nat))] H (.exit 6) [(0,.ptr (some ⟨p,0,0,0,4⟩)),(6,M),(7,.int .i64 (bp.length:Nat))] H'/\jC H' bg t p dp rp tv wv tl wl/\c1 H' bg 12 1 ig M r/\r.length=bp.length /\
  (∀(j:Nat)(h:j<bp.length)(x y:J),tl[j]? =some x->r[j]? =some y->ii H' bg (bN t (5+2*j)) x y bp[j].length 70 j)/\bs H H' col bg (LT t bp.length++[12,8])/\B<=H'.Y:=by
 intro q;induction q with
 |zero =>
  intro i H col mvv f a5 ah u g s k mk fr;obtain rfl:i=bp.length:= V;obtain⟨z,rfl,cD⟩:=g.kg;rw [w]at cD;obtain⟨e,F,ad,C,rfl,rfl,rfl⟩:=Ic H H H H B p bp.length bp.length z ⟨0,0,0,0,0⟩ mvv .undef .undef .undef .undef .undef (λe F h=>e=.exit 6/\F=[(0,.ptr (some ⟨p,0,0,0,4⟩)),(6,mvv),(7,.int .i64 (bp.length:Nat))]/\h=⟨H.Y+7,H.ay⟩) (aR u ⟨cD 7,λh=>absurd h V,λ_=>⟨rfl,rfl,rfl⟩⟩);have m:=bs.fresh H col 7;exact⟨_,_,mvv,f,bX.last an C,g.aJ m an an an,s.aJ m an,k,λj h x y aI aO=>(fr j h x y aI aO).aJ m an,m.sub an,by show B<=H.Y+7;omega⟩
 |succ q ih =>
  intro i H col mvv f a5 ah u g s k mk fr;by_cases al:i<bp.length
  .obtain ⟨z,rfl,cD⟩:=g.kg;rw [w]at cD;have v:tl[i]? =some (tl[i]'(by rw [w];exact al)):=c7 _;have D:=mk i al _ v (Nat.le_refl _);obtain⟨cy,Q⟩:=D.ez;rw [Q]at v D;obtain⟨a,L,a9,c0⟩:=g.iK.at' v;rw [w]at L;have hle:=a0 _ (gw al);have m0:=bs.fresh H col 16;obtain⟨H1,ce,g2,a3,I,m1,av⟩:=Ts (B:=B) (t:=t) (p:=p) (dp:=dp) (rp:=rp) (tv:= .slice z bp.length bp.length) (wv:=wv) (tl:=tl) (wl:=wl) (mvv:=mvv) (kf t (5+2*i)) V hle 70 0 ⟨H.Y+16,H.ay⟩ (fresh H col) (.slice cy bp[i].length bp[i].length) V V (by show B<=H.Y+16;omega) ((D.aJ m0 an).fr);have f0:∀j,j≠5+2*i->bN t j ∉ [bN t (5+2*i),8]:=λj A=>by simp only [cM,ff,ea,eR];exact⟨eX A,kf _ _⟩
   have g1:=(g.aJ m0 an an an).aJ m1 (f0 0 V) (f0 3 V) (f0 4 V);have U:=(s.aJ m0 an).aJ m1 (by simp only [cM,ff,ea,eR];exact⟨λe=>It t _ e.symm,aA⟩);obtain⟨_,b2,G⟩:=I.ez;obtain⟨N,E,c,O,aI,aO,W,m2,ct⟩:=U.Tt (o:=b2) (n:=bp[i].length+70) (m:=bp[i].length+70) (b:=2) (a:=3) (P:=5) aA aA aA V;have f2:∀j,bN t j ∉ [12,8]:=λj=>by simp only [cM,ff,ea,eR];exact⟨It _ _,kf _ _⟩
   have g3:=g1.aJ m2 (f2 0) (f2 3) (f2 4);have Z:=I.aJ m2 (f2 _)
   obtain⟨e,F,ad,C,rfl,rfl,rfl⟩:=Ic H H1 N c B p bp.length i z a mvv (.slice cy bp[i].length bp[i].length) g2 (.slice (some ⟨H1.Y+2,0,0,0,1⟩) 1 1) E (.int .i64 (70:Nat)) (λe F h=>e=.normal/\F=[(0,.ptr (some ⟨p,0,0,0,4⟩)),(6,E),(7,.int .i64 ((i+1:Nat):Int))]/\h=⟨c.Y+3,c.ay⟩)
    (aR u ⟨cD 7,λ_=>aR V ⟨cD 15,L,a9 15,aR V ⟨cZ.dJ a3,aR av ⟨aI _ _ G,aO,aR V ⟨⟨V,V⟩,rfl,by rw [show(i:Int)+1=((i+1:Nat):Int)by omega],rfl⟩⟩⟩⟩,λh=>absurd h V⟩)
   have m3:=bs.fresh c O 3
   obtain ⟨H',bg,bn,r,a4,R,S,bv,X,aJ,am⟩:=ih (i+1) ⟨c.Y+3,c.ay⟩ _ E _ V V (by show B<=c.Y+3;omega) (g3.aJ m3 an an an) (W.aJ m3 an) (by simp [k]) (λj h x e A =>
    ((((mk j h x e V).aJ m0 an).aJ m1 (f0 _ V)).aJ m2 (f2 _)).aJ m3 an)
    (λj h x y ex d=>by
     by_cases A:j<i
     .rw [hW V]at d;exact((((fr j h x y ex d).aJ m0 an).aJ m1 (f0 _ V)).aJ m2 (f2 _)).aJ m3 an
     .by_cases a2:j=i
      .subst a2;rw [hX V,k,oc,fe]at d;simp only [a6]at d;rw [v]at ex;simp only [a6]at ex;subst d ex;rw [<-G];exact Z.aJ m3 an
      .rw [hX V,hV (by simp;omega)]at d
       cases d)
   refine⟨H',bg,bn,r,bX.step C a4,R,S,bv,X,(m0.trans (m1.trans (m2.trans (m3.trans aJ)))).sub ?_,am⟩;intro x K;simp only [eg,eG,cM,ff,ea]at K⊢;rcases K with (h|h)|(h|h)|h|h|h
   .rw [h];exact .inl (Is al)
   .exact .inr (.inr h)
   .exact .inr (.inl h)
   .exact .inr (.inr h)
   .exact .inl h
   .exact .inr (.inl h)
   .exact .inr (.inr h)
  .exact ih i H col mvv f V ah u g s k mk fr
theorem Iu{H:T}{o v k:Nat}{B:ac}{e:aP}(ag:H.get o=some B)(he:B.elem? v k=some (bi e)):a1 (a'.D env) 3 ⟨o,v,k,0+3,6⟩ H=some (.int .i64 e.x):=by obtain⟨d,aa,h2⟩:=b4.1 n4;unfold a1;rw [aa,ag];simp only [he];simp [ft,h2,bi]
theorem Tv{B t p dp rp i:Nat}{tv wv mvv x y:J}{tl wl G:List J}{n:Nat}(D:G.length=tl.length)(U:tl[i]? =some x)(hm:G[i]? =some y)(ah:i<2^30)(az:n<2^30):∀(q k:Nat)(H:T)(col:Nat->Nat),n+70-k<=q->k<=n+70->B<=H.Y->jC H col t p dp rp tv wv tl wl->c1 H col 12 1 ig mvv G->ii H col (bN t (5+2*i)) x y n 70 i ->
 ∃H' bg,dl B 169 (br 18 6) [(0,.ptr (some ⟨p,0,0,0,4⟩)),(6,mvv),(10,.int .i64 (i:Nat)),(11,.int .i64 (k:Nat))] H (.exit 12) [(0,.ptr (some ⟨p,0,0,0,4⟩)),(6,mvv),(10,.int .i64 (i:Nat)),(11,.int .i64 (n+70:Nat))] H'/\bs H H' col bg []/\B<=H'.Y:=by
 intro q;induction q with
 |zero =>
  intro k H col S K l g d fr;obtain rfl:k=n+70:= V;obtain⟨z,rfl,cD⟩:=g.kg;obtain⟨c,rfl⟩:=d.ez;obtain⟨⟨cy,rfl⟩,go,rfl⟩:=fr.ez;obtain⟨b,j,w,W⟩:=d.at' hm;rw [D]at j⊢;obtain⟨e,F,ad,r,rfl,rfl,rfl⟩:=Ie H B p tl.length i (n+70) n (n+70) z c cy go b b b b 0 (λe F h=>e=.exit 12/\F=[(0,.ptr (some ⟨p,0,0,0,4⟩)),(6,.slice c tl.length tl.length),(10,.int .i64 (i:Nat)),(11,.int .i64 (n+70:Nat))]/\h=⟨H.Y+7,H.ay⟩) (aR l ⟨j,w 7,λh=>absurd h V,λ_=>⟨rfl,rfl,rfl⟩⟩);exact⟨_,_,bX.last an r,bs.fresh H col 7,by show B<=H.Y+7;omega⟩
 |succ q ih =>
  intro k H col S K l g d fr;by_cases al:k<n+70
  .have L :=g;have M:=d;have N:=fr;obtain⟨z,rfl,cD⟩:=g.kg;obtain⟨c,rfl⟩:=d.ez;obtain⟨⟨cy,rfl⟩,go,rfl⟩:=fr.ez;obtain⟨a,s,u,am⟩:=g.iK.at' U;obtain⟨b,j,w,W⟩:=d.at' hm;rw [D]at j;have m:=bs.fresh H col 61;have nx:=ih (k+1) ⟨H.Y+61,H.ay⟩ _ V V (by show B<=H.Y+61;omega) (L.aJ m an an an) (M.aJ m an) (N.aJ m an);rw [D]at nx⊢;obtain⟨H',bg,Q,aJ,O⟩:=nx
   have step :bR B 169 (br 18 6) [(0,.ptr (some ⟨p,0,0,0,4⟩)),(6,.slice c tl.length tl.length),(10,.int .i64 (i:Nat)),(11,.int .i64 (k:Nat))] H .normal [(0,.ptr (some ⟨p,0,0,0,4⟩)),(6,.slice c tl.length tl.length),(10,.int .i64 (i:Nat)),(11,.int .i64 ((k+1:Nat):Int))] ⟨H.Y+61,H.ay⟩:=by
    by_cases C:k<n
    .rcases fr.ex with ⟨aN,_⟩|⟨_,o,lt,X,ab,f,aI,aO,ag,I⟩
     .omega
     have Z:=I aA
     have E:(bL ((List.replicate n (gU i)++List.replicate 70 (gV i)).map bi) 6 (ab+70) ab f ek).elem? ab (0+k)=some (bi (gU i)):=by
      have R:(bL ((List.replicate n (gU i)++List.replicate 70 (gV i)).map bi) 6 (ab+70) ab f ek).b0 ab=f:=by unfold ac.b0;rw [ap (by show ¬ab=ab+70;omega),aE ⟨Nat.le_refl _,by show ab<ab+70;omega⟩]
      unfold ac.elem?;rw [R,aE V,eM];rw [fc,hW (by simpa using C)];simp [C]
     simp only [J.slice.injEq]at aI;obtain⟨rfl,_⟩:=aI
     obtain⟨e,F,ad,r,rfl,rfl,rfl⟩:=Ie H B p tl.length i k n (n+70) z c (some ⟨o,ab,0,0,6⟩) go a b ⟨o,ab,0+k,0,6⟩ b (gU i).x (λe F h=>e=.normal/\F=[(0,.ptr (some ⟨p,0,0,0,4⟩)),(6,.slice c tl.length tl.length),(10,.int .i64 (i:Nat)),(11,.int .i64 ((k+1:Nat):Int))]/\h=⟨H.Y+61,H.ay⟩)
      (aR l ⟨j,w 7,λ_=>aR V ⟨cD 58,s,u 58,by rw [gj V],cD 58,s,u 58,Bi C,Iu (H:=⟨H.Y+58,H.ay⟩) ag E,⟨V,V⟩,by simp [gU],cD 58,s,u 58,by rw [gi V],aR V ⟨⟨V,V⟩,rfl,by rw [show(k:Int)+1=((k+1:Nat):Int)by omega],rfl⟩⟩,λh=>absurd h V⟩)
     exact r
    .have P:∃(o v:Nat)(A:ac),go=some ⟨o,v,0,0,6⟩/\H.get o=some A/\A.elem? v (0+k)=some (bi (gV i)):=by
      rcases fr.ex with ⟨aN,_,eY⟩|⟨_,o,lt,X,ab,f,aI,aO,ag,I⟩
      .subst aN;rcases eY.ex with ⟨_,h⟩|⟨_,o,lt,_,ab,av,f,aO,ag⟩
       .simp at h
       .simp only [J.slice.injEq]at aO;obtain⟨rfl,_⟩:=aO;refine⟨o,ab,_,rfl,ag,?_⟩;unfold ac.elem?;rw [aE (by simp [ac.b0];omega),eM,fc,w7,aE V];rfl
      .simp only [J.slice.injEq]at aO;obtain⟨rfl,_⟩:=aO;refine⟨o,ab+70,_,rfl,ag,?_⟩;unfold ac.elem?;rw [aE (by simp [ac.b0];omega),eM,fc,hX (by simp;omega),q3,w7,aE V];rfl
     obtain⟨o,v,A,rfl,ag,E⟩:=P
     obtain⟨e,F,ad,r,rfl,rfl,rfl⟩:=SZ H B p tl.length i k n (n+70) z c cy (some ⟨o,v,0,0,6⟩) a b b ⟨o,v,0+k,0,6⟩ (gV i).x (λe F h=>e=.normal/\F=[(0,.ptr (some ⟨p,0,0,0,4⟩)),(6,.slice c tl.length tl.length),(10,.int .i64 (i:Nat)),(11,.int .i64 ((k+1:Nat):Int))]/\h=⟨H.Y+61,H.ay⟩)
      (aR l ⟨j,w 7,λ_=>aR V ⟨cD 58,s,u 58,by rw [gi V],cD 58,s,u 58,by rw [gj V],j,w 58,Bi al,Iu (H:=⟨H.Y+58,H.ay⟩) ag E,⟨V,V⟩,by simp [gV],aR V ⟨⟨V,V⟩,rfl,by rw [show(k:Int)+1=((k+1:Nat):Int)by omega],rfl⟩⟩,λh=>absurd h V⟩)
     exact r
   exact⟨H',bg,bX.step step Q,m.trans aJ,O⟩
  .exact ih k H col V K l g d fr
theorem Tw{B t p dp rp:Nat}{tv wv mvv:J}{tl wl c:List J}{bp:List (List aP)}(G:bp.length<2^30)(C:∀l∈bp,l.length<2^30)(k:tl.length=bp.length)(b:c.length=bp.length):∀(q i:Nat)(H:T)(col:Nat->Nat),bp.length-i<=q->i<=bp.length->B<=H.Y->jC H col t p dp rp tv wv tl wl->c1 H col 12 1 ig mvv c ->
 (∀(j:Nat)(h:j<bp.length)(x y:J),tl[j]? =some x->c[j]? =some y->ii H col (bN t (5+2*j)) x y bp[j].length 70 j) ->
 ∃H' bg,dl B 169 (br 18 5) [(0,.ptr (some ⟨p,0,0,0,4⟩)),(6,mvv),(10,.int .i64 (i:Nat))] H (.exit 10) [(0,.ptr (some ⟨p,0,0,0,4⟩)),(6,mvv),(10,.int .i64 (bp.length:Nat))] H'/\bs H H' col bg []/\B<=H'.Y:=by
 intro q;induction q with
 |zero =>
  intro i H col E ah f g a fr;obtain rfl:i=bp.length:= V;obtain⟨o,rfl,cD⟩:=g.kg;obtain⟨d,rfl⟩:=a.ez;rw [k]at cD;rw [b];obtain⟨e,F,ad,n,rfl,rfl,rfl⟩:=If H H B p bp.length bp.length o d .undef (λe F h=>e=.exit 10/\F=[(0,.ptr (some ⟨p,0,0,0,4⟩)),(6,.slice d bp.length bp.length),(10,.int .i64 (bp.length:Nat))]/\h=⟨H.Y+7,H.ay⟩) (aR f ⟨cD 7,λh=>absurd h V,λ_=>⟨rfl,rfl,rfl⟩⟩);exact⟨_,_,bX.last an n,bs.fresh H col 7,by show B<=H.Y+7;omega⟩
 |succ q ih =>
  intro i H col E ah f g a fr;by_cases al:i<bp.length
  .have r:=g;have s:=a;obtain⟨o,rfl,cD⟩:=g.kg;obtain⟨d,rfl⟩:=a.ez;rw [k]at cD;have v:tl[i]? =some (tl[i]'(by rw [k];exact al)):=c7 _;have hm:c[i]? =some (c[i]'(by rw [b];exact al)):=c7 _;have m0:=bs.fresh H col 8;obtain⟨H1,w,u,m1,A⟩:=Tv (B:=B) (by rw [b,k]) v hm V (C _ (gw al)) (bp[i].length+70) 0 ⟨H.Y+8,H.ay⟩ (fresh H col) V V (by show B<=H.Y+8;omega) (r.aJ m0 an an an) (s.aJ m0 an) ((fr i al _ _ v hm).aJ m0 an);rw [b]at u⊢
   obtain⟨e,F,ad,n,rfl,rfl,rfl⟩:=If H H1 B p bp.length i o d (.int .i64 (bp[i].length+70:Nat)) (λe F h=>e=.normal/\F=[(0,.ptr (some ⟨p,0,0,0,4⟩)),(6,.slice d bp.length bp.length),(10,.int .i64 ((i+1:Nat):Int))]/\h=⟨H1.Y+3,H1.ay⟩)
    (aR f ⟨cD 7,λ_=>aR V ⟨cZ.dJ u,aR A ⟨⟨V,V⟩,rfl,by rw [show(i:Int)+1=((i+1:Nat):Int)by omega],rfl⟩⟩,λh=>absurd h V⟩)
   have m2:=bs.fresh H1 w 3;have m:=(m0.trans (m1.trans m2)).sub (M:=[]) an;have nx:=ih (i+1) ⟨H1.Y+3,H1.ay⟩ _ V V (by show B<=H1.Y+3;omega) (r.aJ m an an an) (s.aJ m an) (λj h x y aI aO=>(fr j h x y aI aO).aJ m an);rw [b]at nx;obtain⟨H',bg,D,aJ,z⟩:=nx;exact⟨H',bg,bX.step n D,m.trans aJ,z⟩
  .exact ih i H col V ah f g a fr
theorem Iv{H:T}{col:Nat->Nat}{t p dp rp:Nat}{tv wv:J}{tl wl:List J}{I:bO}{d:bq}{bp:List (List aP)}(g:gT H col t p dp rp tv wv tl wl I d bp)(o:bp.length<2^30)(f:∀l∈bp,l.length<2^30) :
 ∃H' bg,bu 18 [.ptr (some ⟨p,0,0,0,4⟩)] H (.bool true) H'/\bs H H' col bg (LT t bp.length++[12,8])/\H.Y<H'.Y:=by
 have n:∀l∈bp,l.length<2^40:=λl h=>by have:=f l h;omega
 have m0:=bs.fresh H col 2;have g0:=g.aJ m0 λj=> an
 obtain⟨H1,i,E,m1,aH⟩:=Tm (B:=H.Y) V n bp.length 0 ⟨H.Y+2,H.ay⟩ (fresh H col) V V (by show H.Y<=H.Y+2;omega) g0;have g1:=g0.aJ m1 λj=> an
 have m2:=bs.fresh H1 i 1;have g2:=g1.aJ m2 λj=> an
 obtain⟨a,k,l2,w,K,m3,b2⟩:=Tr (B:=H.Y) V n g.iL bp.length 0 ⟨H1.Y+1,H1.ay⟩ (fresh H1 i) V V (by show H.Y<=H1.Y+1;omega) g2.Bj (λj h x e=>by
  rw [ap V]
  exact(g2.jg j h x e).Tn)
 have m4:=bs.fresh a k 2;obtain⟨b,m,mvv,M,F,z,A,L,C,m5,r⟩:=Tu (B:=H.Y) o f g.iL bp.length 0 ⟨a.Y+2,a.ay⟩ (fresh a k) (.slice none 0 0) [] V V (by show H.Y<=a.Y+2;omega) (w.aJ m4 an an an) (c1.nil _ _ _ _ _) rfl (λj h x e _=>(K j h x e).aJ m4 an) (λj h x y _ e=>by simp at e);have m6:=bs.fresh b m 1;obtain⟨c,u,G,m7,s⟩:=Tw (B:=H.Y) o f g.iL L bp.length 0 ⟨b.Y+1,b.ay⟩ (fresh b m) V V (by show H.Y<=b.Y+1;omega) (z.aJ m6 an an an) (A.aJ m6 an) (λj h x y aI aO=>(C j h x y aI aO).aJ m6 an)
 obtain⟨v,ad,D,rfl,rfl⟩:=S0 H H1 a b c p mvv (.int .i64 (bp.length:Nat)) (.int .i64 (bp.length:Nat)) (.int .i64 (bp.length:Nat)) (.int .i64 (bp.length:Nat)) (λv ad=>v=.bool true/\ad=⟨c.Y+1,c.ay⟩)
  (aR (Nat.le_refl _) (aR V ⟨cZ.dJ E,aR aH ⟨cZ.dJ l2,aR b2 (aR V ⟨cZ.dJ F,aR r ⟨cZ.dJ G,aR s (by
   refine e2 V ?_
   exact⟨rfl,rfl⟩)⟩⟩)⟩⟩))
 have m8:=bs.fresh c u 1
 exact⟨_,_,D,(m0.trans (m1.trans (m2.trans (m3.trans (m4.trans (m5.trans (m6.trans (m7.trans m8)))))))).sub (by
  intro x q;simp only [eg,fV,eG,cM,ff,ea]at q⊢;rcases q with h|h|h
  .exact .inl h
  .exact .inl h
  .exact .inr h),by show H.Y<c.Y+1;omega⟩
end Go.Proofs.YtddnafghiejcoaaGreatDoor
namespace Go.Proofs.YtddnafghiejcoaaGreatDoor
open Go.bh Go.Keys
set_option maxRecDepth 1000000
theorem ti{a b:List J}{h k ad k':T}{v u:J}(e:h.Y≠k.Y):nh a b h k v u ad k':=⟨λ_ q=>absurd (dW T.Y q) e⟩
end Go.Proofs.YtddnafghiejcoaaGreatDoor
namespace Go.Proofs.YtddnafghiejcoaaGreatDoor
open Go.bh
set_option maxRecDepth 1000000
theorem Tx:uh (nd Tryz.prog env 400 19 [] ⟨0,.nil⟩)=true:=by decide+kernel
theorem Ty(H:T):bu 19 [] H (.bool true) H:=by obtain⟨ad,al⟩:=Kk Tx;exact(bl.pP cP mixed al).bare an (ci.bool _) H
open Go.Keys Go.Lib
theorem Tz{o v b N c i:Nat}(ah:i<N):dL (a'.D env) 22 (.slice (some ⟨o,v,b,0,2⟩) N c) (.int .i64 (i:Nat))=some (.ptr (some ⟨o,v,b+i,0,2⟩)):=by have aa:(a'.D env 22).map (λd=>d.kind)=some (.slice 36):= ar;have h2:(a'.D env 36).map (λd=>d.size)=some 2:= ar;obtain⟨d,aI,a⟩:=b4.1 aa;obtain⟨x,aO,e⟩:=b4.1 h2;unfold dL;simp [aI,a,aO,e,ah,a'.D]
theorem kP.load{H:T}{col:Nat->Nat}{o:Option aT}{bA:List (Int×Bytes)}(h:kP H col o bA){i c:Nat}(ah:i<bA.length):∃a dE gu,dL (a'.D env) 22 (.slice o bA.length c) (.int .i64 (i:Nat))=some (.ptr (some a))/\jr H col 0 dE bA[i].2/\∀k,a1 (a'.D env) 36 a ⟨H.Y+k,H.ay⟩=some (.agg [.int .i64 bA[i].1,.slice dE bA[i].2.length gu]):=by
 rcases h with ⟨_,rfl⟩|⟨q,bv,bw,rfl,b⟩
 .simp at ah
 .obtain⟨dE,gu,aa,_,h2⟩:=b.load i ah;exact⟨_,dE,gu,Tz ah,aa,h2⟩
def hh(H:T)(col:Nat->Nat)(t p dp rp i:Nat):Prop:= ∃tv wv tl wl I d bp,gT H col t p dp rp tv wv tl wl I d bp/\Keys.Good d/\kb d/\bp.length<=i/\∀l∈bp,l.length<2^30
theorem hh.aJ{H H':T}{col bg:Nat->Nat}{t p dp rp i:Nat}{L:List Nat}(g:hh H col t p dp rp i)(m:bs H H' col bg L)(al:∀j,bN t j ∉ L):hh H' bg t p dp rp i:=by obtain⟨tv,wv,tl,wl,I,d,bp,h,r⟩:=g;exact⟨tv,wv,tl,wl,I,d,bp,h.aJ m al,r⟩
theorem hh.le{H:T}{col:Nat->Nat}{t p dp rp i k:Nat}(g:hh H col t p dp rp i)(h:i<=k):hh H col t p dp rp k:=by obtain⟨tv,wv,tl,wl,I,d,bp,a,b,c,e,f⟩:=g;exact⟨tv,wv,tl,wl,I,d,bp,a,b,c,V,f⟩
abbrev pe(t:Nat):List Nat:=[bN t 0,bN t 1,bN t 2,bN t 3,bN t 4,7,8,9,11]
theorem hh.step{H:T}{col:Nat->Nat}{t p dp rp i c:Nat}{z:Int}{o:Option aT}{aU:Bytes}(g:hh H col t p dp rp i)(ah:i<2^29)(k:jr H col 0 o aU)(az:aU.length<2^28) :
 ∃H' bg,bu 15 [.ptr (some ⟨p,0,0,0,4⟩),.agg [.int .i64 z,.slice o aU.length c]] H (.bool true) H'/\hh H' bg t p dp rp (i+1)/\bs H H' col bg (pe t)/\H.Y<=H'.Y:=by
 obtain⟨tv,wv,tl,wl,I,d,bp,h,b,e,v,j⟩:=g
 have go:qP H col t p dp rp d bp z o aU c:=by
  by_cases aa:z=1
  .subst aa;exact Tk h b e V k az
  .by_cases h2:z=2
   .subst h2;exact Tg h b e V
   .by_cases f:z=3
    .subst f;exact Te h b
    .exact Td h aa h2 f
 obtain⟨H',bg,r,u,q,s,aC,n,ad,m,hn'⟩:=go;refine⟨H',bg,n,⟨r,u,q,s,aC,_,_,ad,?_,?_,?_,?_⟩,m,hn'⟩
 .unfold kQ;split
  .exact Dk _ b
  .split
   .exact LH b
   .exact b
 .unfold kQ;split
  .exact(HF e aU).2
  .split
   .exact Sh e b
   .exact e
 .rw [dt]
  have:(kQ d z aU).2.length<=1:=by
   unfold kQ;split
   .simp
   .split<;>simp
  omega
 .intro l a;rcases eG.1 a with a|a
  .exact j l a
  .unfold kQ at a;split at a
   .simp only [cC]at a;have:=yQ aU d;subst a;omega
   .split at a
    .simp only [cC]at a;subst a;unfold Keys.flush;split
     .simp
     .split
      .simp [tell]
      .split<;>simp [tell]
    .simp at a
theorem TA(i j:Nat):bN 0 i≠bN 1 j:=by unfold bN;omega
theorem TB(j:Nat):bN 1 j ∉ pe 0:=by unfold bN;simp only [pe,cM,ff,ea,eR,bN];omega
theorem Iw(j:Nat):bN 0 j ∉ pe 1:=by unfold bN;simp only [pe,cM,ff,ea,eR,bN];omega
theorem qR(t:Nat):0 ∉ pe t:=by simp only [pe,cM,ff,ea,eR,bN];omega
theorem TC(j N:Nat):bN 1 j ∉ LT 0 N++[12,8]:=by
 intro h;rcases eG.1 h with h|h
 .obtain⟨i,_,e⟩:=dz.1 h;exact TA _ _ e
 .simp only [cM,ff,ea,bN]at h;omega
abbrev lF(o a:Option aT)(n m n2 m2 b c i:Nat):a8:=[(0,.slice o n m),(1,.slice a n2 m2),(5,.ptr (some ⟨b,0,0,0,4⟩)),(6,.ptr (some ⟨c,0,0,0,4⟩)),(7,.int .i64 (i:Nat))]
theorem TD{B b v A d w C m m2 N:Nat}{o f:Option aT}{bA a:List (Int×Bytes)}(hs:fp bA<=2^27)(a4:fp a<=2^27)(av:bA.length<=N)(a0:a.length<=N)(a3:N<=2^27):∀(q i:Nat)(H:T)(col:Nat->Nat),N-i<=q->i<=N->B<=H.Y->hh H col 0 b v A i->hh H col 1 d w C i->kP H col o bA->kP H col f a ->
 ∃H' bg j,dl B 109 (br 3 0) (lF o f bA.length m a.length m2 b d i) H (.exit 0) (lF o f bA.length m a.length m2 b d j) H'/\hh H' bg 0 b v A N/\hh H' bg 1 d w C N/\B<=H'.Y:=by
 intro q
 have fin:∀(i:Nat)(H:T)(col:Nat->Nat),i<=N-> ¬i<bA.length-> ¬i<a.length->B<=H.Y->hh H col 0 b v A i->hh H col 1 d w C i ->
  ∃H' bg j,dl B 109 (br 3 0) (lF o f bA.length m a.length m2 b d i) H (.exit 0) (lF o f bA.length m a.length m2 b d j) H'/\hh H' bg 0 b v A N/\hh H' bg 1 d w C N/\B<=H'.Y:=by
  intro i H col ah aa h2 l g1 g2
  obtain⟨e,F,ad,n,rfl,rfl,rfl⟩:=S6 H B bA.length m a.length m2 i b d o f (λe F h=>e=.exit 0/\F=lF o f bA.length m a.length m2 b d i/\h=⟨H.Y+10,H.ay⟩)
   (aR l ⟨by rw [gi V],by rw [gi V],rfl,rfl,rfl⟩)
  have Q:=bs.fresh H col 10;exact⟨_,_,i,bX.last an n,(g1.le ah).aJ Q an,(g2.le ah).aJ Q an,by show B<=H.Y+10;omega⟩
 induction q with
 |zero =>
  intro i H col Z ah l g1 g2 ao a2;exact fin i H col ah V V l g1 g2
 |succ q ih =>
  intro i H col Z ah l g1 g2 ao a2;by_cases cs:i<bA.length
  .obtain⟨R,dE,gu,P,S,cD⟩:=ao.load (c:=m) cs;have a5:=Bg cs;have m0:=bs.fresh H col 23;obtain⟨H1,u,y,O,m1,s⟩:=(g1.aJ m0 an).step (z:=bA[i].1) (c:=gu) V (S.aJ m0 an) V;have s:H.Y+23<=H1.Y:=s;have x:=(g2.aJ m0 an).aJ m1 TB;have M:=(ao.aJ m0 an).aJ m1 (qR 0);have D:=(a2.aJ m0 an).aJ m1 (qR 0);by_cases c2:i<a.length
   .obtain⟨L,K,t,G,E,I⟩:=D.load (c:=m2) c2;have am:=Bg c2;have g:=bs.fresh H1 u 13;obtain⟨k,U,X,W,m3,n2⟩:=(x.aJ g an).step (z:=a[i].1) (c:=t) V (E.aJ g an) V;have n2:H1.Y+13<=k.Y:=n2;have m4:=bs.fresh k U 3
    obtain⟨e,F,ad,n,rfl,rfl,rfl⟩:=S3 H H1 k H H B bA.length m a.length m2 i b d o f R L (.agg [.int .i64 bA[i].1,.slice dE bA[i].2.length gu]) (.agg [.int .i64 a[i].1,.slice K a[i].2.length t]) (λe F h=>e=.normal/\F=lF o f bA.length m a.length m2 b d (i+1)/\h=⟨k.Y+3,k.ay⟩)
     (aR l ⟨by rw [gj V],aR V ⟨by rw [gj V],P,cD 23,⟨y⟩,aR V ⟨by rw [gj V],G,I 13,⟨X⟩,aR V ⟨⟨V,V⟩,rfl,by rw [show(i:Int)+1=((i+1:Nat):Int)by omega],rfl⟩⟩⟩⟩)
    obtain⟨H',bg,j,p,r⟩:=ih (i+1) ⟨k.Y+3,k.ay⟩ _ V V (by show B<=k.Y+3;omega) (((O.aJ g an).aJ m3 Iw).aJ m4 an) (W.aJ m4 an) (((M.aJ g an).aJ m3 (qR 1)).aJ m4 an) (((D.aJ g an).aJ m3 (qR 1)).aJ m4 an);exact⟨H',bg,j,bX.step n p,r⟩
   .have g:=bs.fresh H1 u 16
    obtain⟨e,F,ad,n,rfl,rfl,rfl⟩:=S4 H H1 B bA.length m a.length m2 i b d o f R (.agg [.int .i64 bA[i].1,.slice dE bA[i].2.length gu]) (λe F h=>e=.normal/\F=lF o f bA.length m a.length m2 b d (i+1)/\h=⟨H1.Y+16,H1.ay⟩)
     (aR l ⟨by rw [gj V],aR V ⟨by rw [gj V],P,cD 23,⟨y⟩,aR V ⟨by rw [gi V],aR V ⟨⟨V,V⟩,rfl,by rw [show(i:Int)+1=((i+1:Nat):Int)by omega],rfl⟩⟩⟩⟩)
    obtain⟨H',bg,j,p,r⟩:=ih (i+1) ⟨H1.Y+16,H1.ay⟩ _ V V (by show B<=H1.Y+16;omega) (O.aJ g an) ((x.le V).aJ g an) (M.aJ g an) (D.aJ g an);exact⟨H',bg,j,bX.step n p,r⟩
  .by_cases c2:i<a.length
   .obtain⟨L,K,t,G,E,I⟩:=a2.load (c:=m2) c2;have am:=Bg c2;have m0:=bs.fresh H col 36;obtain⟨H1,u,y,x,m1,s⟩:=(g2.aJ m0 an).step (z:=a[i].1) (c:=t) V (E.aJ m0 an) V;have s:H.Y+36<=H1.Y:=s;have m4:=bs.fresh H1 u 3
    obtain⟨e,F,ad,n,rfl,rfl,rfl⟩:=S5 H H1 B bA.length m a.length m2 i b d o f L (.agg [.int .i64 a[i].1,.slice K a[i].2.length t]) (λe F h=>e=.normal/\F=lF o f bA.length m a.length m2 b d (i+1)/\h=⟨H1.Y+3,H1.ay⟩)
     (aR l ⟨by rw [gi V],by rw [gj V],aR V ⟨by rw [gi V],aR V ⟨by rw [gj V],G,I 36,⟨y⟩,aR V ⟨⟨V,V⟩,rfl,by rw [show(i:Int)+1=((i+1:Nat):Int)by omega],rfl⟩⟩⟩⟩)
    obtain⟨H',bg,j,p,r⟩:=ih (i+1) ⟨H1.Y+3,H1.ay⟩ _ V V (by show B<=H1.Y+3;omega) ((((g1.le V).aJ m0 an).aJ m1 Iw).aJ m4 an) (x.aJ m4 an) (((ao.aJ m0 an).aJ m1 (qR 1)).aJ m4 an) (((a2.aJ m0 an).aJ m1 (qR 1)).aJ m4 an);exact⟨H',bg,j,bX.step n p,r⟩
   .exact fin i H col ah cs c2 l g1 g2
theorem Ix{F:a8}{nid k:Nat}{H:T}(a:bf F (.tmp k)=.agg [.str [],.bool false,.str []]):bd env cr nid (bf F) H (Op.box 29 (Operand.tmp k))=some (.ptr (some ⟨nid,0,0,0,3⟩),H.set nid (cz [] false [])):=by
 have:bd env cr nid (bf F) H (Op.box 29 (Operand.tmp k))=bd env cr nid (λ_=> .agg [.str [],.bool false,.str []]) H (Op.box 29 (Operand.tmp k)):=by simp only [bd,a]
 exact this.trans ar
theorem Iy{F:a8}{nid k d r:Nat}{H:T}(a:bf F (.tmp k)=.agg [.ptr (some ⟨d,0,0,0,6⟩),.ptr (some ⟨r,0,0,0,3⟩),.slice none 0 0,.slice none 0 0]):bd env cr nid (bf F) H (Op.box 32 (Operand.tmp k))=some (.ptr (some ⟨nid,0,0,0,4⟩),H.set nid (ke d r (.slice none 0 0) (.slice none 0 0))):=by
 have:bd env cr nid (bf F) H (Op.box 32 (Operand.tmp k))=bd env cr nid (λ_=> .agg [.ptr (some ⟨d,0,0,0,6⟩),.ptr (some ⟨r,0,0,0,3⟩),.slice none 0 0,.slice none 0 0]) H (Op.box 32 (Operand.tmp k)):=by simp only [bd,a]
 exact this.trans ar
theorem bs.Iz{H:T}{col:Nat->Nat}{y:Nat}(B:ac)(c:Nat)(a:col y=8):bs H (H.set y B) col (λx=>if x=y then c else col x) [8]:=by
 refine⟨Nat.le_refl _,λx _ h=>T.eO _ _ λe=> ?_,λx _ h=>ap λe=> ?_⟩
 .subst e;rw [a]at h;simp at h
 .subst e;rw [a]at h;simp at h
theorem IA(H:T)(col:Nat->Nat)(t:Nat):∃a b bg,bu 14 [] ⟨H.Y+6,H.ay⟩ (.ptr (some ⟨b,0,0,0,6⟩)) a /\
 hh ((a.set (H.Y+2) (cz [] false [])).set (H.Y+4) (ke b (H.Y+2) (.slice none 0 0) (.slice none 0 0))) bg t (H.Y+4) b (H.Y+2) 0/\bs H ((a.set (H.Y+2) (cz [] false [])).set (H.Y+4) (ke b (H.Y+2) (.slice none 0 0) (.slice none 0 0))) col bg [8]/\H.Y+6<=a.Y:=by
 have m0:=bs.fresh H col 6;obtain⟨a,b,I,c,f,mD,m1⟩:=gQ.new ⟨H.Y+6,H.ay⟩ (fresh H col) (bN t 1);have l:H.Y+6<=a.Y:=m1.Y;have g:c (H.Y+2)=8:=by rw [m1.col _ (by show H.Y+2<H.Y+6;omega) an];exact gP V
 have j:c (H.Y+4)=8:=by rw [m1.col _ (by show H.Y+4<H.Y+6;omega) an];exact gP V
 have m2:=bs.Iz (H:=a) (cz [] false []) (bN t 2) g;have k:(λx=>if x=H.Y+2 then bN t 2 else c x) (H.Y+4)=8:=by show(if _ then _ else _)=_;rw [ap V];exact j
 have m3:=bs.Iz (H:=a.set (H.Y+2) (cz [] false [])) (col:=λx=>if x=H.Y+2 then bN t 2 else c x) (ke b (H.Y+2) (.slice none 0 0) (.slice none 0 0)) (bN t 0) k;have e:=(mD.aJ m2 (by simpa using kf t 1)).aJ m3 (by simpa using kf t 1);refine⟨a,b,λx=>if x=H.Y+4 then bN t 0 else if x=H.Y+2 then bN t 2 else c x,f,⟨_,_,[],[],I,mZ,[],⟨by show H.Y+4<a.Y;omega,aE rfl,T.eT _ _ _,e,⟨by show H.Y+2<a.Y;omega,?_,?_⟩,c1.nil _ _ _ _ _,c1.nil _ _ _ _ _,rfl,rfl,λi h=>absurd h (Nat.not_lt_zero _),λi h=>absurd h (Nat.not_lt_zero _)⟩,QM,inv_zero,Nat.le_refl _,an⟩,(m0.trans (m1.trans (m2.trans m3))).sub (λx d=>by simp only [eg,eG,cC,kV]at d;simpa using d),l⟩
 .rw [T.eO _ _ V];exact T.eT _ _ _
 .show(if _ then _ else(if _ then _ else _))=_;rw [ap V,aE rfl]
end Go.Proofs.YtddnafghiejcoaaGreatDoor
