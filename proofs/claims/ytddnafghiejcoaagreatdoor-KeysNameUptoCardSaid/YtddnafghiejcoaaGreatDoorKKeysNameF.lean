/-
  Parts of the proof of KeysName.
-/
import Derived.Lib.ItoaNum
import Derived.Test.YtddnafghiejcoaaGreatDoorKKeysNameE
set_option maxRecDepth 1000000
set_option linter.unusedVariables false
set_option linter.defProp false
set_option linter.unusedSimpArgs false
namespace Go.Proofs.zz
open Go.br Go.Keys
abbrev iq(f kv off n:Nat)(pv ov:J)(dty:bw):aa:=bJ 0 f 1 (.slice (some ⟨2,kv,off,0,1⟩) n n) pv true ov dty
abbrev fj:bc:=[(0,.ptr (some ⟨0,0,0,0,6⟩))]
variable {n off:Nat}
def CM{D:Nat->Prop}{f kv:Nat}{pv ov:J}{dty:bw}(aM:D 0)(Y:D 1)(ag:D 2)(ae:bR D pv)(a:bR D ov):∀e∈(iq f kv off n pv ov dty).bg,bR D e:=by intro e he;rw [cF.1 he];simp only [bR,dO];exact⟨⟨⟨aM,trivial⟩,trivial⟩,ag,ae,trivial,Y,a,trivial⟩
def II{r:Nat->Nat}{f kv:Nat}{pv ov:J}{dty:bw}(aM:r 0=0)(Y:r 1=1)(ag:r 2=2)(a:ov.aO r=ov):(iq f kv off n pv ov dty).aO r=iq f kv off n (pv.aO r) ov dty:=by simp [aa.aO,aa.an,J.aO,J.fc,bB.aO,aM,Y,ag,a]
def jZ:Nat->Prop:=λi=>i=0\/i=1\/i=2\/i=3\/i=4
def rF{X ak:Bytes}(h:X.drop off=ak):List.take ak.length (List.drop off (aE X))=aE ak:=by
 have:List.drop off (aE X)=aE (X.drop off):=by simp [aE,ss]
 rw [this,h,<-gD,kj]
def xS{X r:Bytes}{b:UInt8}(h:X.drop off=b::r):(aE X)[off]? =some (.ac (b.toNat:Int)):=by
 have Y:X[off]? =some b:=by have:=dm (λl=>l[0]?) h;simpa [lx]using this
 simp [aE,Y]
def CN{X r:Bytes}{b:UInt8}(h:X.drop off=b::r):aS (aE X) off=(b.toNat:Int):=by unfold aS;rw [xS h]
def CO{X r:Bytes}{b:UInt8}(h:X.drop off=b::r):X.drop (off+1)=r:=by rw [<-qs,h];rfl
def uu{X k:Bytes}(h:X.drop off=k)(a:off<=X.length):off+k.length=X.length:=by rw [<-h,eF];omega
def xT(p:Bytes)(b:UInt8):aE p++[J.ac (b.toNat:Int)]=aE (p++[b]):=by simp [aE]
def uv(n:Nat)(p:Bytes):shift n [] p=([],p):=by cases n<;>rfl
def CP{K:List Nat}{ov:J}(h:bR jZ ov)(a:∀i,jZ i->i∈K):bR (Go.br.b3 K) ov:=bR.mono a h
section
variable(f kv ch cl:Nat)(X:Bytes)(a1 P O:aa)(ov:J)(dty:bw)
abbrev rG(off n pv pm a:Nat)(ax:Bytes):List (Nat×aa):=[(0,iq f kv off n (.slice (some ⟨3,pv,0,0,1⟩) ax.length ax.length) ov dty),(1,a1),(2,b4 (aE X) 1 kv ch cl b'),(3,b4 (aE ax) 1 pv pm a b'),(4,O)]
def CQ{K:Nat}(t:5<=K){h:T}{j off n pv pm b:Nat}{ax:Bytes}(a:j=3)(d:cu a1)(g:cu P)(c:cu O)(co:bR jZ ov)
 (e0:h.get 0=some (iq f kv off n (.aB j pv 0 ax.length ax.length) ov dty)) (aQ:h.get 1=some a1) (aZ:h.get 2=some (b4 (aE X) 1 kv ch cl b')) (m:h.get 3=h.get 3) (o:h.get 4=some O) (p:h.get j=some (b4 (aE ax) 1 pv pm b b')) :
 bW 5 80 fj h fj (T.rows K (rG f kv ch cl X a1 O ov dty off n pv pm b ax)):=by
 have u:Nat.ble 5 j=true\/j=3:=by first|exact .inr a|exact .inl (Nat.ble_eq.mpr a)
 have s:∀i,jZ i->(λk=>if k=3 then j else k) i=i:=by intro i ah;have:i=0\/i=1\/i=2\/i=3\/i=4:=ah;simp only;split<;>omega
 refine bW.move (K:=K) (l:=rG f kv ch cl X a1 O ov dty off n pv pm b ax) (λk=>if k=3 then j else k) ?_ ?_ ?_ ?_ ?_ ?_ rfl ?_ ?_
 .have q:=II (r:=λk=>if k=3 then j else k) (f:=f) (kv:=kv) (off:=off) (n:=n) (pv:= .aB 3 pv 0 ax.length ax.length) (dty:=dty) au au au (J.wA s co);simp only [ei,hS,q,d.aO,g.aO,c.aO,(lT (js X) 1 kv ch cl b').aO,(lT (js ax) 1 pv pm b b').aO];simp [e0,aQ,aZ,m,o,p,J.aO,bB.aO]
 .simp [iE];omega
 .simp;omega
 .subst a;rfl
 .subst a;rfl
 .simp [J.aO,bB.aO]
 .exact aX.cons (by show(0:Nat)∈_;simp) aX.nil
 .exact aX.cons (CM (by show(0:Nat)∈_;simp) (by show(1:Nat)∈_;simp) (by show(2:Nat)∈_;simp) (by show(3:Nat)∈_;simp) (CP co (by intro i ah;have:i=0\/i=1\/i=2\/i=3\/i=4:=ah;simp;omega))) (aX.cons (λe he=>(d e he).dj _) (aX.cons (λe he=>(js X e he).dj _) (aX.cons (λe he=>(js ax e he).dj _) (aX.cons (λe he=>(c e he).dj _) aX.nil))))
def To(x:cu a1)(w:cu P)(v:cu O)(co:bR jZ ov):∀(a:Nat)(ak ax:Bytes)(off pv pm c:Nat),ak.length<=a->X.drop off=ak->off<=X.length->ax.length<=65536-> ∃l k j,
 dd 5 80 (bu 129 0) fj (T.rows 5 (rG f kv ch cl X a1 O ov dty off ak.length pv pm c ax)) (.exit 0) fj
  (T.rows 40 (rG f kv ch cl X a1 O ov dty (X.length- (shift a ak ax).1.length) (shift a ak ax).1.length l k j (shift a ak ax).2)):=by
 intro a
 have fin:∀(a:Nat)(ak ax:Bytes)(off pv pm c:Nat),X.drop off=ak->off<=X.length->shift a ak ax=(ak,ax)->(ak≠[]->ak.isPrefixOf cm=true)-> ∃l k j,
  dd 5 80 (bu 129 0) fj (T.rows 5 (rG f kv ch cl X a1 O ov dty off ak.length pv pm c ax)) (.exit 0) fj
   (T.rows 40 (rG f kv ch cl X a1 O ov dty (X.length- (shift a ak ax).1.length) (shift a ak ax).1.length l k j (shift a ak ax).2)):=by
  intro a ak ax off pv pm c d g hs ae;have z:=uu d g
  obtain⟨e,i,Y,s,rfl,rfl,e0,aQ,aZ,o,p,q⟩:=IG f off kv ch cl ak.length pv pm c ax.length (aE X) (aE ax) ov a1 O dty (λe i Y=>e=.exit 0/\i=fj/\Y.get 0=some (iq f kv off ak.length (.aB 3 pv 0 ax.length ax.length) ov dty)/\Y.get 1=some a1/\Y.get 2=some (b4 (aE X) 1 kv ch cl b')/\Y.get 3=Y.get 3/\Y.get 4=some O/\Y.get 3=some (b4 (aE ax) 1 pv pm c b')) (by
   delta jY hc xQ dy
   rw [rF d,gY];refine⟨λh=>⟨rfl,by rw [gD];omega,⟨ak,rfl⟩,λ_=>⟨rfl,rfl,rfl,rfl,rfl,rfl,rfl,rfl⟩,λag=> ?_⟩,λ_=>⟨rfl,rfl,rfl,rfl,rfl,rfl,rfl,rfl⟩⟩;have D:ak≠[]:=by rintro rfl;simp at h
   have:=ae D;rw [show Array.toList #[(27:UInt8),91,50,48,49,126]=cm from rfl,this]at ag
   cases ag)
  refine⟨pv,pm,c,?_⟩;rw [hs];simp only;rw [show X.length-ak.length=off by omega];exact(b2.last au s).post (CQ f kv ch cl X a1 P O ov dty aC aC x w v co e0 aQ aZ o p q)
 induction a with
 |zero =>
  intro ak ax off pv pm c y d g ae;have C:ak=[]:=pc A;subst C;exact fin 0 [] ax off pv pm c d g (uv _ _) (λh=>absurd rfl h)
 |succ a ih =>
  intro ak ax off pv pm c y d g ae;cases ak with
  |nil=>exact fin (a+1) [] ax off pv pm c d g (uv _ _) (λh=>absurd rfl h)
  |cons b r =>
   cases m:(b::r).isPrefixOf cm with
   |true=>exact fin (a+1) (b::r) ax off pv pm c d g (by simp only [shift,m,dG]) (λ_=>m)
   |false =>
    have z:=uu d g;simp only [bK]at z y;have F:shift (a+1) (b::r) ax=shift a r (if ax.length<65536 then ax++[b]else ax):=by simp only [shift,m];rfl
    rw [F]
    obtain⟨e,i,Y,s,rfl,rfl,n,u,t,e0,aQ,aZ,o,p,q⟩:=IG f off kv ch cl (b::r).length pv pm c ax.length (aE X) (aE ax) ov a1 O dty (λe i Y=>e=.normal/\i=fj/\∃n u t,Y.get 0=some (iq f kv (off+1) r.length (.aB 3 n 0 (if ax.length<65536 then ax++[b]else ax).length (if ax.length<65536 then ax++[b]else ax).length) ov dty)/\Y.get 1=some a1/\Y.get 2=some (b4 (aE X) 1 kv ch cl b')/\Y.get 3=Y.get 3/\Y.get 4=some O/\Y.get 3=some (b4 (aE (if ax.length<65536 then ax++[b]else ax)) 1 n u t b')) (by
     delta jY hc xQ dy
     rw [rF d,gY,show off+0=off from rfl,CN d,xS d];have H:=gD ax;refine⟨λh=>⟨rfl,by rw [gD];simp only [bK];omega,⟨b::r,rfl⟩,λag=> ?_,λ_=>⟨λI=>⟨⟨A,h⟩,rfl,rfl,⟨rfl,A,A,A,A⟩,⟨A,A,Nat.le_refl _⟩,rfl,rfl,?_⟩,λG=>⟨⟨A,A,Nat.le_refl _⟩,rfl,rfl,?_⟩⟩⟩,λh=>by simp only [bK]at h;omega⟩
     .rw [show Array.toList #[(27:UInt8),91,50,48,49,126]=cm from rfl,m]at ag;cases ag
     .rw [az (show ax.length<65536 by omega),<-xT,dt];exact⟨_,_,_,rfl,rfl,rfl,rfl,rfl,rfl⟩
     .rw [ai (show ¬ax.length<65536 by omega)]
      exact⟨_,_,_,rfl,rfl,rfl,rfl,rfl,rfl⟩)
    have E:(if ax.length<65536 then ax++[b]else ax).length<=65536:=by
     split
     .rw [dt];simp only [bK,cq];omega
     .exact ae
    obtain⟨l,k,j,B⟩:=ih r _ (off+1) n u t A (CO d) A E;exact⟨l,k,j,b2.step (s.post (CQ f kv ch cl X a1 P O ov dty aC aC x w v co e0 aQ aZ o p q)) B⟩
abbrev p4(off n pv pm a:Nat)(ax:Bytes):List (Nat×aa):=[(0,iq f kv off n (.slice (some ⟨30,pv,0,0,1⟩) ax.length ax.length) ov dty),(1,a1),(2,b4 (aE X) 1 kv ch cl b'),(3,P),(4,O),(30,b4 (aE ax) 1 pv pm a b')]
def CR{K:Nat}(t:40<=K){h:T}{j off n pv pm a:Nat}{ax:Bytes}(b:5<=j)(g:cu a1)(d:cu P)(c:cu O)(co:bR jZ ov)
 (e0:h.get 0=some (iq f kv off n (.aB j pv 0 ax.length ax.length) ov dty)) (aQ:h.get 1=some a1) (aZ:h.get 2=some (b4 (aE X) 1 kv ch cl b')) (m:h.get 3=some P) (o:h.get 4=some O) (p:h.get j=some (b4 (aE ax) 1 pv pm a b')) :
 bW 5 80 fj h fj (T.rows K (p4 f kv ch cl X a1 P O ov dty off n pv pm a ax)):=by
 have u:Nat.ble 5 j=true\/j=3:=by first|exact .inr b|exact .inl (Nat.ble_eq.mpr b)
 have s:∀i,jZ i->(λk=>if k=30 then j else k) i=i:=by intro i ah;have:i=0\/i=1\/i=2\/i=3\/i=4:=ah;simp only;split<;>omega
 refine bW.move (K:=K) (l:=p4 f kv ch cl X a1 P O ov dty off n pv pm a ax) (λk=>if k=30 then j else k) ?_ ?_ ?_ ?_ ?_ ?_ rfl ?_ ?_
 .have q:=II (r:=λk=>if k=30 then j else k) (f:=f) (kv:=kv) (off:=off) (n:=n) (pv:= .aB 30 pv 0 ax.length ax.length) (dty:=dty) au au au (J.wA s co);simp only [ei,hS,q,g.aO,d.aO,c.aO,(lT (js X) 1 kv ch cl b').aO,(lT (js ax) 1 pv pm a b').aO];simp [e0,aQ,aZ,m,o,p,J.aO,bB.aO]
 .simp [iE];omega
 .simp;omega
 .rfl
 .simp [Nat.blt,b]
 .simp [J.aO,bB.aO]
 .exact aX.cons (by show(0:Nat)∈_;simp) aX.nil
 .exact aX.cons (CM (by show(0:Nat)∈_;simp) (by show(1:Nat)∈_;simp) (by show(2:Nat)∈_;simp) (by show(30:Nat)∈_;simp) (CP co (by intro i ah;have:i=0\/i=1\/i=2\/i=3\/i=4:=ah;simp;omega))) (aX.cons (λe he=>(g e he).dj _) (aX.cons (λe he=>(js X e he).dj _) (aX.cons (λe he=>(d e he).dj _) (aX.cons (λe he=>(c e he).dj _) (aX.cons (λe he=>(js ax e he).dj _) aX.nil)))))
def Tp(x:cu a1)(w:cu P)(v:cu O)(co:bR jZ ov):∀(a:Nat)(ak ax:Bytes)(off pv pm c:Nat),ak.length<=a->X.drop off=ak->off<=X.length->ax.length<=65536-> ∃l k j,
 dd 5 80 (bu 129 0) fj (T.rows 40 (p4 f kv ch cl X a1 P O ov dty off ak.length pv pm c ax)) (.exit 0) fj
  (T.rows 40 (p4 f kv ch cl X a1 P O ov dty (X.length- (shift a ak ax).1.length) (shift a ak ax).1.length l k j (shift a ak ax).2)):=by
 intro a
 have fin:∀(a:Nat)(ak ax:Bytes)(off pv pm c:Nat),X.drop off=ak->off<=X.length->shift a ak ax=(ak,ax)->(ak≠[]->ak.isPrefixOf cm=true)-> ∃l k j,
  dd 5 80 (bu 129 0) fj (T.rows 40 (p4 f kv ch cl X a1 P O ov dty off ak.length pv pm c ax)) (.exit 0) fj
   (T.rows 40 (p4 f kv ch cl X a1 P O ov dty (X.length- (shift a ak ax).1.length) (shift a ak ax).1.length l k j (shift a ak ax).2)):=by
  intro a ak ax off pv pm c d g hs ae;have z:=uu d g
  obtain⟨e,i,Y,s,rfl,rfl,e0,aQ,aZ,o,p,q⟩:=IH f off kv ch cl ak.length pv pm c ax.length (aE X) (aE ax) ov a1 P O dty (λe i Y=>e=.exit 0/\i=fj/\Y.get 0=some (iq f kv off ak.length (.aB 30 pv 0 ax.length ax.length) ov dty)/\Y.get 1=some a1/\Y.get 2=some (b4 (aE X) 1 kv ch cl b')/\Y.get 3=some P/\Y.get 4=some O/\Y.get 30=some (b4 (aE ax) 1 pv pm c b')) (by
   delta jY hc xR dy
   rw [rF d,gY];refine⟨λh=>⟨rfl,by rw [gD];omega,⟨ak,rfl⟩,λ_=>⟨rfl,rfl,rfl,rfl,rfl,rfl,rfl,rfl⟩,λag=> ?_⟩,λ_=>⟨rfl,rfl,rfl,rfl,rfl,rfl,rfl,rfl⟩⟩;have D:ak≠[]:=by rintro rfl;simp at h
   have:=ae D;rw [show Array.toList #[(27:UInt8),91,50,48,49,126]=cm from rfl,this]at ag
   cases ag)
  refine⟨pv,pm,c,?_⟩;rw [hs];simp only;rw [show X.length-ak.length=off by omega];exact(b2.last au s).post (CR f kv ch cl X a1 P O ov dty aC aC x w v co e0 aQ aZ o p q)
 induction a with
 |zero =>
  intro ak ax off pv pm c y d g ae;have C:ak=[]:=pc A;subst C;exact fin 0 [] ax off pv pm c d g (uv _ _) (λh=>absurd rfl h)
 |succ a ih =>
  intro ak ax off pv pm c y d g ae;cases ak with
  |nil=>exact fin (a+1) [] ax off pv pm c d g (uv _ _) (λh=>absurd rfl h)
  |cons b r =>
   cases m:(b::r).isPrefixOf cm with
   |true=>exact fin (a+1) (b::r) ax off pv pm c d g (by simp only [shift,m,dG]) (λ_=>m)
   |false =>
    have z:=uu d g;simp only [bK]at z y;have F:shift (a+1) (b::r) ax=shift a r (if ax.length<65536 then ax++[b]else ax):=by simp only [shift,m];rfl
    rw [F]
    obtain⟨e,i,Y,s,rfl,rfl,n,u,t,e0,aQ,aZ,o,p,q⟩:=IH f off kv ch cl (b::r).length pv pm c ax.length (aE X) (aE ax) ov a1 P O dty (λe i Y=>e=.normal/\i=fj/\∃n u t,Y.get 0=some (iq f kv (off+1) r.length (.aB 30 n 0 (if ax.length<65536 then ax++[b]else ax).length (if ax.length<65536 then ax++[b]else ax).length) ov dty)/\Y.get 1=some a1/\Y.get 2=some (b4 (aE X) 1 kv ch cl b')/\Y.get 3=some P/\Y.get 4=some O/\Y.get 30=some (b4 (aE (if ax.length<65536 then ax++[b]else ax)) 1 n u t b')) (by
     delta jY hc xR dy
     rw [rF d,gY,show off+0=off from rfl,CN d,xS d];have H:=gD ax;refine⟨λh=>⟨rfl,by rw [gD];simp only [bK];omega,⟨b::r,rfl⟩,λag=> ?_,λ_=>⟨λI=>⟨⟨A,h⟩,rfl,rfl,⟨rfl,A,A,A,A⟩,⟨A,A,Nat.le_refl _⟩,rfl,rfl,?_⟩,λG=>⟨⟨A,A,Nat.le_refl _⟩,rfl,rfl,?_⟩⟩⟩,λh=>by simp only [bK]at h;omega⟩
     .rw [show Array.toList #[(27:UInt8),91,50,48,49,126]=cm from rfl,m]at ag;cases ag
     .rw [az (show ax.length<65536 by omega),<-xT,dt];exact⟨_,_,_,rfl,rfl,rfl,rfl,rfl,rfl⟩
     .rw [ai (show ¬ax.length<65536 by omega)]
      exact⟨_,_,_,rfl,rfl,rfl,rfl,rfl,rfl⟩)
    have E:(if ax.length<65536 then ax++[b]else ax).length<=65536:=by
     split
     .rw [dt];simp only [bK,cq];omega
     .exact ae
    obtain⟨l,k,j,B⟩:=ih r _ (off+1) n u t A (CO d) A E;exact⟨l,k,j,b2.step (s.post (CR f kv ch cl X a1 P O ov dty aC aC x w v co e0 aQ aZ o p q)) B⟩
end
end Go.Proofs.zz
namespace Go.Keys
def IJ:∀(n:Nat)(k p:Bytes),∃t,k=t++(shift n k p).1
 |0,k,p=>⟨[],rfl⟩
 |n+1,[],p=>⟨[],rfl⟩
 |n +1,b::r,p=>by
  simp only [shift];split
  .exact⟨[],rfl⟩
  .obtain⟨t,a⟩:=IJ n r (if p.length<65536 then p++[b]else p);exact⟨b::t,by rw [hB,<-a]⟩
def CS:∀(n:Nat)(k p:Bytes),p≠[]->(shift n k p).2≠[]
 |0,k,p,h=>h
 |n+1,[],p,h=>h
 |n +1,b::r,p,h=>by
  simp only [shift];split
  .exact h
  .refine CS n r _ ?_;split
   .simp
   .exact h
end Go.Keys
namespace Go.Proofs.zz
open Go.br Go.Keys
section
variable(f kv ch cl:Nat)(X:Bytes)(a1 P O:aa)(ov:J)(dty:bw)
abbrev oA(off n:Nat):List (Nat×aa):=[(0,iq f kv off n (.slice none 0 0) ov dty),(1,a1),(2,b4 (aE X) 1 kv ch cl b'),(3,P),(4,O)]
def IK{K:Nat}(j:5<=K){h:T}{off n:Nat}(c:cu a1)(b:cu P)(a:cu O)(co:bR jZ ov)
 (e0:h.get 0=some (iq f kv off n (.slice none 0 0) ov dty)) (aQ:h.get 1=some a1) (aZ:h.get 2=some (b4 (aE X) 1 kv ch cl b')) (d:h.get 3=some P) (g:h.get 4=some O) :
 bW 5 80 fj h fj (T.rows K (oA f kv ch cl X a1 P O ov dty off n)):=by
 refine bW.drop (K:=K) (l:=oA f kv ch cl X a1 P O ov dty off n) (by simp [e0,aQ,aZ,d,g]) (by simp [iE];omega) rfl rfl (aX.cons (by show(0:Nat)∈_;simp) aX.nil) ?_;exact aX.cons (CM (by show(0:Nat)∈_;simp) (by show(1:Nat)∈_;simp) (by show(2:Nat)∈_;simp) trivial (CP co (by intro i ah;have:i=0\/i=1\/i=2\/i=3\/i=4:=ah;simp;omega))) (aX.cons (λe he=>(c e he).dj _) (aX.cons (λe he=>(js X e he).dj _) (aX.cons (λe he=>(b e he).dj _) (aX.cons (λe he=>(a e he).dj _) aX.nil))))
def Tq(l:cu a1)(k:cu P)(i:cu O)(co:bR jZ ov)(a:Nat)(ak:Bytes)(off:Nat)(t:ak.length<=a)(c:X.drop off=ak)(z:off<=X.length) :
 ((shift a ak []).2=[]->dd 5 80 (bu 129 0) fj (T.rows 5 (oA f kv ch cl X a1 P O ov dty off ak.length)) (.exit 0) fj (T.rows 40 (oA f kv ch cl X a1 P O ov dty (X.length- (shift a ak []).1.length) (shift a ak []).1.length))) /\
 ((shift a ak []).2≠[]-> ∃s q p,dd 5 80 (bu 129 0) fj (T.rows 5 (oA f kv ch cl X a1 P O ov dty off ak.length)) (.exit 0) fj (T.rows 40 (p4 f kv ch cl X a1 P O ov dty (X.length- (shift a ak []).1.length) (shift a ak []).1.length s q p (shift a ak []).2))):=by
 have x:=uu c z
 have fin:shift a ak []=(ak,[])->(ak≠[]->ak.isPrefixOf cm=true)->dd 5 80 (bu 129 0) fj (T.rows 5 (oA f kv ch cl X a1 P O ov dty off ak.length)) (.exit 0) fj (T.rows 40 (oA f kv ch cl X a1 P O ov dty (X.length- (shift a ak []).1.length) (shift a ak []).1.length)):=by
  intro hs ae
  obtain⟨e,d,Y,o,rfl,rfl,e0,aQ,aZ,m,n⟩:=IF f off kv ch cl ak.length (aE X) ov a1 P O dty (λe d Y=>e=.exit 0/\d=fj/\Y.get 0=some (iq f kv off ak.length (.slice none 0 0) ov dty)/\Y.get 1=some a1/\Y.get 2=some (b4 (aE X) 1 kv ch cl b')/\Y.get 3=some P/\Y.get 4=some O) (by
   delta hc xP dy
   rw [rF c,gY];refine⟨λh=>⟨rfl,by rw [gD];omega,⟨ak,rfl⟩,λ_=>⟨rfl,rfl,rfl,rfl,rfl,rfl,rfl⟩,λag=> ?_⟩,λ_=>⟨rfl,rfl,rfl,rfl,rfl,rfl,rfl⟩⟩;have y:ak≠[]:=by rintro rfl;simp at h
   have:=ae y;rw [show Array.toList #[(27:UInt8),91,50,48,49,126]=cm from rfl,this]at ag
   cases ag)
  rw [hs];simp only;rw [show X.length-ak.length=off by omega];exact(b2.last au o).post (IK f kv ch cl X a1 P O ov dty aC l k i co e0 aQ aZ m n)
 cases ak with
 |nil =>
  have hs:shift a [] []=([],[]):=uv _ _;exact⟨λ_=>fin hs (λh=>absurd rfl h),λh=>absurd (by rw [hs]) h⟩
 |cons b r =>
  cases a with
  |zero=>simp at t
  |succ a =>
   cases g:(b::r).isPrefixOf cm with
   |true =>
    have hs:shift (a+1) (b::r) []=(b::r,[]):=by simp only [shift,g,dG]
    exact⟨λ_=>fin hs (λ_=>g),λh=>absurd (by rw [hs]) h⟩
   |false =>
    have B:shift (a+1) (b::r) []=shift a r [b]:=by simp only [shift,g];rfl
    rw [B];simp only [bK]at x t;refine⟨λh=>absurd h (CS _ _ _ au),λ_=> ?_⟩
    obtain⟨e,d,Y,o,rfl,rfl,j,w,e0,aQ,aZ,m,n,u⟩:=IF f off kv ch cl (b::r).length (aE X) ov a1 P O dty (λe d Y=>e=.normal/\d=fj/\∃j,5<=j/\Y.get 0=some (iq f kv (off+1) r.length (.aB j 0 0 ([b]:Bytes).length ([b]:Bytes).length) ov dty)/\Y.get 1=some a1/\Y.get 2=some (b4 (aE X) 1 kv ch cl b')/\Y.get 3=some P/\Y.get 4=some O/\Y.get j=some (b4 (aE [b]) 1 0 0 0 b')) (by
     delta hc xP dy
     rw [rF c,gY,show off+0=off from rfl,CN c,xS c];refine⟨λh=>⟨rfl,by rw [gD];simp only [bK];omega,⟨b::r,rfl⟩,λag=> ?_,λ_=>⟨⟨A,h⟩,rfl,rfl,⟨A,A,Nat.le_refl _⟩,rfl,rfl,_, aC,rfl,rfl,rfl,rfl,rfl,rfl⟩⟩,λh=>by simp only [bK]at h;omega⟩;rw [show Array.toList #[(27:UInt8),91,50,48,49,126]=cm from rfl,g]at ag
     cases ag)
    obtain⟨s,q,p,v⟩:=Tp f kv ch cl X a1 P O ov dty l k i co a r [b] (off+1) 0 0 0 A (CO c) A au;exact⟨s,q,p,b2.step (o.post (CR f kv ch cl X a1 P O ov dty aC w l k i co e0 aQ aZ m n u)) v⟩
end
variable {N d i j k m n off q u:Nat}{ks:e6}{ty uty:bw}{pas:Bool}{pv v:J}
def lg{h:T}{f:Nat}{kv ov:J}{ay ak ax:Bytes}{j0 j1 j2 j3:Int}{D a1 K P O:aa}{es:List aP}{a:b3}{p:Nat}(c:Nat.ble 5 h.M=true)
 (e0:h.get 0=some (bJ 0 f 1 kv pv pas ov ty)) (aQ:h.get 1=some (bT ay j0 j1 j2 j3 uty)) (aZ:h.get 2=some K\/a.k=2) (q:h.get 3=some P\/a.p=3) (d:h.get 4=some O) (b:ht h 0 k kv ks ak) (ae:hb h 0 p pv ax)
 (s:hv (T.of [D,a1,K,P,O]) 0 a.o ov es) (g:a.u=1/\(a.k=0\/a.k=2)/\(a.p=0\/a.p=3)/\(a.o=0\/a.o=4)) (t:k=0\/(k=2/\a.k=2)\/5<=k) (v:p=0\/(p=3/\a.p=3)\/5<=p) (r:k=0\/p=0\/k≠p) (l:Nat.blt k h.M=true) (m:Nat.blt p h.M=true) :
 dr h 0 ⟨1,k,p,a.o⟩ f pas ks ak ay ax es/\Fr (T.of [D,a1,K,P,O]) h 0 a ⟨1,k,p,a.o⟩ where
 left:= {
  ex:=by
   refine⟨kv,pv,ov,ty,e0,b,ae,s.keep λaw=> ?_⟩;rcases g.2.2.2 with h|h
   .exact absurd h aw
   .rw [h,d,T.dI];rfl
  hX:=⟨j0,j1,j2,j3,uty,aQ⟩
  lt:=by have:=g.2.2.2;have c:=hU c;have l:=eG.mp l;have m:=eG.mp m;show 0<h.M/\1<h.M/\k<h.M/\p<h.M/\a.o<h.M;omega
  ne:=r}
 right := {
  M:=hU c
  get :=λj i w n2 y z B=>by
   have i:j<5:=i;have:(j=2/\a.k≠2)\/(j=3/\a.p≠3)\/j=4:= A;rw [T.dI];rcases this with ⟨rfl,b⟩|⟨rfl,b⟩|rfl
   .rcases aZ with e|e
    .exact e
    .exact absurd e b
   .rcases q with e|e
    .exact e
    .exact absurd e b
   .exact d
  ids:=λx n=>by
   show x=0\/x=a.u\/x=a.k\/x=a.p\/x=a.o\/5<=x;have n:x=1\/x=k\/x=p\/x=a.o:=n
   omega}
def uw(h:T):hb h 0 0 (.slice none 0 0) []:= .inl ⟨rfl,rfl,rfl⟩
def rH{h:T}{p ad f:Nat}{l:Bytes}(ae:p≠0)(a:l≠[])(b:v=.aB p ad 0 l.length l.length)(e:h.get p=some (b4 (aE l) 1 ad m f b')):hb h 0 p v l :=
 .inr ⟨ae,a,ad,m,f,b,by simpa using e⟩
def lh{h:T}{ad f:Nat}{X junk l:Bytes}(b:k≠0)(a:X=junk++l)(c:off=junk.length)(aw:n=l.length)(e:h.get k=some (b4 (aE X) 1 ad m f b')):ht h 0 k (.aB k ad off n n) (.grown junk) l:=by subst aw;subst c;subst a;exact⟨b,ad,m,f,rfl,e⟩
def Tr{ak ax:Bytes}{c:UInt8}{S:Bytes×Bytes}(a:shift (ak.length+1) (ak++[c]) ax=S):Keys.cD ⟨.cD,ak,[],ax⟩ c=if S.1.length=6 then(⟨.ground,[],[],[]⟩,[{kind:=4,text:=S.2}])else(⟨.cD,S.1,[],S.2⟩,[]):=by unfold Keys.cD;simp only [a];rfl
def ux(s:bI)(c:UInt8):Prop:=s.nx=.cD/\s.ay=[]/\s.ak.length<6/\s.ax.length<=65536
def Ts{h:T}{o:Nat}{ov:J}{es:List aP}(Y:hv h 0 o ov es)(a:o=0\/o=4):bR jZ ov:=by
 rcases Y with ⟨rfl,_⟩|⟨_,_,ad,m,f,rfl,_⟩
 .trivial
 .show jZ o;unfold jZ;omega
abbrev CT(L:T)(a:b3)(es:List aP)(R:bI×List aP)(v:J)(Z:T):Prop:=v=.tuple []/\∃aH,b1 Z 0 aH R.1 (es++R.2)/\Fr L Z 0 a aH
def IL(a b c d e:aa):T.rows 40 [(0,a),(1,b),(2,c),(3,d),(4,e)]=T.bO 40 [(0,a),(1,b),(2,c),(3,d),(4,e)]:= ao
def Tt(a b c d e f:aa):T.rows 40 [(0,a),(1,b),(2,c),(3,d),(4,e),(30,f)]=T.bO 40 [(0,a),(1,b),(2,c),(3,d),(4,e),(30,f)]:= ao
variable {I:b3}
def oB{h L:T}{a:b3}{k p:Bytes}{es:List aP}{R:bI×List aP}(b:dr h 0 I (b9 .cD) true ks k [] p es/\Fr L h 0 a I)(d:mQ .cD ks k)(c:R=(⟨.cD,k,[],p⟩,[])):CT L a es R (.tuple []) h:=by subst c;exact⟨rfl,I,by rw [gy];exact⟨ks,b.1,d⟩,b.2⟩
def CU{h L:T}{a:b3}{k t:Bytes}{es:List aP}{R:bI×List aP}{ca:J}(c:Nat.ble 5 h.M=true)(b:dr h 0 I (b9 .cD) false ks k [] [] es/\Fr L h 0 a I)(he:ca=bp {kind:=4,text:=t})(e:es.length<2^30)(d:R=(⟨.ground,[],[],[]⟩,[{kind:=4,text:=t}])) :
 cJ h ⟨0,0,0,0,6⟩ ca/\∀Z,cK h ⟨0,0,0,0,6⟩ ca Z->_root_.cond (Nat.ble 5 Z.M) (CT L a es R (.tuple []) Z) False:=by
 subst d;exact pS rfl (hU c) b he e au λZ aH g cd=>⟨rfl,aH,tE g,cd⟩
def Tu{H:T}{s:bI}{es:List aP}{c:UInt8}(g:b1 H d I s es)(fd:es.length<2^30-8)(d2:ux s c):∃H',be 129 [.ptr (some ⟨d,0,0,0,6⟩),.ac c.toNat] H (.tuple []) H' /\
 ∃aH,b1 H' d aH (Keys.cD s c).1 (es++(Keys.cD s c).2)/\Fr H H' d I aH:=by
 obtain⟨ks,g,hs⟩:=g;refine g.GA (Q:=λh d I=>b1 h d I (Keys.cD s c).1 (es++(Keys.cD s c).2)) (λa d3=>by rw [cF.1 d3];exact b0.int _ _) (b0.of rfl) (λZ H' r d I d9 d6 d0 q=>q.lU d9 d6 d0) ?_;intro kv pv ov ty uty j0 j1 j2 j3 K P O R gs j eq U S;obtain⟨a5,ae,e⟩:=kw gs;obtain⟨nx,ak,ay,ax⟩:=s;obtain⟨Y,ag,d8,d1⟩:=d2;simp only at Y ag d8 d1 hs gs a5 ae e⊢;subst Y ag;simp only [show decide (h1.cD=h1.cD)=true from rfl]at ae e a5 gs⊢;have co:=Ts e j.2.2.2;have W:cu (bT [] j0 j1 j2 j3 uty):=tn _ _ _ _ _ _;have e0:=c.toNat_lt;cases n:shift (ak.length+1) (ak++[c]) ax with
 |mk f b =>
 have y:=Tr n
 suffices d5:∃v Z,be 129 [.ptr (some ⟨0,0,0,0,6⟩),.ac c.toNat] (T.of [bJ 0 (b9 .cD) 1 kv pv true ov ty,bT [] j0 j1 j2 j3 uty,K,P,O]) v Z /\
  CT (T.of [bJ 0 (b9 .cD) 1 kv pv true ov ty,bT [] j0 j1 j2 j3 uty,K,P,O]) R es (Keys.cD ⟨.cD,ak,[],ax⟩ c) v Z by
  obtain⟨v,Z,d4,rfl,q⟩:=d5;exact⟨Z,d4,q⟩
 cases ks with
 |one=>exact hs.elim
 |nil =>
  obtain⟨rfl,rfl,d7⟩:=a5;have aQ:UInt8.ofNat (Int.toNat (c.toNat:Int))=c:= au;have em:shift 1 [c] ax=if [c].isPrefixOf cm then([c],ax)else([],if ax.length<65536 then ax++[c]else ax):=by simp only [shift]
  have n:shift 1 [c] ax=(f,b):=n;rw [em]at n;have pre: [c].isPrefixOf cm=true->f=[c]/\b=ax:=λu=>by rw [u]at n;simpa [eq_comm]using n
  have c2: [c].isPrefixOf cm=false->f=[]/\b=if ax.length<65536 then ax++[c]else ax:=λu=>by rw [u]at n;simpa [eq_comm]using n
  rcases ae with ⟨rfl,rfl,L⟩|⟨L,a9,N⟩
  .refine Tm (b9 .cD) c.toNat ov (bT [] j0 j1 j2 j3 uty) K P O ty _ ?_
   delta dy
   rw [aQ,show Array.toList #[(27:UInt8),91,50,48,49,126]=cm from rfl];refine⟨λu=> ?_,λu=> ?_⟩
   .obtain⟨rfl,rfl⟩:=pre u;exact oB (lg (k:=12) (p:=0) rfl rfl rfl (.inl rfl) (.inl rfl) rfl (lh (junk:=[]) (X:=[c]) aC rfl rfl rfl rfl) (uw _) e j (.inr (.inr aC)) (.inl rfl) (.inr (.inl rfl)) rfl rfl) trivial y
   .obtain⟨rfl,rfl⟩:=c2 u;exact oB (lg (k:=12) (p:=49) rfl rfl rfl (.inl rfl) (.inl rfl) rfl (lh (junk:=[c]) (X:=[c]) aC rfl rfl rfl rfl) (rH (l:=[c]) aC au rfl rfl) e j (.inr (.inr aC)) (.inr (.inr aC)) (.inr (.inr aC)) rfl rfl) trivial y
  .have o:R.p=3:= A;rw [o]at L N;obtain⟨C,pm,G,rfl,z⟩:=N;rw [T.dI]at z;simp only [fR,hj,a8,eQ,cq]at z;subst z;refine Tn (b9 .cD) C pm G ax.length (aE ax) c.toNat ov (bT [] j0 j1 j2 j3 uty) K O ty _ ?_
   delta jY dy
   rw [aQ,show Array.toList #[(27:UInt8),91,50,48,49,126]=cm from rfl];have D:=gD ax;refine⟨λu=> ?_,λu=>⟨λd0=>⟨⟨rfl,A,A,A,A⟩,?_⟩,λfn=> ?_⟩⟩
   .obtain⟨rfl,rfl⟩:=pre u;exact oB (lg (k:=12) (p:=3) rfl rfl rfl (.inl rfl) (.inr o) rfl (lh (junk:=[]) (X:=[c]) aC rfl rfl rfl rfl) (rH aC a9 rfl rfl) e j (.inr (.inr aC)) (.inr (.inl ⟨rfl,o⟩)) (.inr (.inr aC)) rfl rfl) trivial y
   .obtain⟨rfl,rfl⟩:=c2 u;rw [az (show ax.length<65536 by omega)]at y;exact oB (lg (k:=12) (p:=3) rfl rfl rfl (.inl rfl) (.inr o) rfl (lh (junk:=[c]) (X:=[c]) aC rfl rfl rfl rfl) (rH (l:=ax++[c]) aC au (by rw [dt];rfl) (by rw [<-xT];rfl)) e j (.inr (.inr aC)) (.inr (.inl ⟨rfl,o⟩)) (.inr (.inr aC)) rfl rfl) trivial y
   .obtain⟨rfl,rfl⟩:=c2 u;rw [ai (show ¬ax.length<65536 by omega)]at y;exact oB (lg (k:=12) (p:=3) rfl rfl rfl (.inl rfl) (.inr o) rfl (lh (junk:=[c]) (X:=[c]) aC rfl rfl rfl rfl) (rH aC a9 rfl rfl) e j (.inr (.inr aC)) (.inr (.inl ⟨rfl,o⟩)) (.inr (.inr aC)) rfl rfl) trivial y
 |grown junk =>
  obtain⟨d7,ad,m,w,rfl,bv⟩:=a5;have i:R.k=2:= A;rw [i,T.dI]at bv;simp only [fR,hj,a8]at bv;subst bv;rw [i]at ae e⊢;have am:aE (junk++ak)++[J.ac (c.toNat:Int)]=aE (junk++(ak++[c])):=by rw [xT,jb]
  generalize ce:junk++(ak++[c])=X at am;have dg:X.drop junk.length=ak++[c]:=by rw [<-ce];simp
  have ex:X.length=junk.length+ak.length+1:=by rw [<-ce];simp;omega
  have cs:(ak++[c]).length=ak.length+1:= au;have fs:(aE (junk++ak)).length=junk.length+ak.length:=by rw [gD,dt]
  obtain⟨t,ct⟩:=IJ (ak.length+1) (ak++[c]) ax;rw [n]at ct;simp only at ct;have B:X=(junk++t)++f:=by rw [<-ce,ct,jb]
  have E:X.length-f.length=(junk++t).length:=by rw [B];simp only [dt];omega
  have bn:ad=ad/\junk.length+ak.length=(aE (junk++ak)).length/\ak.length<ak.length+1/\(ak.length+1+(ak.length+1)/4+512)*1<=281474976710656/\ak.length+1<4611686018427387904:=⟨rfl,A,A,A,A⟩
  have m6:(f.length:Int)=6->Keys.cD ⟨.cD,ak,[],ax⟩ c=(⟨.ground,[],[],[]⟩,[{kind:=4,text:=b}]):=λh=>by rw [y,az (show f.length=6 by omega)]
  have m7:¬(f.length:Int)=6->Keys.cD ⟨.cD,ak,[],ax⟩ c=(⟨.cD,f,[],b⟩,[]):=λh=>by rw [y,ai (show ¬f.length=6 by omega)]
  rcases ae with ⟨rfl,rfl,L⟩|⟨L,a9,N⟩
  ·
    obtain⟨c0,l2⟩:=Tq (b9 .cD) (ad+1) m (if m=ad then(aE (junk++ak)).length else min w (aE (junk++ak)).length) X (bT [] j0 j1 j2 j3 uty) P O ov ty W U S co (ak.length+1) (ak++[c]) junk.length A dg A;rw [n]at c0 l2;simp only at c0 l2
    have c9:∀h:T,h.get 0=some (iq (b9 .cD) (ad+1) junk.length (ak++[c]).length (.slice none 0 0) ov ty)->h.get 1=some (bT [] j0 j1 j2 j3 uty)->h.get 2=some (b4 (aE X) 1 (ad+1) m (if m=ad then(aE (junk++ak)).length else min w (aE (junk++ak)).length) b')->h.get 3=some P->h.get 4=some O->bW 5 80 fj h fj (T.rows 5 (oA (b9 .cD) (ad+1) m (if m=ad then(aE (junk++ak)).length else min w (aE (junk++ak)).length) X (bT [] j0 j1 j2 j3 uty) P O ov ty junk.length (ak++[c]).length)) :=
     λh a0 aq a2 a3 a4=>IK _ _ _ _ _ _ _ _ _ _ (Nat.le_refl _) W U S co a0 aq a2 a3 a4
    by_cases F:b=[]
    .have x:=c0 F;rw [IL]at x;subst F;refine Tj (b9 .cD) junk.length ad m w ak.length (ad+1) m (if m=ad then(aE (junk++ak)).length else min w (aE (junk++ak)).length) (X.length-f.length) f.length (aE (junk++ak)) (aE X) c.toNat (.slice none 0 0) ov (bT [] j0 j1 j2 j3 uty) P P O ty _ ?_
     delta kD dy CL mV
     refine⟨bn,?_,λh=> ?_,λh=> ?_⟩
     .rw [am,<-cs];exact cO.dn (x.pre (c9 _ rfl rfl rfl rfl rfl))
     .rw [m6 h];exact CU rfl (lg (k:=2) (p:=0) rfl rfl rfl (.inr i) (.inl rfl) rfl (lh aC B E rfl rfl) (uw _) e j (.inr (.inl ⟨rfl,i⟩)) (.inl rfl) (.inr (.inl rfl)) rfl rfl) rfl A rfl
     .rw [m7 h];exact oB (lg (k:=2) (p:=0) rfl rfl rfl (.inr i) (.inl rfl) rfl (lh aC B E rfl rfl) (uw _) e j (.inr (.inl ⟨rfl,i⟩)) (.inl rfl) (.inr (.inl rfl)) rfl rfl) trivial rfl
    .obtain⟨c5,c4,c3,x⟩:=l2 F;rw [Tt]at x;have D:=gD b;have el:List.take b.length (List.drop 0 (aE b))=aE b:=by rw [lz,<-D,kj]
     have bs:List.take b.length (aE b)=aE b:=by rw [<-D,kj]
     refine Tl (b9 .cD) junk.length ad m w ak.length (ad+1) m (if m=ad then(aE (junk++ak)).length else min w (aE (junk++ak)).length) (X.length-f.length) f.length c5 c4 c3 b.length (aE (junk++ak)) (aE X) (aE b) c.toNat (.slice none 0 0) ov (bT [] j0 j1 j2 j3 uty) P P O ty _ ?_
     delta l0 kD dy rE mV
     refine⟨bn,?_,λh=>⟨rfl,A,⟨b,el⟩,?_⟩,λh=> ?_⟩
     .rw [am,<-cs];exact cO.dn (x.pre (c9 _ rfl rfl rfl rfl rfl))
     .rw [m6 h,bs,gY];exact CU rfl (lg (k:=2) (p:=0) rfl rfl rfl (.inr i) (.inl rfl) rfl (lh aC B E rfl rfl) (uw _) e j (.inr (.inl ⟨rfl,i⟩)) (.inl rfl) (.inr (.inl rfl)) rfl rfl) rfl A rfl
     .rw [m7 h];exact oB (lg (k:=2) (p:=30) rfl rfl rfl (.inr i) (.inl rfl) rfl (lh aC B E rfl rfl) (rH aC F rfl rfl) e j (.inr (.inl ⟨rfl,i⟩)) (.inr (.inr aC)) (.inr (.inr aC)) rfl rfl) trivial rfl
  .have o:R.p=3:= A;rw [o]at L N;obtain⟨C,pm,G,rfl,z⟩:=N;rw [T.dI]at z;simp only [fR,hj,a8,eQ,cq]at z;subst z;simp only [cq]at e⊢
   have F:b≠[]:=by have:=CS (ak.length+1) (ak++[c]) ax a9;rw [n]at this;exact this
   obtain⟨c5,c4,c3,x⟩:=To (b9 .cD) (ad+1) m (if m=ad then(aE (junk++ak)).length else min w (aE (junk++ak)).length) X (bT [] j0 j1 j2 j3 uty) (b4 (aE ax) 1 C pm G b') O ov ty W U S co (ak.length+1) (ak++[c]) ax junk.length C pm G A dg A d1;rw [n]at x;simp only at x;rw [IL]at x;have D:=gD b;have el:List.take b.length (List.drop 0 (aE b))=aE b:=by rw [lz,<-D,kj]
   have bs:List.take b.length (aE b)=aE b:=by rw [<-D,kj]
   refine Tk (b9 .cD) junk.length ad m w ak.length (ad+1) m (if m=ad then(aE (junk++ak)).length else min w (aE (junk++ak)).length) (X.length-f.length) f.length c5 c4 c3 b.length (aE (junk++ak)) (aE X) (aE b) c.toNat (.aB 3 C 0 ax.length ax.length) ov (bT [] j0 j1 j2 j3 uty) (b4 (aE ax) 1 C pm G b') O ty _ ?_
   delta l0 kD dy rE mV
   refine⟨bn,?_,λh=>⟨rfl,A,⟨b,el⟩,?_⟩,λh=> ?_⟩
   .rw [am,<-cs];exact cO.dn (x.pre (CQ _ _ _ _ _ _ (b4 (aE ax) 1 C pm G b') _ _ _ (Nat.le_refl _) rfl W U S co rfl rfl rfl rfl rfl rfl))
   .rw [m6 h,bs,gY];exact CU rfl (lg (k:=2) (p:=0) rfl rfl rfl (.inr i) (.inr o) rfl (lh aC B E rfl rfl) (uw _) e j (.inr (.inl ⟨rfl,i⟩)) (.inl rfl) (.inr (.inl rfl)) rfl rfl) rfl A rfl
   .rw [m7 h];exact oB (lg (k:=2) (p:=3) rfl rfl rfl (.inr i) (.inr o) rfl (lh aC B E rfl rfl) (rH aC F rfl rfl) e j (.inr (.inl ⟨rfl,i⟩)) (.inr (.inl ⟨rfl,o⟩)) (.inr (.inr aC)) rfl rfl) trivial rfl
def Tv:∀args h a,hN (2^30-8) ux Keys.cD args h=some a->a.cG Tryz.prog cz 129 args h:=om λH d I s es c g e f b=>Tu g e b
noncomputable def Tw:dQ:=((Iy.add 87 (hN (2^30-8) us Keys.sequence)).add 129 (hN (2^30-8) ux Keys.cD))
def oC:dC Tryz.prog cz Tw:=(Iz.add Tg).add Tv
abbrev kE(a:T):T:=(T.mk (a.M+4+6) (T.aF (T.mk (a.M+1+3) (T.aF (T.mk (a.M+1) (T.aF a))))))
def IM(a:T)(f d j h g c m b i:Nat)(k:b8->bc->T->Prop)(o:aY f (a.M) (((b:Int)<(c:Int)->aY f (a.M+1) ((0<=(b:Int)/\(b:Int)<(c:Int))/\a6 env.D 5 ⟨j,h,g+(b:Int).toNat,0,1⟩ (bf a 4)=some (.ac i)/\aY f (a.M+4) (a6 env.D 66 ⟨d,0,0,0,6⟩ (bf a 10)=some (.func (.func 30) [J.aT d] [])/\dA (2^30-4) kx (kE a) ⟨d,0,0,0,6⟩ (i:Int)/\∀(l:T),dB ground (kE a) ⟨d,0,0,0,6⟩ (i:Int) l->aY f (l.M) ((bd ((b:Int)+1))/\k .normal [(0,J.aT d),(13,.aB j h g c m),(14,.V c),(15,.V ((b:Int)+1))] (bf l 2)))))/\(¬(b:Int)<(c:Int)->k (.exit 0) [(0,J.aT d),(13,.aB j h g c m),(14,.V c),(15,.V b)] (bf a 1)))) :
 ∃e n Y,bN f 34 (bu 26 0) [(0,J.aT d),(13,.aB j h g c m),(14,.V c),(15,.V b)] a e n Y/\k e n Y :=
 dD c6 mixed oC (hs:= .al 5000 (ab 6000 (ap 6001 (.ac i) (ap 7003 (.func (.func 30) [J.aT d] []) (ab 8000 .nil)))) .nil) (keep:=[0,13,14,15]) ao o
def Tx(a:T)(f d j h g c m b i:Nat)(k:b8->bc->T->Prop)(o:aY f (a.M) (((b:Int)<(c:Int)->aY f (a.M+1) ((0<=(b:Int)/\(b:Int)<(c:Int))/\a6 env.D 5 ⟨j,h,g+(b:Int).toNat,0,1⟩ (bf a 4)=some (.ac i)/\aY f (a.M+4) (a6 env.D 66 ⟨d,0,0,0,6⟩ (bf a 10)=some (.func (.func 59) [J.aT d] [])/\dA (2^30-8) tK (kE a) ⟨d,0,0,0,6⟩ (i:Int)/\∀(l:T),dB cQ (kE a) ⟨d,0,0,0,6⟩ (i:Int) l->aY f (l.M) ((bd ((b:Int)+1))/\k .normal [(0,J.aT d),(13,.aB j h g c m),(14,.V c),(15,.V ((b:Int)+1))] (bf l 2)))))/\(¬(b:Int)<(c:Int)->k (.exit 0) [(0,J.aT d),(13,.aB j h g c m),(14,.V c),(15,.V b)] (bf a 1)))) :
 ∃e n Y,bN f 34 (bu 26 0) [(0,J.aT d),(13,.aB j h g c m),(14,.V c),(15,.V b)] a e n Y/\k e n Y :=
 dD c6 mixed oC (hs:= .al 5000 (ab 6000 (ap 6001 (.ac i) (ap 7003 (.func (.func 59) [J.aT d] []) (ab 8000 .nil)))) .nil) (keep:=[0,13,14,15]) ao o
def Ty(a:T)(f d j h g c m b i:Nat)(k:b8->bc->T->Prop)(o:aY f (a.M) (((b:Int)<(c:Int)->aY f (a.M+1) ((0<=(b:Int)/\(b:Int)<(c:Int))/\a6 env.D 5 ⟨j,h,g+(b:Int).toNat,0,1⟩ (bf a 4)=some (.ac i)/\aY f (a.M+4) (a6 env.D 66 ⟨d,0,0,0,6⟩ (bf a 10)=some (.func (.func 90) [J.aT d] [])/\dA (2^30-8) tV (kE a) ⟨d,0,0,0,6⟩ (i:Int)/\∀(l:T),dB cp (kE a) ⟨d,0,0,0,6⟩ (i:Int) l->aY f (l.M) ((bd ((b:Int)+1))/\k .normal [(0,J.aT d),(13,.aB j h g c m),(14,.V c),(15,.V ((b:Int)+1))] (bf l 2)))))/\(¬(b:Int)<(c:Int)->k (.exit 0) [(0,J.aT d),(13,.aB j h g c m),(14,.V c),(15,.V b)] (bf a 1)))) :
 ∃e n Y,bN f 34 (bu 26 0) [(0,J.aT d),(13,.aB j h g c m),(14,.V c),(15,.V b)] a e n Y/\k e n Y :=
 dD c6 mixed oC (hs:= .al 5000 (ab 6000 (ap 6001 (.ac i) (ap 7003 (.func (.func 90) [J.aT d] []) (ab 8000 .nil)))) .nil) (keep:=[0,13,14,15]) ao o
def Tz(a:T)(f d j h g c m b i:Nat)(k:b8->bc->T->Prop)(o:aY f (a.M) (((b:Int)<(c:Int)->aY f (a.M+1) ((0<=(b:Int)/\(b:Int)<(c:Int))/\a6 env.D 5 ⟨j,h,g+(b:Int).toNat,0,1⟩ (bf a 4)=some (.ac i)/\aY f (a.M+4) (a6 env.D 66 ⟨d,0,0,0,6⟩ (bf a 10)=some (.func (.func 87) [J.aT d] [])/\dA (2^30-8) us (kE a) ⟨d,0,0,0,6⟩ (i:Int)/\∀(l:T),dB sequence (kE a) ⟨d,0,0,0,6⟩ (i:Int) l->aY f (l.M) ((bd ((b:Int)+1))/\k .normal [(0,J.aT d),(13,.aB j h g c m),(14,.V c),(15,.V ((b:Int)+1))] (bf l 2)))))/\(¬(b:Int)<(c:Int)->k (.exit 0) [(0,J.aT d),(13,.aB j h g c m),(14,.V c),(15,.V b)] (bf a 1)))) :
 ∃e n Y,bN f 34 (bu 26 0) [(0,J.aT d),(13,.aB j h g c m),(14,.V c),(15,.V b)] a e n Y/\k e n Y :=
 dD c6 mixed oC (hs:= .al 5000 (ab 6000 (ap 6001 (.ac i) (ap 7003 (.func (.func 87) [J.aT d] []) (ab 8000 .nil)))) .nil) (keep:=[0,13,14,15]) ao o
def TA(a:T)(f d j h g c m b i:Nat)(k:b8->bc->T->Prop)(o:aY f (a.M) (((b:Int)<(c:Int)->aY f (a.M+1) ((0<=(b:Int)/\(b:Int)<(c:Int))/\a6 env.D 5 ⟨j,h,g+(b:Int).toNat,0,1⟩ (bf a 4)=some (.ac i)/\aY f (a.M+4) (a6 env.D 66 ⟨d,0,0,0,6⟩ (bf a 10)=some (.func (.func 88) [J.aT d] [])/\dA (2^30-8) singleR (kE a) ⟨d,0,0,0,6⟩ (i:Int)/\∀(l:T),dB single (kE a) ⟨d,0,0,0,6⟩ (i:Int) l->aY f (l.M) ((bd ((b:Int)+1))/\k .normal [(0,J.aT d),(13,.aB j h g c m),(14,.V c),(15,.V ((b:Int)+1))] (bf l 2)))))/\(¬(b:Int)<(c:Int)->k (.exit 0) [(0,J.aT d),(13,.aB j h g c m),(14,.V c),(15,.V b)] (bf a 1)))) :
 ∃e n Y,bN f 34 (bu 26 0) [(0,J.aT d),(13,.aB j h g c m),(14,.V c),(15,.V b)] a e n Y/\k e n Y :=
 dD c6 mixed oC (hs:= .al 5000 (ab 6000 (ap 6001 (.ac i) (ap 7003 (.func (.func 88) [J.aT d] []) (ab 8000 .nil)))) .nil) (keep:=[0,13,14,15]) ao o
def TB(a:T)(f d j h g c m b i:Nat)(k:b8->bc->T->Prop)(o:aY f (a.M) (((b:Int)<(c:Int)->aY f (a.M+1) ((0<=(b:Int)/\(b:Int)<(c:Int))/\a6 env.D 5 ⟨j,h,g+(b:Int).toNat,0,1⟩ (bf a 4)=some (.ac i)/\aY f (a.M+4) (a6 env.D 66 ⟨d,0,0,0,6⟩ (bf a 10)=some (.func (.func 129) [J.aT d] [])/\dA (2^30-8) ux (kE a) ⟨d,0,0,0,6⟩ (i:Int)/\∀(l:T),dB cD (kE a) ⟨d,0,0,0,6⟩ (i:Int) l->aY f (l.M) ((bd ((b:Int)+1))/\k .normal [(0,J.aT d),(13,.aB j h g c m),(14,.V c),(15,.V ((b:Int)+1))] (bf l 2)))))/\(¬(b:Int)<(c:Int)->k (.exit 0) [(0,J.aT d),(13,.aB j h g c m),(14,.V c),(15,.V b)] (bf a 1)))) :
 ∃e n Y,bN f 34 (bu 26 0) [(0,J.aT d),(13,.aB j h g c m),(14,.V c),(15,.V b)] a e n Y/\k e n Y :=
 dD c6 mixed oC (hs:= .al 5000 (ab 6000 (ap 6001 (.ac i) (ap 7003 (.func (.func 129) [J.aT d] []) (ab 8000 .nil)))) .nil) (keep:=[0,13,14,15]) ao o
def TC(a:T)(b g:Nat)(f:J)(d:b8->bc->T->Prop)(h:aY b (a.M) (d (.exit 0) [(0,J.aT g),(13,f),(14,.V 0),(15,.V 0)] (bf a 1))) :
 ∃e c Y,bN b 34 (bu 26 0) [(0,J.aT g),(13,f),(14,.V 0),(15,.V 0)] a e c Y/\d e c Y :=
 dD c6 mixed oC (hs:= .nil) (keep:=[0,13,14,15]) ao h
def TD(a f b e:T)(c d g:Nat)(h:Option bB)(i k:J)(j:aU)(l:aY (a.M) (a.M) (aY (a.M) (a.M+1) (aY (a.M) (a.M+3) (bt env cr (a.M+6) (ba [(12,.ptr (some ⟨c,0,0,5,6⟩))]) (bf a 7) (Op.store 56 (Operand.tmp 12) (Operand.const (Value.slice none 0 0)))=some (J.tuple [],f)/\aY (a.M) (f.M) (bN (a.M) 34 (Code.loop (bu 26 0)) [(0,J.aT c),(13,.slice h d g),(14,.V d),(15,.V 0)] (bf f 3) (.exit 0) [(0,J.aT c),(13,.slice h d g),(14,.V d),(15,k)] b/\aY (a.M) (b.M) (a6 env.D 56 ⟨c,0,0,5,6⟩ (bf b 5)=some i/\aY (a.M) (b.M+5) (bt env cr (b.M+8) (ba [(32,.ptr (some ⟨c,0,0,5,6⟩))]) (bf b 9) (Op.store 56 (Operand.tmp 32) (Operand.const (Value.slice none 0 0)))=some (J.tuple [],e)/\aY (a.M) (e.M) (cc (a.M) (e.M+2) (j i (bf e 2)))))))))) :
 bl 26 [J.aT c,.slice h d g] a j :=
 bm oC (.aG (.act 3003 .bZ λx=>f)<|.aG (.keep [0,13,14,15])<|.aG (.loop [(0,J.aT c),(13,.slice h d g),(14,.V d),(15,k)] b (.exit 0))<|ap 9003 i<|.aG (.act 10003 .bZ λx=>e) .nil) l
def TE{h:T}{f:Nat}{kv ov:J}(e:h.get d=some (bJ d f u kv pv pas ov ty)):a6 (bi.D env) 66 ⟨d,0,0,0,6⟩ h=some (.func (.func f) [.ptr (some ⟨d,0,0,0,6⟩)] []):=by have a:(bi.D env 66).map (λd=>d.kind.isAgg)=some false:= ao;obtain⟨x,Y,ag⟩:=cb.1 a;unfold a6;rw [Y,e];simp [aa.elem?,aa.b6,eK,ag,aa.an]
def TF{h:T}{f:Nat}{kv ov:J}(e:h.get d=some (bJ d f u kv pv pas ov ty)):a6 (bi.D env) 56 ⟨d,0,0,5,6⟩ h=some ov:=by have a:(bi.D env 56).map (λd=>d.kind.isAgg)=some false:= ao;obtain⟨x,Y,ag⟩:=cb.1 a;unfold a6;rw [Y,e];simp [aa.elem?,aa.b6,eK,ag,aa.an]
def IN{h:T}{f:Nat}{kv ov:J}(e:h.get d=some (bJ d f u kv pv pas ov ty)):gz (bi.D env) 56 ⟨d,0,0,5,6⟩ (.slice none 0 0) h=some (h.set d (bJ d f u kv pv pas (.slice none 0 0) ty)):=by have a:(bi.D env 56).map (λd=>(d.kind.isAgg,d.size))=some (false,1):= ao;obtain⟨x,Y,ag⟩:=cb.1 a;simp only [bC]at ag;unfold gz;rw [Y,e];simp [J.fits,ag.1,ag.2,aa.an,nN,J.cells,gW]
def TG{h:T}{v:Nat}{b:aa}{c:Int}(e:h.get q=some b)(he:b.elem? v i=some (.ac c)):a6 (bi.D env) 5 ⟨q,v,i,0,1⟩ h=some (.ac c):=by have a:(bi.D env 5).map (λd=>d.kind.isAgg)=some false:= ao;obtain⟨x,Y,ag⟩:=cb.1 a;unfold a6;rw [Y,e];simp only [he,eK,ag,ey,ez,dG]
structure oD(H:T)(q bv ck:Nat)(bs:Bytes):Prop where
 ex:∃b,H.get q=some b/\∀(j:Nat)(h:j<bs.length),b.elem? bv (ck+j)=some (.int .u8 bs[j].toNat)
variable {bs:Bytes}{H' H1:T}
def oD.keep{H:T}{bv ck:Nat}(h:oD H q bv ck bs)(e:H'.get q=H.get q):oD H' q bv ck bs:=by obtain⟨b,Y,ag⟩:=h.ex;exact⟨b,by rw [e];exact Y,ag⟩
structure li(q d:Nat)(I:b3):Prop where
 d:q≠d
 u:q≠I.u
 k:q≠I.k
 p:q≠I.p
 o:q≠I.o
def li.cd{h Z:T}{aH:b3}(o:li q d I)(cd:Fr h Z d I aH)(a:q<h.M):li q d aH where
 d:=o.d
 u e:=by have:=cd.ids q (.inl e);have:=o.d;have:=o.u;have:=o.k;have:=o.p;have:=o.o;omega
 k e:=by have:=cd.ids q (.inr (.inl e));have:=o.d;have:=o.u;have:=o.k;have:=o.p;have:=o.o;omega
 p e:=by have:=cd.ids q (.inr (.inr (.inl e)));have:=o.d;have:=o.u;have:=o.k;have:=o.p;have:=o.o;omega
 o e:=by have:=cd.ids q (.inr (.inr (.inr e)));have:=o.d;have:=o.u;have:=o.k;have:=o.p;have:=o.o;omega
def li.get{h Z:T}{aH:b3}(o:li q d I)(cd:Fr h Z d I aH)(a:q<h.M):Z.get q=h.get q:=cd.get q a o.d o.u o.k o.p o.o
def p5{h:T}{s:bI}{es:List aP}(g:b1 h d I s es):b1 ⟨h.M+k,h.aF⟩ d I s es:=by obtain⟨ks,g,hs⟩:=g;refine⟨ks,⟨g.ex,g.hX,?_,g.ne⟩,hs⟩;have:=g.lt;show d<h.M+k/\I.u<h.M+k/\I.k<h.M+k/\I.p<h.M+k/\I.o<h.M+k;omega
def IP{h Z:T}{aH:b3}(cd:Fr h Z d I aH):Fr h ⟨Z.M+k,Z.aF⟩ d I aH where
 M:=by have:=cd.M;show h.M<=Z.M+k;omega
 get:=cd.get
 ids:=cd.ids
def IQ{h Z:T}{aH:b3}(cd:Fr ⟨h.M+k,h.aF⟩ Z d I aH):Fr h Z d I aH where
 M:=by have:h.M+k<=Z.M:=cd.M;omega
 get j b:=cd.get j (by show j<h.M+k;omega)
 ids x a:=by have:x=d\/x=I.u\/x=I.k\/x=I.p\/x=I.o\/h.M+k<=x:=cd.ids x a;omega
abbrev iV(d q bv ck n m j:Nat):bc:=[(0,.ptr (some ⟨d,0,0,0,6⟩)),(13,.slice (some ⟨q,bv,ck,0,1⟩) n m),(14,.int .i64 (n:Nat)),(15,.int .i64 (j:Nat))]
def TH{a b:Nat}(h:a<=b):(Nat.ble a b&&true)=true:=by rw [Nat.ble_eq.mpr h];rfl
def aW{a b:Nat}{p:Prop}(h:a<=b)(k:p):_root_.cond (Nat.ble a b&&true) p False:=by rw [TH h];exact k
def rI{H:T}{B bv ck c:Nat}{R:bI->UInt8->Prop}{F:bI->UInt8->bI×List aP}{g:J}{a:b8->bc->T->Prop}(b:B<=H.M)(f:j<n)(aw:n<2^62)(Y:T)(aQ:Y=⟨H.M+10,H.aF⟩)
 (eo:a6 (bi.D env) 5 ⟨q,bv,ck+Int.toNat (j:Int),0,1⟩ ⟨H.M+4,H.aF⟩=some (.ac (c:Int))) (e:a6 (bi.D env) 66 ⟨d,0,0,0,6⟩ ⟨H.M+10,H.aF⟩=some g)
 (pre:dA N R ⟨H.M+10,H.aF⟩ ⟨d,0,0,0,6⟩ (c:Int)) (post:∀h,dB F ⟨H.M+10,H.aF⟩ ⟨d,0,0,0,6⟩ (c:Int) h->a .normal (iV d q bv ck n m (j+1)) ⟨h.M+2,h.aF⟩) (X:Prop) :
 _root_.cond (Nat.ble B H.M&&true) (((j:Int)<(n:Int)->_root_.cond (Nat.ble B (H.M+1)&&true) ((0<=(j:Int)/\(j:Int)<(n:Int))/\a6 (bi.D env) 5 ⟨q,bv,ck+Int.toNat (j:Int),0,1⟩ ⟨H.M+4,H.aF⟩=some (.ac (c:Int))/\_root_.cond (Nat.ble B (H.M+4)&&true) (a6 (bi.D env) 66 ⟨d,0,0,0,6⟩ ⟨H.M+10,H.aF⟩=some g/\dA N R Y ⟨d,0,0,0,6⟩ (c:Int) /\
  ∀h,dB F Y ⟨d,0,0,0,6⟩ (c:Int) h->_root_.cond (Nat.ble B h.M&&true) ((-9223372036854775808<=(j:Int)+1/\(j:Int)+1<=9223372036854775807)/\a .normal [(0,.ptr (some ⟨d,0,0,0,6⟩)),(13,.aB q bv ck n m),(14,.V (n:Nat)),(15,.V ((j:Int)+1))] ⟨h.M+2,h.aF⟩) False) False) False)/\(¬(j:Int)<(n:Int)->X)) False:=by
 subst aQ;refine aW b ⟨λ_=>aW A ⟨⟨A,A⟩,eo,aW A ⟨e,pre,λh t=> ?_⟩⟩,λh=>absurd A h⟩;have i:H.M+10<=h.M:=t.M;exact aW A ⟨⟨A,A⟩,by rw [show((j:Int)+1)=((j+1:Nat):Int)by omega];exact post h t⟩
def TI{H:T}{B bv ck:Nat}{s:bI}{es:List aP}(v:B<=H.M)(g:b1 H d I s es)(a:Keys.Good s)(S:es.length<2^30-8)(L:oD H q bv ck bs)(p:j<bs.length)(aw:bs.length<2^62) :
 ∃H' aH,bN B 34 (bu 26 0) (iV d q bv ck bs.length m j) H .normal (iV d q bv ck bs.length m (j+1)) H'/\b1 H' d aH (Keys.step s bs[j]).1 (es++(Keys.step s bs[j]).2)/\Fr H H' d I aH:=by
 have aj:=bs[j].toNat_lt;obtain⟨b,O,P⟩:=L.ex;have eo:a6 (bi.D env) 5 ⟨q,bv,ck+Int.toNat (j:Int),0,1⟩ ⟨H.M+4,H.aF⟩=some (.ac (bs[j].toNat:Int)):=TG O (by rw [show ck+Int.toNat (j:Int)=ck+j by simp];exact P j p)
 have Q:∃kv pv ov ty,H.get d=some (bJ d (b9 s.nx) I.u kv pv (decide (s.nx=.cD)) ov ty):=by obtain⟨ks,C,_⟩:=g;obtain⟨kv,pv,ov,ty,e,_⟩:=C.ex;exact⟨kv,pv,ov,ty,e⟩
 obtain⟨kv,pv,ov,ty,y⟩:=Q;have i:=TE (h:=⟨H.M+10,H.aF⟩) y
 have x:s.ay.length<=4:=by
  obtain⟨nx,ak,ay,ax⟩:=s;cases nx with
  |cp=>have:=a.2.2.2.1;simp only at this⊢; omega
  |ground=>have:=a.2.1;simp only at this;simp [this]
  |cQ=>have:=a.2.1;simp only at this;simp [this]
  |sequence=>have:=a.1;simp only at this;simp [this]
  |single=>have:=a.1;simp only at this;simp [this]
  |cD=>have:=a.1;simp only at this;simp [this]
 have key:∀{N:Nat}{R:bI->UInt8->Prop}{F:bI->UInt8->bI×List aP},es.length<N->R s bs[j]->F s bs[j]=Keys.step s bs[j] ->
  dA N R ⟨H.M+10,H.aF⟩ ⟨d,0,0,0,6⟩ (bs[j].toNat:Int)/\∀h,dB F ⟨H.M+10,H.aF⟩ ⟨d,0,0,0,6⟩ (bs[j].toNat:Int) h->b8.normal=.normal/\iV d q bv ck bs.length m (j+1)=iV d q bv ck bs.length m (j+1)/\∃aH,b1 ⟨h.M+2,h.aF⟩ d aH (Keys.step s bs[j]).1 (es++(Keys.step s bs[j]).2)/\Fr H ⟨h.M+2,h.aF⟩ d I aH:=by
  intro N R F G K E;refine⟨⟨rfl,⟨I,s,es,p5 g,G,x,by rw [rm];exact K⟩,A⟩,λh t=>⟨rfl,rfl,?_⟩⟩;obtain⟨aH,w,z⟩:=t.all I s es (p5 g) x;rw [rm,E]at w;exact⟨aH,p5 w,IP (IQ z)⟩
 have fin:∀{e:b8}{k:bc}{Y:T},bN B 34 (bu 26 0) (iV d q bv ck bs.length m j) H e k Y->(e=.normal/\k=iV d q bv ck bs.length m (j+1)/\∃aH,b1 Y d aH (Keys.step s bs[j]).1 (es++(Keys.step s bs[j]).2)/\Fr H Y d I aH) ->
  ∃H' aH,bN B 34 (bu 26 0) (iV d q bv ck bs.length m j) H .normal (iV d q bv ck bs.length m (j+1)) H'/\b1 H' d aH (Keys.step s bs[j]).1 (es++(Keys.step s bs[j]).2)/\Fr H H' d I aH:=by
  rintro e k Y f ⟨rfl,rfl,aH,q⟩;exact⟨Y,aH,f,q⟩
 let r:b8->bc->T->Prop:=λe k Y=>e=.normal/\k=iV d q bv ck bs.length m (j+1)/\∃aH,b1 Y d aH (Keys.step s bs[j]).1 (es++(Keys.step s bs[j]).2)/\Fr H Y d I aH
 cases c:s.nx with
 |ground =>
  rw [c]at i;obtain⟨nx,ak,ay,ax⟩:=s;simp only at c;subst c;obtain⟨n,o⟩:=key (N:=2^30-4) (R:=kx) (F:=Keys.ground) A ⟨a.2.1,rfl⟩ rfl;obtain⟨e,k,Y,f,l⟩:=IM H B d q bv ck bs.length m j bs[j].toNat r (rI v p aw _ rfl eo i n o _);exact fin f l
 |cQ =>
  rw [c]at i;obtain⟨nx,ak,ay,ax⟩:=s;simp only at c;subst c;obtain⟨n,o⟩:=key (N:=2^30-8) (R:=tK) (F:=Keys.cQ) A ⟨a.2.1,rfl⟩ rfl;obtain⟨e,k,Y,f,l⟩:=Tx H B d q bv ck bs.length m j bs[j].toNat r (rI v p aw _ rfl eo i n o _);exact fin f l
 |cp =>
  rw [c]at i;obtain⟨nx,ak,ay,ax⟩:=s;simp only at c;subst c;obtain⟨n,o⟩:=key (N:=2^30-8) (R:=tV) (F:=Keys.cp) A ⟨rfl,a.2.1,a.2.2.1,a.2.2.2.1,a.2.2.2.2⟩ rfl;obtain⟨e,k,Y,f,l⟩:=Ty H B d q bv ck bs.length m j bs[j].toNat r (rI v p aw _ rfl eo i n o _);exact fin f l
 |sequence =>
  rw [c]at i;obtain⟨nx,ak,ay,ax⟩:=s;simp only at c;subst c;obtain⟨n,o⟩:=key (N:=2^30-8) (R:=us) (F:=Keys.sequence) A ⟨rfl,a.1,a.2.2.1,a.2.2.2⟩ rfl;obtain⟨e,k,Y,f,l⟩:=Tz H B d q bv ck bs.length m j bs[j].toNat r (rI v p aw _ rfl eo i n o _);exact fin f l
 |single =>
  rw [c]at i;obtain⟨nx,ak,ay,ax⟩:=s;simp only at c;subst c;obtain⟨n,o⟩:=key (N:=2^30-8) (R:=singleR) (F:=Keys.single) A ⟨a.1,rfl⟩ rfl;obtain⟨e,k,Y,f,l⟩:=TA H B d q bv ck bs.length m j bs[j].toNat r (rI v p aw _ rfl eo i n o _);exact fin f l
 |cD =>
  rw [c]at i;obtain⟨nx,ak,ay,ax⟩:=s;simp only at c;subst c;obtain⟨n,o⟩:=key (N:=2^30-8) (R:=ux) (F:=Keys.cD) A ⟨rfl,a.1,a.2.1,a.2.2.2⟩ rfl;obtain⟨e,k,Y,f,l⟩:=TB H B d q bv ck bs.length m j bs[j].toNat r (rI v p aw _ rfl eo i n o _);exact fin f l
def TJ{B bv ck:Nat}(aw:bs.length<2^28):∀(k j:Nat)(H:T)(I:b3)(s:bI)(es:List aP),bs.length-j<=k->j<=bs.length->B<=H.M->b1 H d I s es->Keys.Good s->es.length+2* (bs.length-j)<2^30-8->oD H q bv ck bs->q<H.M->li q d I ->
 ∃H' aH,dd B 34 (bu 26 0) (iV d q bv ck bs.length m j) H (.exit 0) (iV d q bv ck bs.length m bs.length) H'/\b1 H' d aH (cB s (bs.drop j)).1 (es++(cB s (bs.drop j)).2)/\Fr H H' d I aH:=by
 intro k
 have fin:∀(H:T)(I:b3)(s:bI)(es:List aP),B<=H.M->b1 H d I s es-> ∃H' aH,dd B 34 (bu 26 0) (iV d q bv ck bs.length m bs.length) H (.exit 0) (iV d q bv ck bs.length m bs.length) H'/\b1 H' d aH (cB s (bs.drop bs.length)).1 (es++(cB s (bs.drop bs.length)).2)/\Fr H H' d I aH:=by
  intro H I s es a g;obtain⟨e,o,Y,n,rfl,rfl,rfl⟩:=IM H B d q bv ck bs.length m bs.length 0 (λe o Y=>e=.exit 0/\o=iV d q bv ck bs.length m bs.length/\Y=⟨H.M+1,H.aF⟩) (aW a ⟨λh=> A,λ_=>⟨rfl,rfl,rfl⟩⟩);refine⟨_,I,b2.last au n,?_,?_⟩
  .rw [nI];simp only [cB,gy];exact p5 g
  .exact⟨by show H.M<=H.M+1;omega,λj _ _ _ _ _ _=>rfl,λx C=> A⟩
 induction k with
 |zero =>
  intro j H I s es w v a g c u f l i;obtain rfl:j=bs.length:= A;exact fin H I s es a g
 |succ k ih =>
  intro j H I s es w v a g c u f l i;by_cases aj:j<bs.length
  .obtain⟨H1,p,n,g1,b⟩:=TI (m:=m) a g c A f aj A;have ag:=Pc s bs[j];have z:=b.M;obtain⟨H2,r,y,g2,t⟩:=ih (j+1) H1 p _ _ A A A g1 (FW _ c) (by rw [dt];omega) (f.keep (i.get b l)) A (i.cd b l);refine⟨H2,r,b2.step n y,?_,b.trans t⟩;rw [ki aj];simp only [cB];rw [<-jb];exact g2
  .obtain rfl:j=bs.length:= A;exact fin H I s es a g
def uy(H:T)(v:J)(es:List aP)(o:Nat):Prop :=
 (v=.slice none 0 0/\es=[])\/(es≠[]/\o<H.M/\∃ad m f,v=.slice (some ⟨o,ad,0,0,6⟩) es.length es.length/\H.get o=some (b4 (es.map bp) 6 ad m f gF))
def b1.clear{H:T}{s:bI}{es:List aP}(g:b1 H d I s es):∃f kv pv pas ov ty,H.get d=some (bJ d f I.u kv pv pas ov ty)/\hv H d I.o ov es/\I.u≠d /\
 ∀k,b1 ((⟨H.M+k,H.aF⟩:T).set d (bJ d f I.u kv pv pas (.slice none 0 0) ty)) d ⟨I.u,I.k,I.p,d⟩ s []/\Fr H ((⟨H.M+k,H.aF⟩:T).set d (bJ d f I.u kv pv pas (.slice none 0 0) ty)) d I ⟨I.u,I.k,I.p,d⟩:=by
 obtain⟨ks,g,hs⟩:=g;obtain⟨kv,pv,ov,ty,e,c,ae,i⟩:=g.ex;obtain⟨j0,j1,j2,j3,uty,hu⟩:=g.hX
 have a:I.u≠d:=by intro h;rw [h,e]at hu;simp [aa.an]at hu
 refine⟨_,kv,pv,_,ov,ty,e,i,a,λk=>⟨⟨ks,⟨⟨kv,pv,.slice none 0 0,ty,?_,?_,?_,.inl ⟨rfl,rfl,rfl⟩⟩,⟨j0,j1,j2,j3,uty,?_⟩,?_,g.ne⟩,hs⟩,?_,?_,?_⟩⟩
 .exact T.eD _ _ _
 .exact c.keep λaw=>T.dN _ _ (lA aw)
 .exact ae.keep λaw=>T.dN _ _ (lA aw)
 .show((⟨H.M+k,H.aF⟩:T).set d _).get I.u=_;rw [T.dN _ _ (lA a)];exact hu
 .have:=g.lt;show d<H.M+k/\I.u<H.M+k/\I.k<H.M+k/\I.p<H.M+k/\d<H.M+k;omega
 .show H.M<=H.M+k;omega
 .intro j m l n2 n q r;exact T.dN _ _ (lA l)
 .intro x b;have b:x=I.u\/x=I.k\/x=I.p\/x=d:=b;omega
def IR(H:T)(d:Nat)(I:b3)(o:Option bB)(bs:Bytes):Prop:=(o=none/\bs=[])\/ ∃q bv ck,o=some ⟨q,bv,ck,0,1⟩/\oD H q bv ck bs/\q<H.M/\li q d I
def IS{t:TypeId}{F:bc}{H:T}{a:bB}{nid:Nat}(b:ba F (.tmp k)=.ptr (some a))(hs:gz (bi.D env) t a (.slice none 0 0) H=some H1):bt env cr nid (ba F) H (Op.store t (Operand.tmp k) (Operand.const (Value.slice none 0 0)))=some (.tuple [],H1):=by have aj:ba F (Operand.const (Value.slice none 0 0))=.slice none 0 0:=rfl;simp only [bt,b,aj,hs,eE]
def TK{H:T}{s:bI}{es:List aP}{o:Option bB}(g:b1 H d I s es)(a0:Keys.Good s)(aw:bs.length<2^28)(a3:IR H d I o bs) :
 ∃H' v aH i,be 26 [.ptr (some ⟨d,0,0,0,6⟩),.slice o bs.length m] H v H'/\b1 H' d aH (cB s bs).1 []/\Fr H H' d I aH/\uy H' v (cB s bs).2 i/\((cB s bs).2≠[]->li i d aH/\(i=I.u\/i=I.k\/i=I.p\/H.M<=i)):=by
 obtain⟨f,kv,pv,pas,ov,ty,am,d6,d8,a9⟩:=g.clear;obtain⟨g1,n⟩:=a9 7;generalize O:((⟨H.M+7,H.aF⟩:T).set d (bJ d f I.u kv pv pas (.slice none 0 0) ty))=H1 at g1 n;have c4:gz (bi.D env) 56 ⟨d,0,0,5,6⟩ (.slice none 0 0) ⟨H.M+7,H.aF⟩=some H1:=by rw [<-O];exact IN am
 have d3:H1.M=H.M+7:=by rw [<-O];rfl
 have R:b1 ⟨H1.M+3,H1.aF⟩ d ⟨I.u,I.k,I.p,d⟩ s []:=p5 g1
 have ct:∃H2 a C,bN H.M 34 (Code.loop (bu 26 0)) [(0,.ptr (some ⟨d,0,0,0,6⟩)),(13,.slice o bs.length m),(14,.V bs.length),(15,.V 0)] ⟨H1.M+3,H1.aF⟩ (.exit 0) [(0,.ptr (some ⟨d,0,0,0,6⟩)),(13,.slice o bs.length m),(14,.V bs.length),(15,C)] H2 /\
  b1 H2 d a (cB s bs).1 (cB s bs).2/\Fr H1 H2 d ⟨I.u,I.k,I.p,d⟩ a:=by
  rcases a3 with ⟨rfl,rfl⟩|⟨q,bv,ck,rfl,a4,S,t⟩
  .obtain⟨e,E,Y,c3,rfl,rfl,rfl⟩:=TC ⟨H1.M+3,H1.aF⟩ H.M d (.slice none 0 m) (λe E Y=>e=.exit 0/\E=[(0,.ptr (some ⟨d,0,0,0,6⟩)),(13,.slice none 0 m),(14,.V 0),(15,.V 0)]/\Y=⟨H1.M+3+1,H1.aF⟩) (aW (by show H.M<=H1.M+3;omega) ⟨rfl,rfl,rfl⟩);refine⟨_,⟨I.u,I.k,I.p,d⟩,.V 0,cO.dn (b2.last au c3),p5 R,?_⟩
   exact⟨by show H1.M<=H1.M+3+1;omega,λj _ _ _ _ _ _=>rfl,λx U=>by
    have U:x=I.u\/x=I.k\/x=I.p\/x=d:=U;show x=d\/x=I.u\/x=I.k\/x=I.p\/x=d\/_
    omega⟩
  .have a5:oD ⟨H1.M+3,H1.aF⟩ q bv ck bs:=a4.keep (by show H1.get q=H.get q;exact t.get n S);have c2:li q d ⟨I.u,I.k,I.p,d⟩:=t.cd n S;obtain⟨H2,a,cs,g2,l⟩:=TJ (B:=H.M) (m:=m) aw bs.length 0 ⟨H1.M+3,H1.aF⟩ ⟨I.u,I.k,I.p,d⟩ s [] A A (by show H.M<=H1.M+3;omega) R a0 (by simp only [cq];omega) a5 (by show q<H1.M+3;omega) c2;rw [lz,eQ]at g2;exact⟨H2,a,.V bs.length,cO.dn cs,g2,IQ l⟩
 obtain⟨H2,a,C,a2,g2,l⟩:=ct;obtain⟨f2,dg,d1,d0,X,d2,F,c0,d9,bn⟩:=g2.clear;obtain⟨g3,K⟩:=bn 9;generalize w:((⟨H2.M+9,H2.aF⟩:T).set d (bJ d f2 a.u dg d1 d0 (.slice none 0 0) d2))=b at g3 K;have c5:gz (bi.D env) 56 ⟨d,0,0,5,6⟩ (.slice none 0 0) ⟨H2.M+9,H2.aF⟩=some b:=by rw [<-w];exact IN F
 have d4:=l.M;have d5:b.M=H2.M+9:=by rw [<-w];rfl
 have Q:Fr H ⟨b.M+2,b.aF⟩ d I ⟨a.u,a.k,a.p,d⟩:=IP (n.trans (l.trans K))
 obtain⟨v,Z,P,c9,co⟩:=TD H H1 H2 b d bs.length m o X C (λv Z=>v=X/\Z=⟨b.M+2,b.aF⟩) (by
  refine aW (Nat.le_refl _) (aW A (aW A ⟨IS rfl c4,aW A ⟨a2,aW A ⟨TF F,aW A ⟨IS rfl c5,aW A ?_⟩⟩⟩⟩));refine jS A ?_
  exact⟨rfl,rfl⟩)
 subst c9 co;have L:b1 ⟨b.M+2,b.aF⟩ d ⟨a.u,a.k,a.p,d⟩ (cB s bs).1 []:=p5 g3;rcases c0 with ⟨Y,ag,N⟩|⟨Y,ag,ad,W,G,N,c⟩
 .exact⟨_,_,_,0,P,L,Q,.inl ⟨Y,ag⟩,λh=>absurd ag h⟩
 .have em:=(by obtain⟨ks,r,_⟩:=g2;exact r.lt:d<H2.M/\a.u<H2.M/\a.k<H2.M/\a.p<H2.M/\a.o<H2.M)
  have ce:(⟨b.M+2,b.aF⟩:T).get a.o=some (b4 ((cB s bs).2.map bp) 6 ad W G gF):=by rw [<-c];show b.get a.o=H2.get a.o;rw [<-w,T.dN _ _ (lA Y)];rfl
  have t:li a.o d ⟨a.u,a.k,a.p,d⟩:=by
   obtain⟨ks,r,_⟩:=g2;obtain⟨el,e0,eq,fd,e',y,z,d7⟩:=r.ex;obtain⟨j0,j1,j2,j3,uty,hu⟩:=r.hX;refine⟨Y,λh=> ?_,λh=> ?_,λh=> ?_,Y⟩
   .have h:a.o=a.u:=h;rw [h,hu]at c;simp [aa.an]at c
   .have h:a.o=a.k:=h;cases ks with
    |nil=>exact Y (by rw [h];exact y.2.2)
    |one=>have:=y.2.2.1;rw [<-h,c]at this;simp [aa.an]at this
    |grown junk=>obtain⟨_,_,_,_,_,this⟩:=y;rw [<-h,c]at this;simp at this
   .have h:a.o=a.p:=h;rcases z with ⟨_,_,z⟩|⟨_,_,_,_,_,_,this⟩
    .exact Y (by rw [h];exact z)
    .rw [<-h,c]at this;simp at this
  refine⟨_,_,_,a.o,P,L,Q,.inr ⟨ag,by show a.o<b.M+2;omega,ad,W,G,N,ce⟩,λ_=>⟨t,?_⟩⟩;have hid:a.o=d\/a.o=I.u\/a.o=I.k\/a.o=I.p\/a.o=d\/H1.M<=a.o:=l.ids a.o (.inr (.inr (.inr rfl)));omega
def TL(a:aU)(b:a (.aT 3) (af 17 [(3,(aa.an ([.agg [.func (.func 30) [J.aT 3] [],.slice none 0 0,.slice none 0 0,.aJ,.ptr (some ⟨7,0,0,0,5⟩),.slice none 0 0]]) 6 true (some (68,6)))),(7,aa.an [.agg [.ac 0,.ac 0,.ac 0,.ac 0,.V 0]] 5 true (some (97,5)))])) :
 bl 14 [] bG a :=
 bm bL (he 1000 .nil) b
def TM(i a b j n:Nat)(k o:Option bB)(m:Bool)(l:J)(g c f e:aa)(h:bw)(d:aU)(p:(bd ((b:Int)+(a:Int)))/\d (.V ((b:Int)+(a:Int))) (af 20 [(0,⟨[.agg [(dy i),.slice k a j,.slice o b n,.bool m,.ptr (some ⟨1,0,0,0,5⟩),l]],6,true,false,0,0,0,h⟩),(1,g),(2,c),(3,f),(4,e)])) :
 bl 16 [J.aT 0] (T.of [bJ 0 i 1 (.slice k a j) (.slice o b n) m l h,g,c,f,e]) d :=
 bm bL (ab 3010 .nil) p
def TN(H:T):∃H' d I,be 14 [] H (.ptr (some ⟨d,0,0,0,6⟩)) H'/\b1 H' d I ⟨.ground,[],[],[]⟩ []/\H.M<=d/\H.M<=I.u/\I.k=d/\I.p=d/\I.o=d/\H.M<=H'.M/\∀j,j<H.M->H'.get j=H.get j:=by
 obtain⟨v,Y,l,rfl,e,f,aw⟩:=TL (λv Y=>v=.ptr (some ⟨3,0,0,0,6⟩)/\Y.get 3=some (bJ 3 (b9 .ground) 7 (.slice none 0 0) (.slice none 0 0) false (.slice none 0 0) (some (68,6)))/\Y.get 7=some (fN 0 0 0 0 0 (some (97,5)))/\Y.M=17) ⟨rfl,rfl,rfl,rfl⟩;have n:be 14 [] (T.of []) (.ptr (some ⟨3,0,0,0,6⟩)) Y:=l;obtain⟨H',m,q,c,s⟩:=n.place au (λb g=>by cases g) trivial (H:=H) [] kR (λj a=>by cases a) rfl (λi b h=>by simp at h);have r:∀i,cP [] H.M i=H.M+i:=λi=>by rw [k0 au];simp
 have g3:=c 3 _ e;have g7:=c 7 _ f;rw [r,(tn _ _ _ _ _ _).aO]at g7;rw [r]at g3
 have e0:(bJ 3 (b9 .ground) 7 (.slice none 0 0) (.slice none 0 0) false (.slice none 0 0) (some (68,6))).aO (cP [] H.M)=bJ (H.M+3) (b9 .ground) (H.M+7) (.slice none 0 0) (.slice none 0 0) false (.slice none 0 0) (some (68,6)):=by simp [aa.aO,aa.an,J.aO,J.fc,bB.aO,r]
 rw [e0]at g3;have t:H'.M=H.M+17:=by rw [q,aw];simp
 refine⟨H',H.M+3,⟨H.M+7,H.M+3,H.M+3,H.M+3⟩,?_,⟨.nil,⟨⟨_,_,_,_,g3,⟨rfl,rfl,rfl⟩,.inl ⟨rfl,rfl,rfl⟩,.inl ⟨rfl,rfl,rfl⟩⟩,⟨0,0,0,0,_,g7⟩,?_,.inl rfl⟩,trivial⟩,A,by show H.M<=H.M+7;omega,rfl,rfl,rfl,A,λj a=>s j a au⟩
 .simpa [J.aO,bB.aO,r]using m
 .show H.M+3<H'.M/\H.M+7<H'.M/\H.M+3<H'.M/\H.M+3<H'.M/\H.M+3<H'.M;omega
def TO{h:T}{l:Bytes}(a:ht h d k v ks l):∃o,v=.slice o l.length l.length:=by
 cases ks with
 |nil=>obtain⟨rfl,rfl,_⟩:=a;exact⟨none,rfl⟩
 |one=>obtain⟨_,rfl,_,rfl⟩:=a;exact⟨_,rfl⟩
 |grown j=>obtain⟨_,_,_,_,rfl,_⟩:=a;exact⟨_,rfl⟩
def TP{h:T}{l:Bytes}(ae:hb h d k v l):∃o,v=.slice o l.length l.length:=by
 rcases ae with ⟨rfl,rfl,_⟩|⟨_,_,_,_,_,rfl,_⟩
 .exact⟨none,rfl⟩
 .exact⟨_,rfl⟩
def TQ{H:T}{s:bI}{es:List aP}(g:b1 H d I s es)(G:s.ak.length<2^40)(ae:s.ax.length<2^40):∃H',be 16 [.ptr (some ⟨d,0,0,0,6⟩)] H (.V (held s:Nat)) H'/\∃aH,b1 H' d aH s es/\Fr H H' d I aH:=by
 obtain⟨ks,g,hs⟩:=g;refine g.lift (Q:=λh d I=>b1 h d I s es) (rest:=[]) (λa y=>by cases y) (b0.int _ _) (λZ H' r d I E B C q=>q.lU E B C) ?_;intro kv pv ov ty uty j0 j1 j2 j3 K P O t gs b;obtain⟨F,c,ip,e⟩:=t;obtain rfl:F=1:=b.1;obtain⟨l,m,D⟩:=kw gs;obtain⟨o,rfl⟩:=TO l;obtain⟨p,rfl⟩:=TP m
 obtain⟨v,Z,z,rfl,e0,aQ,aZ,f,i,aw⟩:=TM (b9 s.nx) s.ak.length s.ax.length s.ak.length s.ax.length o p (decide (s.nx=.cD)) ov (bT s.ay j0 j1 j2 j3 uty) K P O ty (λv Z=>v=.V (held s:Nat)/\Z.get 0=some (bJ 0 (b9 s.nx) 1 (.slice o s.ak.length s.ak.length) (.slice p s.ax.length s.ax.length) (decide (s.nx=.cD)) ov ty)/\Z.get 1=some (bT s.ay j0 j1 j2 j3 uty)/\Z.get 2=some K/\Z.get 3=some P/\Z.get 4=some O/\Z.M=20)
  ⟨⟨A,A⟩,by unfold held;rw [show((s.ax.length+s.ak.length:Nat):Int)=(s.ax.length:Int)+(s.ak.length:Int)by omega],rfl,rfl,rfl,rfl,rfl,rfl⟩
 refine⟨Z,z,⟨1,c,ip,e⟩,⟨ks,⟨⟨_,_,_,_,e0,?_,?_,?_⟩,⟨j0,j1,j2,j3,uty,aQ⟩,?_,gs.ne⟩,hs⟩,⟨by show 5<=Z.M;omega,?_,λx n=> ?_⟩⟩
 .exact l.keep λaw=>by
   rcases b.2.1 with h|h
   .exact absurd h aw
   .simp only at h;subst h;rw [aZ,T.dI];rfl
 .exact m.keep λaw=>by
   rcases b.2.2.1 with h|h
   .exact absurd h aw
   .simp only at h;subst h;rw [f,T.dI];rfl
 .exact D.keep λaw=>by
   rcases b.2.2.2 with h|h
   .exact absurd h aw
   .simp only at h;subst h;rw [i,T.dI];rfl
 .have ag:=b.2.1;have u:=b.2.2.1;have w:=b.2.2.2;simp only at ag u w;show 0<Z.M/\1<Z.M/\c<Z.M/\ip<Z.M/\e<Z.M;omega
 .intro j k L n2 N R S;have k:j<5:=k;have n2:j≠1:=n2;have:j=2\/j=3\/j=4:= A;rw [T.dI];rcases this with rfl|rfl|rfl
  .rw [aZ];rfl
  .rw [f];rfl
  .rw [i];rfl
 .have n:x=1\/x=c\/x=ip\/x=e:=n;show x=0\/x=1\/x=c\/x=ip\/x=e\/5<=x;omega
def l1(l:List J):Bool:=l.all λx=>match x with|.int _ _=>true|_=>false
def TR{h:T}{o ad f:Nat}{es:List aP}(e:h.get o=some (b4 (es.map bp) 6 ad m f gF))(a:i<es.length):a6 (bi.D env) 42 ⟨o,ad,i,0,6⟩ h=some (bp es[i]):=by
 have b:(bi.D env 42).map (λd=>(d.kind.isAgg,d.size))=some (true,6):= ao;obtain⟨x,Y,ag⟩:=cb.1 b;simp only [bC]at ag;unfold a6;rw [Y,e]
 have c:(b4 (es.map bp) 6 ad m f gF).elem? ad i=some (bp es[i]):=by unfold aa.elem?;rw [az (by simpa [aa.b6]using a)];simp [a]
 simp only [c];simp [eK,ag.1,ag.2,bp]
def TS{l:List J}(h:l1 l=true):∀e∈l,b0 e:=by intro e he;have:=ea.1 h e he;cases e<;>first|exact b0.int _ _|(simp at this)
abbrev jL:bI:=⟨.ground,[],[],[]⟩
def IT:Keys.Good jL:=by unfold Keys.Good;simp
def uy.cases{H:T}{e:aP}{es:List aP}{o:Nat}(h:uy H v (e::es) o):∃ad m f,v=.slice (some ⟨o,ad,0,0,6⟩) (e::es).length (e::es).length/\H.get o=some (b4 ((e::es).map bp) 6 ad m f gF)/\o<H.M:=by
 rcases h with h|⟨Y,ag,ad,m,f,a,b⟩
 .exact absurd h.2 au
 .exact⟨ad,m,f,a,b,ag⟩
structure cT(H H':T)(col cU:Nat->Nat)(L:List Nat):Prop where
 M:H.M<=H'.M
 get:∀x,x<H.M->col x ∉ L->H'.get x=H.get x
 col:∀x,x<H.M->col x ∉ L->cU x=col x
def cT.trans{H H2:T}{c cL c2:Nat->Nat}{e f:List Nat}(a:cT H H1 c cL e)(b:cT H1 H2 cL c2 f):cT H H2 c c2 (e++f) where
 M:=Nat.le_trans a.M b.M
 get x d h:=by simp only [hi,not_or]at h;have aw:=a.M;rw [b.get x A (by rw [a.col x d h.1];exact h.2),a.get x d h.1]
 col x d h:=by simp only [hi,not_or]at h;have aw:=a.M;rw [b.col x A (by rw [a.col x d h.1];exact h.2),a.col x d h.1]
variable {L:List Nat}
def cT.sub{H:T}{c e:Nat->Nat}{d:List Nat}(a:cT H H' c e L)(h:∀x∈L,x∈d):cT H H' c e d where
 M:=a.M
 get x b k:=a.get x b λq=>k (h _ q)
 col x b k:=a.col x b λq=>k (h _ q)
def cT.refl(H:T)(c:Nat->Nat):cT H H c c []:=⟨Nat.le_refl _,λ_ _ _=>rfl,λ_ _ _=>rfl⟩
def fresh(H:T)(col:Nat->Nat):Nat->Nat:=λx=>if x<H.M then col x else 8
def cT.fresh(H:T)(col:Nat->Nat)(k:Nat):cT H ⟨H.M+k,H.aF⟩ col (fresh H col) [] where
 M:=by show H.M<=H.M+k;omega
 get _ _ _:=rfl
 col x a _:=by unfold Proofs.zz.fresh;rw [az a]
variable {col:Nat->Nat}
def uz{H:T}{x:Nat}(h:H.M<=x):fresh H col x=8:=by unfold fresh;rw [ai A]
def j4(d:Nat)(I:b3)(x:Nat):Prop:=x=d\/x=I.u\/x=I.k\/x=I.p\/x=I.o
structure ir(H:T)(col:Nat->Nat)(c d:Nat)(I:b3)(s:bI):Prop where
 at':b1 H d I s []
 col:∀x,j4 d I x->col x=c
def ir.lt{H:T}{c:Nat}{s:bI}(h:ir H col c d I s):∀x,j4 d I x->x<H.M:=by obtain⟨ks,g,_⟩:=h.at';have:=g.lt;intro x a;unfold j4 at a;omega
def ir.de{H:T}{cU:Nat->Nat}{c:Nat}{s:bI}(h:ir H col c d I s)(m:cT H H' col cU L)(aj:c ∉ L):ir H' cU c d I s:=by
 have lt:=h.lt;have ab:∀x,j4 d I x->H'.get x=H.get x:=λx a=>m.get x (lt x a) (by rw [h.col x a];exact aj)
 refine⟨?_,λx a=>by rw [m.col x (lt x a) (by rw [h.col x a];exact aj)];exact h.col x a⟩;obtain⟨ks,g,hs⟩:=h.at';obtain⟨kv,pv,ov,ty,e,b,ae,f⟩:=g.ex;obtain⟨j0,j1,j2,j3,uty,hu⟩:=g.hX;have i:=g.lt;have aw:=m.M;exact⟨ks,⟨⟨kv,pv,ov,ty,by rw [ab d (.inl rfl)];exact e,b.keep λ_=>ab _ (.inr (.inr (.inl rfl))),ae.keep λ_=>ab _ (.inr (.inr (.inr (.inl rfl)))),f.keep λ_=>ab _ (.inr (.inr (.inr (.inr rfl))))⟩,⟨j0,j1,j2,j3,uty,by rw [ab I.u (.inr (.inl rfl))];exact hu⟩,A,g.ne⟩,hs⟩
structure gq(H:T)(col:Nat->Nat)(c sz:Nat)(ty:bw)(v:J)(l:List J):Prop where
 ex:(v=.slice none 0 0/\l=[])\/(l≠[]/\∃o,o<H.M/\col o=c/\∃ad m f,v=.slice (some ⟨o,ad,0,0,sz⟩) l.length l.length/\H.get o=some (b4 l sz ad m f ty))
def gq.de{H:T}{cU:Nat->Nat}{c sz:Nat}{l:List J}(h:gq H col c sz ty v l)(m:cT H H' col cU L)(aj:c ∉ L):gq H' cU c sz ty v l:=by
 rcases h.ex with h|⟨Y,o,ag,a,ad,e,f,b,d⟩
 .exact⟨.inl h⟩
 .have aw:=m.M;exact⟨.inr ⟨Y,o,A,by rw [m.col o ag (by rw [a];exact aj)];exact a,ad,e,f,b,by rw [m.get o ag (by rw [a];exact aj)];exact d⟩⟩
def gq.nil(H:T)(col:Nat->Nat)(c sz:Nat)(ty:bw):gq H col c sz ty (.slice none 0 0) []:=⟨.inl ⟨rfl,rfl⟩⟩
def gq.e9{H:T}{c sz nid t e jm:Nat}{w:J}{l new:List J}(hs:n5 env.D t e sz jm)(g:gq H col c sz (some (e,0)) v l)(aw:nid<H.M)(r:col nid=8)(j:ed sz w H=some new)(i:((l.length+new.length)+(l.length+new.length)/4+512)*jm<=2^48)(p:l.length+new.length<2^62) :
 ∃s H' cU,eY env .append #[t,t] [v,w] nid H=some (s,H')/\gq H' cU c sz (some (e,0)) s (l++new)/\cT H H' col cU [c,8]/\H'.M=H.M:=by
 by_cases d:new=[]
 .subst d;refine⟨v,H,col,?_,by rw [gy];exact g,(cT.refl H col).sub au,rfl⟩;rcases g.ex with ⟨rfl,rfl⟩|⟨Y,o,ag,k,ad,q,f,rfl,m⟩
  .exact z1 (b:=aa.an [] 1 true) hs j (by simpa using i) aC (λa n=>by cases n) (Nat.le_refl _) (λ_=>rfl)
  .exact z1 hs j (by simpa using i) (by simpa using p) (λa n=>by cases n;exact⟨m,rfl,rfl⟩) (Nat.le_refl _) (λh=>by cases h)
 .rcases g.ex with ⟨rfl,rfl⟩|⟨Y,o,ag,k,ad,q,f,rfl,m⟩
  .refine⟨_,_,λx=>if x=nid then c else col x,Oa hs j d (by simpa using i) (by simpa using p),⟨.inr ⟨by simpa using d,nid,aw,au,0,0,0,rfl,T.eD _ _ _⟩⟩,⟨Nat.le_refl _,λx _ h=> ?_,λx _ h=> ?_⟩,rfl⟩
   .refine T.dN _ _ λe=> ?_
    subst e;rw [r]at h;simp at h
   .show(if x=nid then c else col x)=col x;rw [ai];intro e;subst e;rw [r]at h;simp at h
  .have u:0<new.length:=gk.2 d;refine⟨_,_,col,Fk hs j d i p m ⟨rfl,rfl⟩ A rfl rfl rfl au (.inr rfl),⟨.inr ⟨by simp [Y],o,ag,k,ad+1,q,if q=ad then l.length else min f l.length,by rw [dt],T.eD _ _ _⟩⟩,⟨Nat.le_refl _,λx _ h=> ?_,λ_ _ _=>rfl⟩,rfl⟩;refine T.dN _ _ λe=> ?_
   subst e;rw [k]at h;simp at h
def IU{H:T}{c:Nat}{aH:b3}{s f:bI}(g:ir H col c d I s)(i:b1 H' d aH f [])(cd:Fr H H' d I aH)(P:Prop)[Decidable P](o:Nat)(e:P->li o d aH/\(j4 d I o\/H.M<=o)) :
 ∃cU,ir H' cU c d aH f/\cT H H' col cU [c]/\(P->cU o=7):=by
 have n:=g.lt;refine⟨λx=>if x=o/\P then 7 else if x<H.M then col x else c,⟨i,λx a=> ?_⟩,⟨cd.M,λx a h=> ?_,λx a h=> ?_⟩,λb=>by simp [b]⟩
 .have j:¬(x=o/\P):=by rintro ⟨rfl,b⟩;have:=(e b).1;have cw:=this.d;have cy:=this.u;have et:=this.k;have il:=this.p;have jQ:=this.o;unfold j4 at a;omega
  show(if x=o/\P then 7 else if x<H.M then col x else c)=c;rw [ai j];split
  .rename_i m
   have l:j4 d I x:=by
    rcases a with a|a
    .exact .inl a
    .have:=cd.ids x a;unfold j4;omega
   exact g.col x l
  .rfl
 .have aw:¬j4 d I x:=λk=>h (by rw [g.col x k];simp)
  unfold j4 at aw;simp only [not_or]at aw;exact cd.get x a aw.1 aw.2.1 aw.2.2.1 aw.2.2.2.1 aw.2.2.2.2
 .show(if x=o/\P then 7 else if x<H.M then col x else c)=col x;rw [ai,az a];rintro ⟨rfl,b⟩;rcases (e b).2 with k|k
  .exact h (by rw [g.col x k];simp)
  .omega
def TT{H:T}{c:Nat}{es:List aP}{o:Nat}(h:uy H v es o)(aj:es≠[]->col o=c):gq H col c 6 gF v (es.map bp):=by
 rcases h with ⟨Y,ag⟩|⟨Y,ag,ad,m,f,a,b⟩
 .exact⟨.inl ⟨Y,by rw [ag];rfl⟩⟩
 .exact⟨.inr ⟨by simpa using Y,o,ag,aj Y,ad,m,f,by rw [iF];exact a,b⟩⟩
def TU{H:T}{c:Nat}{es:List aP}(h:gq H col c 6 gF v (es.map bp)):∃o,uy H v es o/\(es≠[]->col o=c):=by
 rcases h.ex with ⟨Y,ag⟩|⟨Y,o,ag,b,ad,m,f,a,d⟩
 .have:es=[]:=by simpa using ag
  exact⟨0,.inl ⟨Y,this⟩,λh=>absurd this h⟩
 .exact⟨o,.inr ⟨by simpa using Y,ag,ad,m,f,by rw [iF]at a;exact a,d⟩,λ_=>b⟩
def cT.pad(H:T)(col:Nat->Nat):cT H ⟨H.M+1,H.aF⟩ col col []:=⟨by show H.M<=H.M+1;omega,λ_ _ _=>rfl,λ_ _ _=>rfl⟩
def CV{f:FuncId}{args:List J}{h Z:T}(k:be f args h v Z):be f args h v ⟨Z.M+1,Z.aF⟩:=k.pad (by show Z.M<=Z.M+1;omega) (λ_ _=>rfl)
structure mW(H:T)(col:Nat->Nat)(c:Nat)(o:Option bB)(bs:Bytes):Prop where
 ex:(o=none/\bs=[])\/ ∃q bv ck,o=some ⟨q,bv,ck,0,1⟩/\oD H q bv ck bs/\q<H.M/\col q=c
def mW.de{H:T}{cU:Nat->Nat}{c:Nat}{o:Option bB}(h:mW H col c o bs)(m:cT H H' col cU L)(aj:c ∉ L):mW H' cU c o bs:=by
 rcases h.ex with h|⟨q,bv,ck,Y,ag,b,a⟩
 .exact⟨.inl h⟩
 .have aw:=m.M;exact⟨.inr ⟨q,bv,ck,Y,ag.keep (m.get q b (by rw [a];exact aj)),A,by rw [m.col q b (by rw [a];exact aj)];exact a⟩⟩
def mW.bg{H:T}{c:Nat}{o:Option bB}(h:mW H col c o bs):ed 1 (.slice o bs.length n) H=some (aE bs):=by
 rcases h.ex with ⟨rfl,rfl⟩|⟨q,bv,ck,rfl,⟨b,Y,ag⟩,_⟩
 .rfl
 .have:=Oc (sz:=1) (n:=bs.length) (c:=n) (f:=λj=> .ac ((bs.getD j 0).toNat:Int)) (.inl rfl:s9 (some ⟨q,bv,ck,0,1⟩) bs.length n q bv ck 1) Y (λj a=>by rw [ag j a];simp [hC,a]);rw [this]
  congr 1
  apply o9;intro j;by_cases a:j<bs.length
  .simp [aE,a,hC]
  .simp [aE,a]
def ir.new(H:T)(col:Nat->Nat)(c:Nat):∃H' d I cU,be 14 [] H (.ptr (some ⟨d,0,0,0,6⟩)) H'/\ir H' cU c d I jL/\cT H H' col cU []:=by obtain⟨H',d,I,b,g,h,n2,i,j,k,e,f⟩:=TN H;refine⟨H',d,I,λx=>if x<H.M then col x else c,b,⟨g,λx a=> ?_⟩,⟨e,λx a _=>f x a,λx a _=>az a⟩⟩;unfold j4 at a;exact ai A
def ir.held{H:T}{c:Nat}{s:bI}(g:ir H col c d I s)(e:s.ak.length<2^40)(ae:s.ax.length<2^40):∃H' aH cU,be 16 [.ptr (some ⟨d,0,0,0,6⟩)] H (.V (held s:Nat)) H'/\ir H' cU c d aH s/\cT H H' col cU [c]/\H.M<H'.M:=by obtain⟨H',b,aH,a,cd⟩:=TQ g.at' e ae;obtain⟨cU,cw,cy,_⟩:=IU g a cd False 0 (λh=>h.elim);have aw:=cd.M;exact⟨_,aH,cU,CV b,cw.de (cT.pad H' cU) au,(cy.trans (cT.pad H' cU)).sub au,by show H.M<H'.M+1;omega⟩
def ir.feed{H:T}{c c2:Nat}{s:bI}{o:Option bB}(g:ir H col c d I s)(j:Keys.Good s)(aw:bs.length<2^28)(l:mW H col c2 o bs)(aj:c2≠c):∃H' v aH cU,be 26 [.ptr (some ⟨d,0,0,0,6⟩),.slice o bs.length m] H v H'/\ir H' cU c d aH (cB s bs).1/\gq H' cU 7 6 gF v ((cB s bs).2.map bp)/\cT H H' col cU [c]:=by
 have n:IR H d I o bs:=by
  rcases l.ex with h|⟨q,bv,ck,Y,ag,f,i⟩
  .exact .inl h
  .have a:∀x,j4 d I x->q≠x:=λx t e=>aj (by rw [<-i,e];exact g.col x t)
   exact .inr ⟨q,bv,ck,Y,ag,f,⟨a _ (.inl rfl),a _ (.inr (.inl rfl)),a _ (.inr (.inr (.inl rfl))),a _ (.inr (.inr (.inr (.inl rfl)))),a _ (.inr (.inr (.inr (.inr rfl))))⟩⟩
 obtain⟨H',v,aH,u,p,b,cd,he,r⟩:=TK (m:=m) g.at' j aw n
 obtain⟨cU,cw,cy,et⟩:=IU g b cd ((cB s bs).2≠[]) u (λh=>by
  have k:=r h;have w:=k.1.d;refine⟨k.1,?_⟩;have:=k.2;unfold j4
  omega)
 exact⟨H',v,aH,cU,p,cw,TT he et,cy⟩
def TV:n5 env.D 56 42 6 48:=by have Y:(env.D 42).map (λx=>(x.size,x.bytes,x.pg))=some (6,48,true):= ao;have ag:(env.D 56).map (λx=>x.kind)=some (.slice 42):= ao;obtain⟨x,b,k⟩:=cb.1 Y;obtain⟨d,a,c⟩:=cb.1 ag;simp only [bC]at k;exact⟨d,x,a,c,b,k.1,k.2.1,aC,k.2.2⟩
def rJ:n5 env.D 34 5 1 1:=by have Y:(env.D 5).map (λx=>(x.size,x.bytes,x.pg))=some (1,1,true):= ao;have ag:(env.D 34).map (λx=>x.kind)=some (.slice 5):= ao;obtain⟨x,b,k⟩:=cb.1 Y;obtain⟨d,a,c⟩:=cb.1 ag;simp only [bC]at k;exact⟨d,x,a,c,b,k.1,k.2.1,aC,k.2.2⟩
end Go.Proofs.zz
namespace Go.Keys
def zero:bI:=⟨.ground,[],[],[]⟩
def TW(s:bI)(c:UInt8):cB s [c]=step s c:=by simp [cB]
open Go.Lib
def gd:List Nat->Bytes
 |[]=> []
 |[n]=>decDigits n
 |n::m::r=>decDigits n++59::gd (m::r)
def e7(e:Bytes)(l:List Nat):Bytes:=27::91::(gd l++e)
def uA(r:Nat):Option UInt8 :=
 if r=32 then some 0 else if 97<=r/\r<=122/\r≠105/\r≠109 then some (u8 (r%32))else if 92<=r/\r<=95 then some (u8 (r%32))else none
def jt(r m:Nat):Bytes :=
 if m=0 then put r
 else if m=2/\r≠91/\r≠79 then 27::put r
 else if m=4\/m=6 then
  match uA r with
  |some c=>if m=4 then [c]else [27,c]
  |none=>e7 [117] [r,m+1]
 else e7 [117] [r,m+1]
def oE(k:Nat):Nat:=if k=1 then 13 else if k=2 then 9 else if k=3 then 127 else 27
def rK(k:Nat):Option UInt8 :=
 if 5<=k/\k<=8 then some (u8 (60+k))else if k=9 then some 72 else if k=10 then some 70 else none
def mX(k:Nat):Option Nat :=
 if k=11\/k=12 then some (k-9)else if k=13\/k=14 then some (k-8)
 else if 21<=k/\k<=25 then some (k-10)else if 26<=k/\k<=30 then some (k-9)else if k=31\/k=32 then some (k-8)else none
def h6(k m:Nat):Option Bytes :=
 if 1<=k/\k<=4 then
  if m=0 then some [u8 (oE k)]
  else if m=2/\k≠4 then some [27,u8 (oE k)]
  else if m=1/\k=2 then some (e7 [90] [])
  else some (e7 [117] [oE k,m+1])
 else match rK k with
 |some c=>if m=0 then some (e7 [c] [])else some (e7 [c] [1,m+1])
 |none =>
  if m=0/\21<=k/\k<=24 then some [27,79,u8 (80+(k-21))]
  else match mX k with
  |some n=>if m=0 then some (e7 [126] [n])else some (e7 [126] [n,m+1])
  |none=>none
def gI(c:Nat):Nat:=if c=1 then 1 else if c=2 then 2 else if c=4 then 64 else if c=5 then 65 else if c=6 then 35 else 0
def l3(c m x y:Nat):Bytes:=27::91::60::(gd [gI c+4*m,x+1,y+1]++[if c=3 then 109 else 77])
def rL(e:aP):Bool:=decide (0<=e.code)&&decide (e.code<=6)&&decide (e.cI<=7)&&decide (0<=e.x)&&decide (e.x<4096)&&decide (0<=e.y)&&decide (e.y<4096)&&decide (e.text=[])
def hasEnd:Bytes->Bool
 |[]=>false
 |b::r=>cm.isPrefixOf (b::r) || hasEnd r
def mY:Bytes:=[27,91,50,48,48,126]
def h7(e:aP):Bool:=decide (e.x=0)&&decide (e.y=0)&&decide (e.text=[])
def enc(e:aP):Option Bytes :=
 if e.kind=3 then if rL e=true then some (l3 e.code.toNat e.cI.toNat e.x.toNat e.y.toNat)else none
 else if 7<e.cI then none
 else if e.kind=1/\h7 e=true/\shown e.code=true then some (jt e.code.toNat e.cI.toNat)
 else if e.kind=2/\h7 e=true then if 0<=e.code then h6 e.code.toNat e.cI.toNat else none
 else if e=⟨5,0,0,0,0,[]⟩then some (e7 [79] [])
 else if e=⟨5,1,0,0,0,[]⟩then some (e7 [73] [])
 else if e=⟨4,0,0,0,0,e.text⟩/\e.text.length<=65536/\hasEnd e.text=false then some (mY++(e.text++cm))
 else if e=⟨6,0,0,0,0,e.text⟩/\e.text.length<=62 then
  if(cB zero (27::91::e.text)).2=[e]/\held (cB zero (27::91::e.text)).1=0 then some (27::91::e.text)else none
 else none
def TX(w:Bytes)(b:UInt8):number (w++[b])=10*number w+(b.toNat-48):=by unfold number;rw [List.foldl_append];rfl
def TY(n:Nat):decDigits n≠[]:=by intro h;have:=decDigits_length n;rw [h]at this;have:=nDigits_pos n;simp at *; omega
def j5{n k:Nat}(h:n<10^(k+1)):(decDigits n).length<=k+1:=by
 rw [decDigits_length];induction k generalizing n with
 |zero=>rw [nDigits_small (by simpa using h)];omega
 |succ k ih =>
  by_cases a:n<10
  .rw [nDigits_small a];omega
  .rw [nDigits_big a];have:=ih (n:=n/10) (by rw [Nat.pow_succ]at h;omega);omega
def TZ{w:Bytes}(h:w.all digit=true):splitAt 59 w=[w]:=by
 induction w with
 |nil=>rfl
 |cons b t ih =>
  simp only [iE,cC]at h;have a:¬b=59:=by rintro rfl;exact absurd h.1 aC
  rw [splitAt,ai a,ih h.2]
def T0(w:Bytes)(b:UInt8):(w++[b]).getLastD 0=b:= au
end Go.Keys
namespace Go.Proofs.zz
open Go.br Go.Keys
abbrev fk:J:= .int .u8 0
abbrev l4(l:List J):aa:=aa.an [.agg l] 24 true (some (154,24))
abbrev iu:aa:=l4 [fk,fk,fk,fk,fk,fk,fk,fk,fk,fk,fk,fk,fk,fk,fk,fk,fk,fk,fk,fk,fk,fk,fk,fk]
def gf:Bytes:=Lib.smalls.data.toList
def T1(a:Nat)(b:aU)(c:(0<=(a:Int)/\(a:Int)<=4294967295)/\(da 100)/\(0<=((a:Int).tmod 100)*2/\((a:Int).tmod 100)*2<=4294967295)/\((da 100)/\dP .u32 ((a:Int).tdiv 100))/\(0<=((a:Int).tmod 100)*2+1/\((a:Int).tmod 100)*2+1<=4294967295)/\(0<=((a:Int).tmod 100)*2+1/\((a:Int).tmod 100)*2+1<200)/\(0<=((a:Int).tmod 100)*2/\((a:Int).tmod 100)*2<200)/\(0<=48+(a:Int).tdiv 100/\48+(a:Int).tdiv 100<=4294967295)/\(0<=48+(a:Int).tdiv 100/\48+(a:Int).tdiv 100<=255)/\b .bZ (af 46 [(0,(aa.an ([.agg [.ac (48+(a:Int).tdiv 100),.ac (↑(UInt8.toNat (List.getD gf (((a:Int).tmod 100*2).toNat) 0)):Int),.ac (↑(UInt8.toNat (List.getD gf (((a:Int).tmod 100*2+1).toNat) 0)):Int),.ac 0,.ac 0,.ac 0,.ac 0,.ac 0,.ac 0,.ac 0,.ac 0,.ac 0,.ac 0,.ac 0,.ac 0,.ac 0,.ac 0,.ac 0,.ac 0,.ac 0,.ac 0,.ac 0,.ac 0,.ac 0]]) 24 true (some (154,24))))])) :
 bl 121 [.slice (some ⟨0,0,0,1,24⟩) 3 24,.int .u64 a] (T.rows 1 [(0,iu)]) b :=
 bm bL (.aG (.rounds 300)<|ab 12001<|ab 21001<|ab 21002<|ab 22001<|ab 23007<|ab 23008<|ab 23010<|ab 26002<|ab 26003 .nil) c
def T2(a:Nat)(b:aU)(c:(0<=(a:Int)/\(a:Int)<=4294967295)/\(da 10000)/\((da 10000)/\dP .u32 ((a:Int).tdiv 10000))/\((da 100)/\dP .u32 (((a:Int).tmod 10000).tdiv 100))/\(0<=(((a:Int).tmod 10000).tdiv 100)*2/\(((a:Int).tmod 10000).tdiv 100)*2<=4294967295)/\(da 100)/\(0<=(((a:Int).tmod 10000).tmod 100)*2/\(((a:Int).tmod 10000).tmod 100)*2<=4294967295)/\(0<=(((a:Int).tmod 10000).tmod 100)*2+1/\(((a:Int).tmod 10000).tmod 100)*2+1<=4294967295)/\(0<=(((a:Int).tmod 10000).tmod 100)*2+1/\(((a:Int).tmod 10000).tmod 100)*2+1<200)/\(0<=(((a:Int).tmod 10000).tmod 100)*2/\(((a:Int).tmod 10000).tmod 100)*2<200)/\(0<=(((a:Int).tmod 10000).tdiv 100)*2+1/\(((a:Int).tmod 10000).tdiv 100)*2+1<=4294967295)/\(0<=(((a:Int).tmod 10000).tdiv 100)*2+1/\(((a:Int).tmod 10000).tdiv 100)*2+1<200)/\(0<=(((a:Int).tmod 10000).tdiv 100)*2/\(((a:Int).tmod 10000).tdiv 100)*2<200)/\b .bZ (af 62 [(0,(aa.an ([.agg [.ac (↑(UInt8.toNat (List.getD gf ((((a:Int).tmod 10000).tdiv 100*2).toNat) 0)):Int),.ac (↑(UInt8.toNat (List.getD gf ((((a:Int).tmod 10000).tdiv 100*2+1).toNat) 0)):Int),.ac (↑(UInt8.toNat (List.getD gf ((((a:Int).tmod 10000).tmod 100*2).toNat) 0)):Int),.ac (↑(UInt8.toNat (List.getD gf ((((a:Int).tmod 10000).tmod 100*2+1).toNat) 0)):Int),.ac 0,.ac 0,.ac 0,.ac 0,.ac 0,.ac 0,.ac 0,.ac 0,.ac 0,.ac 0,.ac 0,.ac 0,.ac 0,.ac 0,.ac 0,.ac 0,.ac 0,.ac 0,.ac 0,.ac 0]]) 24 true (some (154,24))))])) :
 bl 121 [.slice (some ⟨0,0,0,1,24⟩) 4 24,.int .u64 a] (T.rows 1 [(0,iu)]) b :=
 bm bL (.aG (.rounds 300)<|ab 12001<|ab 14001<|ab 15001<|ab 16001<|ab 16002<|ab 16004<|ab 16005<|ab 17007<|ab 17008<|ab 17010<|ab 18007<|ab 18008<|ab 18010 .nil) c
def T3(a:Nat)(b:aU)(c:(0<=(a:Int)/\(a:Int)<=4294967295)/\(da 10000)/\((da 10000)/\dP .u32 ((a:Int).tdiv 10000))/\((da 100)/\dP .u32 (((a:Int).tmod 10000).tdiv 100))/\(0<=(((a:Int).tmod 10000).tdiv 100)*2/\(((a:Int).tmod 10000).tdiv 100)*2<=4294967295)/\(da 100)/\(0<=(((a:Int).tmod 10000).tmod 100)*2/\(((a:Int).tmod 10000).tmod 100)*2<=4294967295)/\(0<=(((a:Int).tmod 10000).tmod 100)*2+1/\(((a:Int).tmod 10000).tmod 100)*2+1<=4294967295)/\(0<=(((a:Int).tmod 10000).tmod 100)*2+1/\(((a:Int).tmod 10000).tmod 100)*2+1<200)/\(0<=(((a:Int).tmod 10000).tmod 100)*2/\(((a:Int).tmod 10000).tmod 100)*2<200)/\(0<=(((a:Int).tmod 10000).tdiv 100)*2+1/\(((a:Int).tmod 10000).tdiv 100)*2+1<=4294967295)/\(0<=(((a:Int).tmod 10000).tdiv 100)*2+1/\(((a:Int).tmod 10000).tdiv 100)*2+1<200)/\(0<=(((a:Int).tmod 10000).tdiv 100)*2/\(((a:Int).tmod 10000).tdiv 100)*2<200)/\(0<=48+(a:Int).tdiv 10000/\48+(a:Int).tdiv 10000<=4294967295)/\(0<=48+(a:Int).tdiv 10000/\48+(a:Int).tdiv 10000<=255)/\b .bZ (af 68 [(0,(aa.an ([.agg [.ac (48+(a:Int).tdiv 10000),.ac (↑(UInt8.toNat (List.getD gf ((((a:Int).tmod 10000).tdiv 100*2).toNat) 0)):Int),.ac (↑(UInt8.toNat (List.getD gf ((((a:Int).tmod 10000).tdiv 100*2+1).toNat) 0)):Int),.ac (↑(UInt8.toNat (List.getD gf ((((a:Int).tmod 10000).tmod 100*2).toNat) 0)):Int),.ac (↑(UInt8.toNat (List.getD gf ((((a:Int).tmod 10000).tmod 100*2+1).toNat) 0)):Int),.ac 0,.ac 0,.ac 0,.ac 0,.ac 0,.ac 0,.ac 0,.ac 0,.ac 0,.ac 0,.ac 0,.ac 0,.ac 0,.ac 0,.ac 0,.ac 0,.ac 0,.ac 0,.ac 0]]) 24 true (some (154,24))))])) :
 bl 121 [.slice (some ⟨0,0,0,1,24⟩) 5 24,.int .u64 a] (T.rows 1 [(0,iu)]) b :=
 bm bL (.aG (.rounds 300)<|ab 12001<|ab 14001<|ab 15001<|ab 16001<|ab 16002<|ab 16004<|ab 16005<|ab 17007<|ab 17008<|ab 17010<|ab 18007<|ab 18008<|ab 18010<|ab 26002<|ab 26003 .nil) c
def T4(a:Nat)(b:aU)(c:(0<=(a:Int)/\(a:Int)<=4294967295)/\(da 10000)/\((da 10000)/\dP .u32 ((a:Int).tdiv 10000))/\((da 100)/\dP .u32 (((a:Int).tmod 10000).tdiv 100))/\(0<=(((a:Int).tmod 10000).tdiv 100)*2/\(((a:Int).tmod 10000).tdiv 100)*2<=4294967295)/\(da 100)/\(0<=(((a:Int).tmod 10000).tmod 100)*2/\(((a:Int).tmod 10000).tmod 100)*2<=4294967295)/\(0<=(((a:Int).tmod 10000).tmod 100)*2+1/\(((a:Int).tmod 10000).tmod 100)*2+1<=4294967295)/\(0<=(((a:Int).tmod 10000).tmod 100)*2+1/\(((a:Int).tmod 10000).tmod 100)*2+1<200)/\(0<=(((a:Int).tmod 10000).tmod 100)*2/\(((a:Int).tmod 10000).tmod 100)*2<200)/\(0<=(((a:Int).tmod 10000).tdiv 100)*2+1/\(((a:Int).tmod 10000).tdiv 100)*2+1<=4294967295)/\(0<=(((a:Int).tmod 10000).tdiv 100)*2+1/\(((a:Int).tmod 10000).tdiv 100)*2+1<200)/\(0<=(((a:Int).tmod 10000).tdiv 100)*2/\(((a:Int).tmod 10000).tdiv 100)*2<200)/\(da 100)/\(0<=(((a:Int).tdiv 10000).tmod 100)*2/\(((a:Int).tdiv 10000).tmod 100)*2<=4294967295)/\((da 100)/\dP .u32 (((a:Int).tdiv 10000).tdiv 100))/\(0<=(((a:Int).tdiv 10000).tmod 100)*2+1/\(((a:Int).tdiv 10000).tmod 100)*2+1<=4294967295)/\(0<=(((a:Int).tdiv 10000).tmod 100)*2+1/\(((a:Int).tdiv 10000).tmod 100)*2+1<200)/\(0<=(((a:Int).tdiv 10000).tmod 100)*2/\(((a:Int).tdiv 10000).tmod 100)*2<200)/\b .bZ (af 87 [(0,(aa.an ([.agg [.ac (↑(UInt8.toNat (List.getD gf ((((a:Int).tdiv 10000).tmod 100*2).toNat) 0)):Int),.ac (↑(UInt8.toNat (List.getD gf ((((a:Int).tdiv 10000).tmod 100*2+1).toNat) 0)):Int),.ac (↑(UInt8.toNat (List.getD gf ((((a:Int).tmod 10000).tdiv 100*2).toNat) 0)):Int),.ac (↑(UInt8.toNat (List.getD gf ((((a:Int).tmod 10000).tdiv 100*2+1).toNat) 0)):Int),.ac (↑(UInt8.toNat (List.getD gf ((((a:Int).tmod 10000).tmod 100*2).toNat) 0)):Int),.ac (↑(UInt8.toNat (List.getD gf ((((a:Int).tmod 10000).tmod 100*2+1).toNat) 0)):Int),.ac 0,.ac 0,.ac 0,.ac 0,.ac 0,.ac 0,.ac 0,.ac 0,.ac 0,.ac 0,.ac 0,.ac 0,.ac 0,.ac 0,.ac 0,.ac 0,.ac 0,.ac 0]]) 24 true (some (154,24))))])) :
 bl 121 [.slice (some ⟨0,0,0,1,24⟩) 6 24,.int .u64 a] (T.rows 1 [(0,iu)]) b :=
 bm bL (.aG (.rounds 300)<|ab 12001<|ab 14001<|ab 15001<|ab 16001<|ab 16002<|ab 16004<|ab 16005<|ab 17007<|ab 17008<|ab 17010<|ab 18007<|ab 18008<|ab 18010<|ab 21001<|ab 21002<|ab 22001<|ab 23007<|ab 23008<|ab 23010 .nil) c
def T5(a:Nat)(b:aU)(c:(0<=(a:Int)/\(a:Int)<=4294967295)/\(da 10000)/\((da 10000)/\dP .u32 ((a:Int).tdiv 10000))/\((da 100)/\dP .u32 (((a:Int).tmod 10000).tdiv 100))/\(0<=(((a:Int).tmod 10000).tdiv 100)*2/\(((a:Int).tmod 10000).tdiv 100)*2<=4294967295)/\(da 100)/\(0<=(((a:Int).tmod 10000).tmod 100)*2/\(((a:Int).tmod 10000).tmod 100)*2<=4294967295)/\(0<=(((a:Int).tmod 10000).tmod 100)*2+1/\(((a:Int).tmod 10000).tmod 100)*2+1<=4294967295)/\(0<=(((a:Int).tmod 10000).tmod 100)*2+1/\(((a:Int).tmod 10000).tmod 100)*2+1<200)/\(0<=(((a:Int).tmod 10000).tmod 100)*2/\(((a:Int).tmod 10000).tmod 100)*2<200)/\(0<=(((a:Int).tmod 10000).tdiv 100)*2+1/\(((a:Int).tmod 10000).tdiv 100)*2+1<=4294967295)/\(0<=(((a:Int).tmod 10000).tdiv 100)*2+1/\(((a:Int).tmod 10000).tdiv 100)*2+1<200)/\(0<=(((a:Int).tmod 10000).tdiv 100)*2/\(((a:Int).tmod 10000).tdiv 100)*2<200)/\(da 100)/\(0<=(((a:Int).tdiv 10000).tmod 100)*2/\(((a:Int).tdiv 10000).tmod 100)*2<=4294967295)/\((da 100)/\dP .u32 (((a:Int).tdiv 10000).tdiv 100))/\(0<=(((a:Int).tdiv 10000).tmod 100)*2+1/\(((a:Int).tdiv 10000).tmod 100)*2+1<=4294967295)/\(0<=(((a:Int).tdiv 10000).tmod 100)*2+1/\(((a:Int).tdiv 10000).tmod 100)*2+1<200)/\(0<=(((a:Int).tdiv 10000).tmod 100)*2/\(((a:Int).tdiv 10000).tmod 100)*2<200)/\(0<=48+((a:Int).tdiv 10000).tdiv 100/\48+((a:Int).tdiv 10000).tdiv 100<=4294967295)/\(0<=48+((a:Int).tdiv 10000).tdiv 100/\48+((a:Int).tdiv 10000).tdiv 100<=255)/\b .bZ (af 93 [(0,(aa.an ([.agg [.ac (48+((a:Int).tdiv 10000).tdiv 100),.ac (↑(UInt8.toNat (List.getD gf ((((a:Int).tdiv 10000).tmod 100*2).toNat) 0)):Int),.ac (↑(UInt8.toNat (List.getD gf ((((a:Int).tdiv 10000).tmod 100*2+1).toNat) 0)):Int),.ac (↑(UInt8.toNat (List.getD gf ((((a:Int).tmod 10000).tdiv 100*2).toNat) 0)):Int),.ac (↑(UInt8.toNat (List.getD gf ((((a:Int).tmod 10000).tdiv 100*2+1).toNat) 0)):Int),.ac (↑(UInt8.toNat (List.getD gf ((((a:Int).tmod 10000).tmod 100*2).toNat) 0)):Int),.ac (↑(UInt8.toNat (List.getD gf ((((a:Int).tmod 10000).tmod 100*2+1).toNat) 0)):Int),.ac 0,.ac 0,.ac 0,.ac 0,.ac 0,.ac 0,.ac 0,.ac 0,.ac 0,.ac 0,.ac 0,.ac 0,.ac 0,.ac 0,.ac 0,.ac 0,.ac 0]]) 24 true (some (154,24))))])) :
 bl 121 [.slice (some ⟨0,0,0,1,24⟩) 7 24,.int .u64 a] (T.rows 1 [(0,iu)]) b :=
 bm bL (.aG (.rounds 300)<|ab 12001<|ab 14001<|ab 15001<|ab 16001<|ab 16002<|ab 16004<|ab 16005<|ab 17007<|ab 17008<|ab 17010<|ab 18007<|ab 18008<|ab 18010<|ab 21001<|ab 21002<|ab 22001<|ab 23007<|ab 23008<|ab 23010<|ab 26002<|ab 26003 .nil) c
end Go.Proofs.zz
namespace Go.Keys
open Go.Lib
def Scalar(r:Nat):Prop:=r<55296\/(57343<r/\r<=1114111)
variable {i k n r:Nat}
def j6(h:n<256):(u8 n).toNat=n:=by unfold u8;rw [qv];omega
def put_eq(hs:Scalar r):put r=if r<128 then [u8 r]else if r<2048 then [u8 (192+r/64),u8 (128+r%64)]
 else if r<65536 then [u8 (224+r/4096),u8 (128+r/64%64),u8 (128+r%64)]
 else [u8 (240+r/262144),u8 (128+r/4096%64),u8 (128+r/64%64),u8 (128+r%64)]:=by
 unfold Scalar at hs;have e:(if 55296<=r/\r<=57343\/1114111<r then 65533 else r)=r:=ai A;unfold put;simp only [e]
def lR(h:r<128):put r=[u8 r]:=by rw [put_eq (.inl A),az h]
def pN(Y:128<=r)(h:r<2048):put r=[u8 (192+r/64),u8 (128+r%64)]:=by rw [put_eq (.inl A),ai A,az h]
def od(hs:Scalar r)(Y:2048<=r)(h:r<65536):put r=[u8 (224+r/4096),u8 (128+r/64%64),u8 (128+r%64)]:=by rw [put_eq hs,ai A,ai A,az h]
def pO(hs:Scalar r)(Y:65536<=r):put r=[u8 (240+r/262144),u8 (128+r/4096%64),u8 (128+r/64%64),u8 (128+r%64)]:=by rw [put_eq hs,ai A,ai A,ai A]
def CW(h:n<128):lead n=(1,0,0):=by unfold lead;rw [az h]
def IV(Y:194<=n)(h:n<=223):lead n=(2,128,191):=by unfold lead;rw [ai A,az ⟨Y,h⟩]
def IW(Y:224<=n)(h:n<=239):lead n=(3,if n=224 then 160 else 128,if n=237 then 159 else 191):=by
 unfold lead;rw [ai A,ai A];by_cases a:n=224
 .rw [az a,az a,ai A]
 .rw [ai a,ai a];by_cases b:n=237
  .rw [az b,az b]
  .rw [ai b,ai b,az A]
def IX(Y:240<=n)(h:n<=244):lead n=(4,if n=240 then 144 else 128,if n=244 then 143 else 191):=by
 unfold lead;rw [ai A,ai A,ai A,ai A,ai A];by_cases a:n=240
 .rw [az a,az a,ai A]
 .rw [ai a,ai a];by_cases b:n=244
  .rw [ai A,az b,az b]
  .rw [az A,ai b]
structure CX(r:Nat):Prop where
 whole:first (put r)=(r,(put r).length,false)
 parts:∀k,0<k->k<(put r).length->(first ((put r).take k)).2.2=true
 T6:1<(put r).length-> ∀b∈put r,128<=b.toNat
def rM(i aD ah v:Nat)(l:Bytes):tail 0 i aD ah v l=(v,i,false):=by unfold tail;rfl
def tail_nil(k i aD ah v:Nat):tail (k+1) i aD ah v []=(65533,i,true):=rfl
variable {c:UInt8}
def kF{aD ah v:Nat}{r:Bytes}(Y:aD<=c.toNat)(ag:c.toNat<=ah):tail (k+1) i aD ah v (c::r)=tail k (i+1) 128 191 (v*64+c.toNat%64) r:=by rw [tail,ai A]
def mZ{b:UInt8}{r:Bytes}{aD ah:Nat}(h:lead b.toNat=(k+2,aD,ah)):first (b::r)=tail (k+1) 1 aD ah (b.toNat%2^(7- (k+2))) r:=by simp only [first,h];rw [ai A,ai A];rfl
def chars(hs:Scalar r):CX r:=by
 have i:=hs;unfold Scalar at i;by_cases Y:r<128
 .rw [show CX r=CX r from rfl];refine⟨?_,?_,?_⟩
  .rw [lR Y];simp only [first,j6 (show r<256 by omega),CW Y];rfl
  .rw [lR Y];intro k a b;simp only [bK,cq]at b;omega
  .rw [lR Y];intro a;simp at a
 by_cases ag:r<2048
 .have e:=pN A ag;have a0:(u8 (192+r/64)).toNat=192+r/64:=j6 A;have aq:(u8 (128+r%64)).toNat=128+r%64:=j6 A;have f:lead (u8 (192+r/64)).toNat=(0+2,128,191):=by rw [a0];exact IV A A
  refine⟨?_,?_,?_⟩
  .rw [e,mZ f,kF A A,rM,a0,aq];simp only [bK,cq,bC,hE,Nat.reduceAdd];omega
  .intro k c d;rw [e]at d⊢;simp only [bK,cq]at d;obtain rfl:k=1:= A;show(first [_]).2.2=true;rw [mZ f,tail_nil]
  .rw [e];intro _ b g;simp only [dR,ia,hh]at g;rcases g with rfl|rfl<;>omega
 by_cases h:r<65536
 .have e:=od hs A h;have a0:(u8 (224+r/4096)).toNat=224+r/4096:=j6 A;have aq:(u8 (128+r/64%64)).toNat=128+r/64%64:=j6 A;have a2:(u8 (128+r%64)).toNat=128+r%64:=j6 A;have f:lead (u8 (224+r/4096)).toNat=(1+2,if 224+r/4096=224 then 160 else 128,if 224+r/4096=237 then 159 else 191):=by rw [a0];exact IW A A
  refine⟨?_,?_,?_⟩
  .rw [e,mZ f,kF (by rw [aq];split<;>omega) (by rw [aq];split<;>omega),kF A A,rM,a0,aq,a2];simp only [bK,cq,bC,hE,Nat.reduceAdd];omega
  .intro k c d;rw [e]at d⊢;simp only [bK,cq]at d;rcases (show k=1\/k=2 by omega)with rfl|rfl
   .show(first [_]).2.2=true;rw [mZ f,tail_nil]
   .show(first [_,_]).2.2=true;rw [mZ f,kF (by rw [aq];split<;>omega) (by rw [aq];split<;>omega),tail_nil]
  .rw [e];intro _ b g;simp only [dR,ia,hh]at g;rcases g with rfl|rfl|rfl<;>omega
 .have e:=pO hs A;have a0:(u8 (240+r/262144)).toNat=240+r/262144:=j6 A;have aq:(u8 (128+r/4096%64)).toNat=128+r/4096%64:=j6 A;have a2:(u8 (128+r/64%64)).toNat=128+r/64%64:=j6 A;have a3:(u8 (128+r%64)).toNat=128+r%64:=j6 A;have f:lead (u8 (240+r/262144)).toNat=(2+2,if 240+r/262144=240 then 144 else 128,if 240+r/262144=244 then 143 else 191):=by rw [a0];exact IX A A
  refine⟨?_,?_,?_⟩
  .rw [e,mZ f,kF (by rw [aq];split<;>omega) (by rw [aq];split<;>omega),kF A A,kF A A,rM,a0,aq,a2,a3];simp only [bK,cq,bC,hE,Nat.reduceAdd];omega
  .intro k c d;rw [e]at d⊢;simp only [bK,cq]at d;rcases (show k=1\/k=2\/k=3 by omega)with rfl|rfl|rfl
   .show(first [_]).2.2=true;rw [mZ f,tail_nil]
   .show(first [_,_]).2.2=true;rw [mZ f,kF (by rw [aq];split<;>omega) (by rw [aq];split<;>omega),tail_nil]
   .show(first [_,_,_]).2.2=true;rw [mZ f,kF (by rw [aq];split<;>omega) (by rw [aq];split<;>omega),kF A A,tail_nil]
  .rw [e];intro _ b g;simp only [dR,ia,hh]at g;rcases g with rfl|rfl|rfl|rfl<;>omega
def IY(r:Nat):put r≠[]:=by intro h;have:=ti r;rw [h]at this;simp at this
def T7(hs:Scalar r):dv (put r)=[r]:=by
 have h:=(chars hs).whole;unfold dv;cases ae:put r with
 |nil=>exact absurd ae (IY r)
 |cons b t =>
  rw [ae]at h;show gZ (t.length+1) (b::t)=_;unfold gZ;simp only [h];rw [show(b::t).drop (b::t).length=[]by simp];cases t.length<;>rfl
def IZ(hs:Scalar r):valid (put r)=true:=by unfold valid;rw [T7 hs];simp [eM]
def xU{x:Bytes}(a:x≠[]):fr (k+1) x=if(first x).2.2 then([],x)else((first x).1::(fr k (x.drop (first x).2.1)).1,(fr k (x.drop (first x).2.1)).2):=by
 cases x with
 |nil=>exact absurd rfl a
 |cons b r=>rfl
def T8(hs:Scalar r){h:Bytes}(e:put r=h++[c]):bM h c=([r],[]):=by have w:=(chars hs).whole;unfold bM;rw [xU au,<-e,w];simp [ra]
def th{h:Bytes}(e:(first (h++[c])).2.2=true):bM h c=([],h++[c]):=by unfold bM;rw [xU au,az e]
def oF(p:Bytes):Prop:=p=[]\/p=[27]
def I0{p x:Bytes}(h:oF p)(a:x.head? ≠some 27):at' (p++x)=p.length:=by
 rcases h with rfl|rfl
 .cases x with
  |nil=>rfl
  |cons b r =>
   simp only [List.head?_cons,ne_eq,a8]at a;simp [at',a]
 .simp [at']
def xV(p x:Bytes):(p++x).drop p.length=x:= au
variable {nx:h1}
def CY(hs:Scalar r){p h:Bytes}(ae:oF p)(e:put r=h++[c])(a:(put r).head? ≠some 27)(no:bI->bI×List aP):e5 ⟨nx,p++h,h,[]⟩ c no=(zero,[eb r (2*p.length)]):=by
 have f:h.head? ≠some 27:=by
  cases h with
  |nil=>simp
  |cons b t=>rw [e]at a;simpa using a
 have d:at' (p++h)=p.length:=I0 ae f;unfold e5;simp only [T8 hs e,d];rw [ai au,az (.inr (by rw [xV,<-e];exact IZ hs)),jb,xV,<-e,az (IZ hs)];rfl
def uB{p h:Bytes}(e:(first (h++[c])).2.2=true)(no:bI->bI×List aP):e5 ⟨nx,p++h,h,[]⟩ c no=(⟨.cp,p++(h++[c]),h++[c],[]⟩,[]):=by unfold e5;simp only [th e];rw [az au,jb]
def I1(hs:Scalar r){p:Bytes}(ae:oF p)(a:(put r).head? ≠some 27):∀(t h:Bytes),put r=h++t->h≠[]->t≠[]->cB ⟨.cp,p++h,h,[]⟩ t=(zero,[eb r (2*p.length)])
 |[],h,_,_,b=>absurd rfl b
 |[c],h,e,_,_=>by rw [TW];show e5 ⟨.cp,p++h,h,[]⟩ c (λs1=>bad s1 c)=_;exact CY hs ae e a _
 |c ::d::t,h,e,aM,_=>by
  have aQ:put r=(h++[c])++(d::t):=by rw [e];simp
  have o:(first (h++[c])).2.2=true:=by
   have:=(chars hs).parts (h++[c]).length au (by rw [aQ];simp)
   rwa [aQ,List.take_left]at this
  have ff:step ⟨.cp,p++h,h,[]⟩ c=(⟨.cp,p++(h++[c]),h++[c],[]⟩,[]):=by show e5 ⟨.cp,p++h,h,[]⟩ c (λs1=>bad s1 c)=_;exact uB o _
  rw [cB,ff];simp only [eQ];rw [I1 hs ae a (d::t) (h++[c]) aQ au au]
def T9(hs:Scalar r){p:Bytes}(ae:oF p)(k:32<=r)(j:r≠127)(no:bI->bI×List aP){t:Bytes}(e:put r=c::t) :
 cB (e5 ⟨nx,p,[],[]⟩ c no).1 t=(zero,if t=[]then []else [eb r (2*p.length)])/\(e5 ⟨nx,p,[],[]⟩ c no).2=(if t=[]then [eb r (2*p.length)]else [])/\32<=c.toNat/\c.toNat≠127/\(t≠[]->128<=c.toNat)/\(t=[]->c=u8 r/\r<128):=by
 have aj : 32<=c.toNat/\c.toNat≠127/\(t≠[]->128<=c.toNat)/\(t=[]->c=u8 r/\r<128):=by
  by_cases a:t=[]
  .subst a
   have i:r<128:=by
    rcases gK r 128 with h|h
    .exact h
    .exfalso;have b:(put r).length=1:=by rw [e];rfl
     rcases gK r 2048 with ag|ag
     .rw [pN h ag]at b;simp at b
     .rcases gK r 65536 with f|f
      .rw [od hs ag f]at b;simp at b
      .rw [pO hs f]at b;simp at b
   rw [lR i]at e;simp only [fJ,hE]at e;subst e;rw [j6 A];exact⟨k,j,λh=>absurd rfl h,λ_=>⟨rfl,i⟩⟩
  .have Y:1<(put r).length:=by rw [e];simp only [bK];have:=gk.2 a;omega
   have:=(chars hs).T6 Y c (by rw [e];simp);exact⟨A,A,λ_=>this,λh=>absurd h a⟩
 have g:(put r).head? ≠some 27:=by rw [e];intro q;simp only [List.head?_cons,a8]at q;subst q;exact absurd aj.1 aC
 have d:p=p++[]:= au;refine⟨?_,?_,aj⟩
 .by_cases a:t=[]
  .subst a;have:=CY hs ae (h:=[]) (by simpa using e) g (nx:=nx) no;rw [<-d]at this;rw [this];rfl
  .have o:(first ([]++[c])).2.2=true:=by have:=(chars hs).parts 1 aC (by rw [e];simp only [bK];have:=gk.2 a;omega);rw [e]at this;simpa using this
   have:=uB (p:=p) (h:=[]) o (nx:=nx) no;rw [<-d]at this;rw [this,ai a];exact I1 hs ae g t _ (by simpa using e) au a
 .by_cases a:t=[]
  .subst a;have:=CY hs ae (h:=[]) (by simpa using e) g (nx:=nx) no;rw [<-d]at this;rw [this];rfl
  .have o:(first ([]++[c])).2.2=true:=by have:=(chars hs).parts 1 aC (by rw [e];simp only [bK];have:=gk.2 a;omega);rw [e]at this;simpa using this
   have:=uB (p:=p) (h:=[]) o (nx:=nx) no;rw [<-d]at this;rw [this,ai a]
def rN{r:Int}(h:shown r=true):Scalar r.toNat/\32<=r.toNat/\r.toNat≠127/\(r.toNat:Int)=r:=by simp only [shown,cC,eC,eP]at h;unfold Scalar;omega
end Go.Keys
namespace Go.Proofs.zz
open Go.br Go.Keys Go.Lib
def uC(a:Nat):Int.tmod (a:Int) 100=((a%100:Nat):Int):=rfl
def uD(a:Nat):Int.tdiv (a:Int) 100=((a/100:Nat):Int):=rfl
def xW(a:Nat):Int.tmod (a:Int) 10000=((a%10000:Nat):Int):=rfl
def xX(a:Nat):Int.tdiv (a:Int) 10000=((a/10000:Nat):Int):=rfl
variable {n u:Nat}
def p6(h:10<=u):decDigits u=decDigits (u/10)++[u8 (48+u%10)]:=by rw [decDigits,dif_neg A];rfl
def p7(h:u<10):decDigits u=[u8 (48+u)]:=by rw [decDigits,dif_pos h];rfl
def xY(h:n<256):((u8 n).toNat:Int)=(n:Nat):=by rw [j6 h]
def lj{p:Nat}(h:p<100):((UInt8.toNat (List.getD gf (Int.toNat ((p:Int)*2)) 0):Nat):Int)=((48+p/10:Nat):Int):=by have e:Int.toNat ((p:Int)*2)=p*2:= A;rw [e];show((sm (p*2)).toNat:Int)=_;rw [sm_hi p h];exact xY A
def lk{p:Nat}(h:p<100):((UInt8.toNat (List.getD gf (Int.toNat ((p:Int)*2+1)) 0):Nat):Int)=((48+p%10:Nat):Int):=by have e:Int.toNat ((p:Int)*2+1)=p*2+1:= A;rw [e];show((sm (p*2+1)).toNat:Int)=_;rw [sm_lo p h];exact xY A
def ll(h:n<=4294967295):dP .u32 (n:Int):=⟨by show(0:Int)<=_;omega,by show _<=(4294967295:Int);omega⟩
def uE(h:u<10):aE (decDigits u)=[.ac ((48+u:Nat):Int)]:=by rw [p7 h];show [J.ac ((u8 (48+u)).toNat:Int)]=_;rw [xY A]
def hd(h:10<=u):aE (decDigits u)=aE (decDigits (u/10))++[.ac ((48+u%10:Nat):Int)]:=by rw [p6 h];show List.map _ (_++_)=_;rw [nH];show _++[J.ac ((u8 (48+u%10)).toNat:Int)]=_;rw [xY A];rfl
def gS(u a:Nat):aa:=l4 (aE (decDigits u)++List.replicate (24-a) fk)
def T'(Y:100<=u)(ag:u<1000):be 121 [.slice (some ⟨0,0,0,1,24⟩) 3 24,.int .u64 u] (T.rows 1 [(0,iu)]) (.tuple []) (T.bO 46 [(0,gS u 3)]):=by
 obtain⟨v,Z,a,rfl,rfl⟩:=T1 u (λv Z=>v=.tuple []/\Z=T.bO 46 [(0,gS u 3)]) (by
  simp only [uC,uD,lj (show u%100<100 by omega),lk (show u%100<100 by omega)];refine⟨A,A,A,⟨A,ll A⟩,A,A,A,A,A,True.intro,?_⟩;unfold gS l4;rw [hd A,hd A,uE A,qC];simp only [show 10*10=100 from rfl,show u/10%10=u%100/10 by omega,show u%10=u%100%10 by omega]
  rfl)
 exact a
def Ua(Y:1000<=u)(ag:u<10000):be 121 [.slice (some ⟨0,0,0,1,24⟩) 4 24,.int .u64 u] (T.rows 1 [(0,iu)]) (.tuple []) (T.bO 62 [(0,gS u 4)]):=by
 obtain⟨v,Z,a,rfl,rfl⟩:=T2 u (λv Z=>v=.tuple []/\Z=T.bO 62 [(0,gS u 4)]) (by
  simp only [uC,uD,xW,xX,lj (show u%10000%100<100 by omega),lk (show u%10000%100<100 by omega),lj (show u%10000/100<100 by omega),lk (show u%10000/100<100 by omega)];refine⟨A,A,⟨A,ll A⟩,⟨A,ll A⟩,A,A,A,A,A,A,A,A,A,True.intro,?_⟩;unfold gS l4;rw [hd A,hd A,hd A,uE A];simp only [qC,Nat.reduceMul,show 48+u/1000=48+u%10000/100/10 by omega,show u/100%10=u%10000/100%10 by omega,show u/10%10=u%10000%100/10 by omega,show u%10=u%10000%100%10 by omega]
  rfl)
 exact a
def Ub(Y:10000<=u)(ag:u<100000):be 121 [.slice (some ⟨0,0,0,1,24⟩) 5 24,.int .u64 u] (T.rows 1 [(0,iu)]) (.tuple []) (T.bO 68 [(0,gS u 5)]):=by
 obtain⟨v,Z,a,rfl,rfl⟩:=T3 u (λv Z=>v=.tuple []/\Z=T.bO 68 [(0,gS u 5)]) (by
  simp only [uC,uD,xW,xX,lj (show u%10000%100<100 by omega),lk (show u%10000%100<100 by omega),lj (show u%10000/100<100 by omega),lk (show u%10000/100<100 by omega)];refine⟨A,A,⟨A,ll A⟩,⟨A,ll A⟩,A,A,A,A,A,A,A,A,A,A,A,True.intro,?_⟩;unfold gS l4;rw [hd A,hd A,hd A,hd A,uE A];simp only [qC,Nat.reduceMul,show u/1000%10=u%10000/100/10 by omega,show u/100%10=u%10000/100%10 by omega,show u/10%10=u%10000%100/10 by omega,show u%10=u%10000%100%10 by omega]
  rfl)
 exact a
def Uc(Y:100000<=u)(ag:u<1000000):be 121 [.slice (some ⟨0,0,0,1,24⟩) 6 24,.int .u64 u] (T.rows 1 [(0,iu)]) (.tuple []) (T.bO 87 [(0,gS u 6)]):=by
 obtain⟨v,Z,a,rfl,rfl⟩:=T4 u (λv Z=>v=.tuple []/\Z=T.bO 87 [(0,gS u 6)]) (by
  simp only [uC,uD,xW,xX,lj (show u%10000%100<100 by omega),lk (show u%10000%100<100 by omega),lj (show u%10000/100<100 by omega),lk (show u%10000/100<100 by omega),lj (show u/10000%100<100 by omega),lk (show u/10000%100<100 by omega)];refine⟨A,A,⟨A,ll A⟩,⟨A,ll A⟩,A,A,A,A,A,A,A,A,A,A,A,⟨A,ll A⟩,A,A,A,True.intro,?_⟩;unfold gS l4;rw [hd A,hd A,hd A,hd A,hd A,uE A];simp only [qC,Nat.reduceMul,show 48+u/100000=48+u/10000%100/10 by omega,show u/10000%10=u/10000%100%10 by omega,show u/1000%10=u%10000/100/10 by omega,show u/100%10=u%10000/100%10 by omega,show u/10%10=u%10000%100/10 by omega,show u%10=u%10000%100%10 by omega]
  rfl)
 exact a
def Ud(Y:1000000<=u)(ag:u<10000000):be 121 [.slice (some ⟨0,0,0,1,24⟩) 7 24,.int .u64 u] (T.rows 1 [(0,iu)]) (.tuple []) (T.bO 93 [(0,gS u 7)]):=by
 obtain⟨v,Z,a,rfl,rfl⟩:=T5 u (λv Z=>v=.tuple []/\Z=T.bO 93 [(0,gS u 7)]) (by
  simp only [uC,uD,xW,xX,lj (show u%10000%100<100 by omega),lk (show u%10000%100<100 by omega),lj (show u%10000/100<100 by omega),lk (show u%10000/100<100 by omega),lj (show u/10000%100<100 by omega),lk (show u/10000%100<100 by omega)];refine⟨A,A,⟨A,ll A⟩,⟨A,ll A⟩,A,A,A,A,A,A,A,A,A,A,A,⟨A,ll A⟩,A,A,A,A,A,True.intro,?_⟩;unfold gS l4;rw [hd A,hd A,hd A,hd A,hd A,hd A,uE A];simp only [qC,Nat.reduceMul,show u/100000%10=u/10000%100/10 by omega,show u/10000%10=u/10000%100%10 by omega,show u/1000%10=u%10000/100/10 by omega,show u/100%10=u%10000/100%10 by omega,show u/10%10=u%10000%100/10 by omega,show u%10=u%10000%100%10 by omega]
  rfl)
 exact a
end Go.Proofs.zz
namespace Go.Proofs.zz
open Go.br Go.Keys
structure dF(H:T)(j:Nat)(v:J)(bs:Bytes):Prop where
 ex:∃b:aa,v=.slice (some ⟨j,b.ad,0,0,1⟩) bs.length bs.length/\H.get j=some b/\b.ro=false/\b.bg=aE bs/\(b.exact=false->b.ty=none\/b.ty=some (5,0))
 lt:j<H.M
variable {bs s:Bytes}{i j k n q u:Nat}
def dF.keep{H H':T}{v:J}(g:dF H j v bs)(ab:H'.get j=H.get j)(aw:H.M<=H'.M):dF H' j v bs:=by obtain⟨b,Y,ag,a⟩:=g.ex;have c:=g.lt;exact⟨⟨b,Y,by rw [ab];exact ag,a⟩,A⟩
def dF.bg{H:T}{v:J}(g:dF H j v bs):ed 1 v H=some (aE bs):=by
 obtain⟨b,rfl,ag,c,a,d⟩:=g.ex;simp only [ed,dG,ag];split
 .rename_i h;rw [pc h];rfl
 .rw [az ⟨by simp [aa.b6,a,aE],by simp [a,aE]⟩,a];rw [lz,nE (by rw [gD];omega)]
def dF.an{H:T}{e:Bool}{ty:bw}(ab:H.get j=some (aa.an (aE bs) 1 e ty))(a:j<H.M)(b:e=false->ty=none\/ty=some (5,0)):dF H j (.aB j 0 0 bs.length bs.length) bs:=⟨⟨_,rfl,ab,rfl,rfl,b⟩,a⟩
def dF.e9{H:T}{nid:Nat}{v x:J}{new:Bytes}(g:dF H j v bs)(m:ed 1 x H=some (aE new))(p:new≠[])(hlen:bs.length+new.length<2^40)(aw:nid<H.M) :
 ∃n H' c,fA env.D 34 v x nid H=some (n,H')/\dF H' c n (bs++new)/\(c=j\/c=nid)/\H'.M=H.M/\∀i,i≠j->i≠nid->H'.get i=H.get i:=by
 have o:=g.bg;obtain⟨b,rfl,ag,d,e,f⟩:=g.ex;have a:(aE new).length=new.length:=gD new;have r:0<new.length:=gk.2 p;rw [<-pD rJ];cases he:b.exact with
 |true =>
  refine⟨_,_,nid,Ob rJ m (by rw [a];omega) (by rw [a];omega) ag ⟨rfl,rfl⟩ (by rw [a];omega) he o,?_,.inr rfl,rfl,λi k l=>T.dN _ _ (lA l)⟩;refine⟨⟨_,?_,T.eD _ _ _,rfl,by simp [aa.an,aE],λ_=> .inr rfl⟩,aw⟩;simp [hF,aa.an,a]
 |false =>
  have q:aE new≠[]:=by intro h;have:=dm List.length h;rw [a,cq]at this;omega
  refine⟨_,_,j,Fk rJ m q (by rw [a];omega) (by rw [a];omega) ag ⟨rfl,rfl⟩ (by rw [a];omega) he d rfl (by simp [e,gD]) (f he),?_,.inl rfl,rfl,λi k l=>T.dN _ _ (lA k)⟩;refine⟨⟨_,?_,T.eD _ _ _,d,by simp [aa.grow,e,aE],λ_=>f he⟩,g.lt⟩;simp [aa.grow,a]
def xZ(s x:J)(nid:Nat)(h:T):eY env .append #[34,34] [s,x] nid h=fA env.D 34 s x nid h:=pD rJ s
def uF(s x:J)(nid:Nat)(h:T):eY env .append #[34,9] [s,x] nid h=fA env.D 34 s x nid h:=by have ag:(bi.D env 9).map (λd=>d.kind)=some .string:= ao;obtain⟨d,Y,k⟩:=cb.1 ag;simp only [eY,List.getElem?_toArray,fR,hj,Y,k]
def CZ(i:Nat):Bytes:=if i<10 then [u8 (48+i)]else [u8 (48+i/10),u8 (48+i%10)]
def Ue(h:i<100):Lib.decDigits i=CZ i:=by
 unfold CZ;split
 .exact p7 ‹_›
 .rw [p6 A,p7 A];rfl
def I2(r:Option (J×T))(i:Nat):Bool:=match r with|some (.str s,_)=>decide (s=CZ i)|_=>false
def Uf:∀i:Fin 100,I2 (hY Tryz.prog env 40 119 [.V (i.val:Int)] ⟨0,.nil⟩) i.val=true:=by decide+kernel
def Ug(h:i<100)(H:T):be 119 [.V (i:Nat)] H (.str (Lib.decDigits i)) H:=by
 have k:=Uf ⟨i,h⟩;simp only at k;unfold I2 at k;split at k
 .rename_i s Y b;rw [mF]at b;have hs:=o2 k;rw [Ue h,<-hs];exact(bj.lG c6 mixed b).bare (λa c=>by rw [cF.1 c];exact b0.of rfl) (b0.of rfl) H
 .cases k
abbrev rO(a b:Nat):J:=J.slice (some ⟨b,0,0,1,24⟩) a 24
def I3(a f e i g:T)(k o h d c b:Nat)(l:Bytes)(m n:J)(j:aU)(p:aY (a.M) (a.M) (aY (a.M) (a.M+1) (aY (a.M+6) (a.M+6) (aY (a.M+6) (a.M+7) ((0<=(d:Int)/\(d:Int)<=18446744073709551615)/\aY (a.M+6) (a.M+10) ((bz false)/\aY (a.M+6) (a.M+12) (aY (a.M+17) (a.M+17) (aY (a.M+17) (a.M+18) (aY (a.M+17) (a.M+20) (((d:Int)<100->aY (a.M+17) (a.M+22) ((bd ((d:Int)))/\bk 119 [.V d] (bf a 28) (.str l) (bf a 28)/\eY env Builtin.append {toList:=[34,9]} [.aB k o 0 h h,.str l] (a.M+26) (bf a 28)=some (m,f)/\cc (a.M+17) (f.M) (cc (a.M+6) (f.M) (cc (a.M) (f.M) (j m f)))))/\(¬(d:Int)<100->aY (a.M+17) (a.M+22) (bt env cr (a.M+22) (ba []) (bf a 23) (Op.alloc 154)=some (J.ptr (some ⟨b,0,0,0,24⟩),e)/\aY (a.M+17) (e.M) (bk 120 [.int .u64 d] (bf e 3) (.V c) (bf e 3)/\aY (a.M+17) (e.M+3) (dW env.D 154 (.ptr (some ⟨b,0,0,0,24⟩)) none (some (.V c)) none=some ((rO c b))/\bk 121 [(rO c b),.int .u64 d] (bf e 7) .bZ i/\aY (a.M+17) (i.M) (dW env.D 154 (.ptr (some ⟨b,0,0,0,24⟩)) none (some (.V c)) none=some ((rO c b))/\eY env Builtin.append {toList:=[34,34]} [.aB k o 0 h h,(rO c b)] (i.M+3) (bf i 5)=some (n,g)/\cc (a.M+17) (g.M) (cc (a.M+6) (g.M) (cc (a.M) (g.M) (j n g)))))))))))))))))) :
 bl 73 [.aB k o 0 h h,.V d,.V 10] a j :=
 bm bL (he 1003<|ab 1001<|ap 2001 .aJ<|he 5003<|.al 2001 (ab 3002<|ap 3003 (.str l)<|.aG (.act 3004 m λb=>f) .nil)<|.aG (.act 4000 (.ptr (some ⟨b,0,0,0,24⟩)) λb=>e)<|ap 5001 (.V c)<|ap 6001 ((rO c b))<|.aG (.act 6003 .bZ λb=>i)<|ap 7002 ((rO c b))<|.aG (.act 7003 n λb=>g) .nil) p
def Uh{l:List J}(h:l1 l=true):b0 (.agg l):=by
 have c:=TS h;refine⟨λr=> ?_,?_⟩
 .have:∀(l:List J),(∀a∈l,b0 a)->J.fc r l=l:=by
   intro l;induction l with
   |nil=>intro _;rfl
   |cons a t ih=>intro h;rw [J.fc,(h a au).1 r,ih λx b=>h x (by simp [b])]
  rw [J.aO,this l c]
 .have:∀(l:List J),(∀a∈l,b0 a)->dO (λ_=>False) l:=by
   intro l;induction l with
   |nil=>intro _;exact trivial
   |cons a t ih=>intro h;exact⟨(h a au).2,ih λx b=>h x (by simp [b])⟩
  exact this l c
def C0{l:List J}(h:l1 l=true):cu (l4 l):=by intro e he;simp only [l4,aa.an,cF]at he;subst he;exact Uh h
def Ui(a b:List J):l1 (a++b)=(l1 a&&l1 b):=by simp [l1]
def Uj(l:Bytes):l1 (aE l)=true:=by simp [l1,aE]
def Uk(u a:Nat):cu (gS u a):=C0 (by rw [Ui,Uj];simp [l1,fk])
def Ul(Y:100<=u)(ag:u<10000000):∃k,be 121 [.slice (some ⟨0,0,0,1,24⟩) (hK u) 24,.int .u64 u] (T.of [iu]) (.tuple []) (T.bO (k+1) [(0,gS u (hK u))]):=by
 have e:T.of [iu]=T.rows 1 [(0,iu)]:= ao;rw [e];unfold hK;rw [ai A,ai A];by_cases a:u<1000
 .rw [az a];exact⟨45,T' Y a⟩
 .rw [ai a];by_cases b:u<10000
  .rw [az b];exact⟨61,Ua A b⟩
  .rw [ai b];by_cases c:u<100000
   .rw [az c];exact⟨67,Ub A c⟩
   .rw [ai c];by_cases d:u<1000000
    .rw [az d];exact⟨86,Uc A d⟩
    .rw [ai d,az ag];exact⟨92,Ud A ag⟩
def Um{x:Nat}{H:T}(Y:100<=u)(ag:u<10000000)(ab:H.get x=some iu)(o:x<H.M) :
 ∃H',be 121 [.slice (some ⟨x,0,0,1,24⟩) (hK u) 24,.int .u64 u] H (.tuple []) H'/\H'.get x=some (gS u (hK u))/\H.M<=H'.M/\∀i,i<H.M->i≠x->H'.get i=H.get i:=by
 obtain⟨k,d⟩:=Ul Y ag;have a:cP [x] H.M 0=x:=pI (ids:=[x]) au
 obtain⟨H',e,aw,f,n⟩:=d.place (by show 1<=k+1;omega) (λb c=>by rw [cF.1 c];exact(C0 aC).dj _) ⟨by show(0:Nat)<1;decide,trivial,trivial⟩ (H:=H) [x] au (λj m=>by rw [cF.1 m];exact o) rfl (λi b h=>by
  cases i with
  |zero =>
   simp only [fR,a8]at h;subst h;rw [a,(C0 aC).aO];exact ab
  |succ i=>simp at h)
 have g:=f 0 (gS u (hK u)) rfl;rw [a,(Uk u (hK u)).aO]at g;refine⟨H',?_,g,by rw [aw];omega,λi ah l=>n i ah (by simpa using l)⟩;simpa [J.aO,J.fc,bB.aO,a]using e
def Un(Y:100<=u)(ag:u<10000000):3<=hK u/\hK u<=7:=by
 unfold hK
 repeat' split
 all_goals omega
def I4(u:Nat)(h:u<10000000):(Lib.decDigits u).length=hK u:=by rw [Lib.decDigits_length,Fq _ A]
def Uo{x:Nat}{H:T}(ag:u<10000000)(ab:H.get x=some (gS u n))(aw:n=hK u)(e:n≠0)(f:n<=24):ed 1 (.slice (some ⟨x,0,0,1,24⟩) n 24) H=some (aE (Lib.decDigits u)):=by
 have d:=I4 u ag;have b:(aE (Lib.decDigits u)).length=n:=by rw [gD,d,aw]
 simp only [ed];rw [ai aC,ai e];simp only [dG,ab];simp only [gS,l4,aa.an,aa.elem?,aa.b6,dG,bK,cq];simp only [Nat.lt_add_one,dG,fR];have a:List.take n (aE (Lib.decDigits u)++List.replicate (24-n) fk)=aE (Lib.decDigits u):=by rw [<-b,List.take_left]
 have c:(List.take n (List.drop (1-1) (aE (Lib.decDigits u)++List.replicate (24-n) fk))).all (λx=>x.hV)=true:=by show(List.take n (List.drop 0 _)).all _=true;rw [lz,a];simp [aE,J.hV]
 rw [az ⟨by simp [b];try omega,c⟩];show some (List.take n (List.drop 0 _))=_;rw [lz,a]
def I5{x:Nat}(aw:n<=24):dW (bi.D env) 154 (J.ptr (some ⟨x,0,0,0,24⟩)) none (some (J.int .i64 (n:Nat))) none=some (J.slice (some ⟨x,0,0,1,24⟩) n 24):=by have Y:(bi.D env 154).map (λd=>d.kind)=some (.array 24 5):= ao;have a:(bi.D env 5).map (λd=>d.size)=some 1:= ao;obtain⟨e,d1,b⟩:=cb.1 Y;obtain⟨f,d3,c⟩:=cb.1 a;simp only [dW,d1,b,d3,c,eI];rw [ai au,az ⟨A,A⟩];simp
def I6{H:T}{v:J}(g:dF H j v bs)(K:bs.length<2^32)(aw:n<10000000) :
 ∃d H' e,be 73 [v,.V (n:Nat),.V 10] H d H'/\dF H' e d (bs++Lib.decDigits n)/\(e=j\/H.M<=e)/\H.M<=H'.M/\∀i,i<H.M->i≠j->H'.get i=H.get i:=by
 have f:∀{a b:Nat}{p:Prop},a<=b->p->_root_.cond (Nat.ble a b) p False:=λh k=>by rw [Nat.ble_eq.mpr h];exact k
 have O:=I4 n aw;have w:=TY n;have N:(Lib.decDigits n).length<=7:=j5 (k:=6) (by simpa using aw);have B:=g.lt;obtain⟨b,rfl,_⟩:=g.ex;by_cases hs:n<100
 .obtain⟨d,H',e,o,m,s,l,ay⟩:=(g.keep (H':=⟨H.M+28,H.aF⟩) rfl (by show H.M<=H.M+28;omega)).e9 (nid:=H.M+26) (x:= .str (Lib.decDigits n)) (by rfl) w A (by show H.M+26<H.M+28;omega);have l:H'.M=H.M+28:=l
  obtain⟨v,Z,q,rfl,rfl⟩:=I3 H H' H H H j b.ad bs.length n 0 0 (Lib.decDigits n) d (.undef) (λv Z=>v=d/\Z=H')
   (aW (Nat.le_refl _) (aW A (aW A (aW A ⟨A,aW A ⟨rfl,aW A (aW A (aW A (aW A ⟨λ_=>aW A ⟨A,⟨Ug hs _⟩,(uF _ _ _ _).trans o,f A (f A (f A ⟨rfl,rfl⟩))⟩,λh=>absurd A h⟩)))⟩⟩))))
  refine⟨_,_,e,q,m,?_,A,λi ah r=>ay i r A⟩;rcases s with h|h
  .exact .inl h
  .exact .inr A
 ·
   have L:=Un (u:=n) A aw
   obtain⟨H2,C,E,y,P⟩:∃H2,(∀F,bt env cr (H.M+22) (ba F) ⟨H.M+23,H.aF⟩ (Op.alloc 154)=some (.ptr (some ⟨H.M+22,0,0,0,24⟩),H2))/\H2.get (H.M+22)=some iu/\(∀i,i<H.M->H2.get i=H.get i)/\H2.M=H.M+23 :=
    ⟨(⟨H.M+23,H.aF⟩:T).set (H.M+22) iu,λF=> ao,T.eD _ _ _,λi ah=>T.dN _ _ A,rfl⟩
   obtain⟨c,D,G,t,z⟩:=Um (u:=n) (x:=H.M+22) (H:=⟨H2.M+7,H2.aF⟩) A aw E (by show H.M+22<H2.M+7;omega);have t:H2.M+7<=c.M:=t
   have I:be 120 [.int .u64 (n:Nat)] ⟨H2.M+3,H2.aF⟩ (.V (hK n:Nat)) ⟨H2.M+3,H2.aF⟩:=bj.Nz Fs (by
    simp only [wm]
    rw [az ⟨A,A⟩,fS])
   have g3:dF ⟨c.M+5,c.aF⟩ j (.aB j b.ad 0 bs.length bs.length) bs:=g.keep (by
    show c.get j=H.get j;rw [z j (by show j<H2.M+7;omega) A]
    exact y j B) (by show H.M<=c.M+5;omega)
   obtain⟨d,H',e,o,m,s,l,ay⟩:=g3.e9 (nid:=c.M+3) (x:= .slice (some ⟨H.M+22,0,0,1,24⟩) (hK n) 24) (Uo (H:=⟨c.M+5,c.aF⟩) aw G rfl A A) w A (by show c.M+3<c.M+5;omega);have l:H'.M=c.M+5:=l
   obtain⟨v,Z,q,rfl,rfl⟩:=I3 H H H2 c H' j b.ad bs.length n (hK n) (H.M+22) [] (.undef) d (λv Z=>v=d/\Z=H')
    (aW (Nat.le_refl _) (aW A (aW A (aW A ⟨A,aW A ⟨rfl,aW A (aW A (aW A (aW A ⟨λh=>absurd h A,λ_=>aW A ⟨C _,aW A ⟨⟨I⟩,aW A ⟨I5 A,⟨D⟩,aW A ⟨I5 A,(xZ _ _ _ _).trans o,f A (f A (f A ⟨rfl,rfl⟩))⟩⟩⟩⟩⟩)))⟩⟩))))
   refine⟨_,_,e,q,m,?_,A,λi ah r=> ?_⟩
   .rcases s with h|h
    .exact .inl h
    .exact .inr A
   .rw [ay i r A];show c.get i=_;rw [z i (by show i<H2.M+7;omega) A];exact y i ah
abbrev hP(a:Nat):J:=J.slice (b5 a) 2 2
def I7(a b d:T)(c:Nat)(g:Bytes)(e:J)(f:aU)(i:aY (a.M) (a.M) (aY (a.M) (a.M+1) (bt env cr (a.M+1) (ba []) (bf a 4) (Op.buildSlice 34 2 {toList:=[(0,Operand.const (Value.int .u8 (27))),(1,Operand.const (Value.int .u8 (91)))]})=some ((hP c),b)/\du env (a.M+2) (ba [(8,(hP c))]) b (Op.convert 34 34 (Operand.tmp 8))=some ((hP c),b)/\aY (a.M) (b.M) (aY (a.M) (b.M+3) (aY (a.M) (b.M+4) (eY env Builtin.append {toList:=[34,9]} [(hP c),.str g] (b.M+6) (bf b 8)=some (e,d)/\cc (a.M) (d.M) (f e d))))))) :
 bl 44 [.str g,.slice none 0 0] a f :=
 bm bL (.aG (.act 1000 ((hP c)) λx=>b)<|.aG (.im 1001 ((hP c)) λh=>h)<|.aG (.rounds 300)<|.aG (.act 9002 e λx=>d) .nil) i
def C1(b p k f:T)(d i j r c n a:Nat)(g:Int)(o:Bytes)(m q h:J)(l:b8->bc->T->Prop)(t:aY d (b.M) (((a:Int)<(c:Int)->aY d (b.M+1) ((0<=(a:Int)/\(a:Int)<(c:Int))/\a6 env.D 3 ⟨i,j,0+(a:Int).toNat,0,1⟩ (bf b 6)=some (.V g)/\aY d (b.M+6) ((0<(a:Int)->aY d (b.M+8) (bt env cr (b.M+9) (ba []) (bf b 12) (Op.buildSlice 34 1 {toList:=[(0,Operand.const (Value.int .u8 (59)))]})=some (J.slice (b5 r) 1 1,p)/\eY env Builtin.append {toList:=[34,34]} [m,.slice (b5 r) 1 1] (b.M+10) p=some (q,k)/\aY d (k.M) (bk 73 [q,.V g,.V 10] (bf k 4) h f/\aY d (f.M) ((bd ((a:Int)+1))/\l .normal [(0,.str o),(5,h),(10,.aB i j 0 c n),(11,.V c),(12,.V ((a:Int)+1))] (bf f 2)))))/\(¬0<(a:Int)->aY d (b.M+8) (bk 73 [m,.V g,.V 10] (bf b 12) h f/\aY d (f.M) ((bd ((a:Int)+1))/\l .normal [(0,.str o),(5,h),(10,.aB i j 0 c n),(11,.V c),(12,.V ((a:Int)+1))] (bf f 2)))))))/\(¬(a:Int)<(c:Int)->l (.exit 0) [(0,.str o),(5,m),(10,.aB i j 0 c n),(11,.V c),(12,.V a)] (bf b 1)))) :
 ∃e s Y,bN d 29 (bu 44 0) [(0,.str o),(5,m),(10,.aB i j 0 c n),(11,.V c),(12,.V a)] b e s Y/\l e s Y :=
 dD c6 mixed bL (hs:= .al 3000 (ab 4001 (ap 4002 (.V g) (.al 5001 (.aG (.act 6001 (.slice (b5 r) 1 1) λg=>p) (.aG (.act 6002 q λg=>k) (.aG (.act 7002 h λg=>f) (ab 8000 .nil)))) (.aG (.act 7002 h λg=>f) (ab 8000 .nil))))) .nil) (keep:=[0,5,10,11,12]) ao t
def Up(a c e g:T)(d j k b i:Nat)(f:Bytes)(l m o:J)(n:aU)(p:aY (a.M) (a.M) (aY (a.M) (a.M+1) (bt env cr (a.M+1) (ba []) (bf a 4) (Op.buildSlice 34 2 {toList:=[(0,Operand.const (Value.int .u8 (27))),(1,Operand.const (Value.int .u8 (91)))]})=some ((hP d),c)/\du env (a.M+2) (ba [(8,(hP d))]) c (Op.convert 34 34 (Operand.tmp 8))=some ((hP d),c)/\aY (a.M) (c.M) (bN (a.M) 29 (Code.loop (bu 44 0)) [(0,.str f),(5,(hP d)),(10,.aB j k 0 b i),(11,.V b),(12,.V 0)] (bf c 3) (.exit 0) [(0,.str f),(5,l),(10,.aB j k 0 b i),(11,.V b),(12,o)] e/\aY (a.M) (e.M) (eY env Builtin.append {toList:=[34,9]} [l,.str f] (e.M+2) (bf e 4)=some (m,g)/\cc (a.M) (g.M) (n m g)))))) :
 bl 44 [.str f,.aB j k 0 b i] a n :=
 bm bL (.aG (.act 1000 ((hP d)) λx=>c)<|.aG (.im 1001 ((hP d)) λh=>h)<|.aG (.keep [0,5,10,11,12])<|.aG (.loop [(0,.str f),(5,l),(10,.aB j k 0 b i),(11,.V b),(12,o)] e (.exit 0))<|.aG (.act 9002 m λx=>g) .nil) p
def C2:∀(l:List Nat)(n:Nat),gd (l++[n])=if l=[]then Lib.decDigits n else gd l++59::Lib.decDigits n
 |[],n=>rfl
 |[m],n=>rfl
 |m::k::r,n=>by have ih:=C2 (k::r) n;rw [ai au]at ih⊢;show Lib.decDigits m++59::gd ((k::r)++[n])=_;rw [ih,gd];simp
def x0:∀(l:List Nat),(∀n∈l,n<10000000)->(gd l).length<=8*l.length
 |[],_=>by simp [gd]
 |[n],h=>by have:=j5 (n:=n) (k:=6) (by have:=h n au ;simpa using this);simp only [gd,bK,cq];omega
 |n::m::r,h=>by
  have Y:=j5 (n:=n) (k:=6) (by have:=h n au ;simpa using this);have ag:=x0 (m::r) λx a=>h x (by simp [a])
  simp only [gd,dt,bK]at ag⊢; omega
abbrev oG(l:List Nat):aa:=aa.an (l.map λn=>J.int .i64 (n:Nat)) 1 true
def Uq{h:T}{l:List Nat}(e:h.get q=some (oG l))(ah:i<l.length):a6 (bi.D env) 3 ⟨q,0,0+i,0,1⟩ h=some (.V (l[i]:Nat)):=by have a:(bi.D env 3).map (λd=>d.kind.isAgg)=some false:= ao;obtain⟨x,Y,ag⟩:=cb.1 a;unfold a6;rw [Y,e];simp [aa.elem?,aa.b6,eK,ag,aa.an,ah]
def x1{F:bc}{nid c:Nat}{H:T}{a:bB}{b:aa}(g:ba F (.tmp k)=.slice (some a) n c)(ab:H.get a.id=some b)(h:b.ro=false)(f:a.fld=0)(aj:0<c):du env nid (ba F) H (Op.convert 34 34 (Operand.tmp k))=some (.slice (some a) n c,H):=by have Y:(bi.D env 34).map (λd=>d.kind)=some (.slice 5):= ao;have e:(bi.D env 5).map (λd=>d.kind)=some (.int .u8):= ao;obtain⟨l,d1,i⟩:=cb.1 Y;obtain⟨m,d3,j⟩:=cb.1 e;simp only [du,g,mw,d1,i,d3,j,ab];simp [h,f,aj]
abbrev lm(e:Bytes)(bv:J)(q n c i:Nat):bc:=[(0,.str e),(5,bv),(10,.slice (some ⟨q,0,0,0,1⟩) n c),(11,.int .i64 (n:Nat)),(12,.int .i64 (i:Nat))]
def Ur{B c:Nat}{l:List Nat}{e:Bytes}(a3:l.length<2^20)(aw:∀n∈l,n<10000000)(U:q<B):∀(t i:Nat)(H:T)(bv:J)(j:Nat),l.length-i<=t->i<=l.length->B<=H.M->B<=j->dF H j bv (27::91::gd (l.take i))->H.get q=some (oG l) ->
 ∃H' b d,dd B 29 (bu 44 0) (lm e bv q l.length c i) H (.exit 0) (lm e b q l.length c l.length) H'/\dF H' d b (27::91::gd l)/\B<=d/\H.M<=H'.M/\∀x,x<B->H'.get x=H.get x:=by
 intro t
 have fin:∀(H:T)(bv:J)(j:Nat),B<=H.M->B<=j->dF H j bv (27::91::gd (l.take l.length)) ->
  ∃H' b d,dd B 29 (bu 44 0) (lm e bv q l.length c l.length) H (.exit 0) (lm e b q l.length c l.length) H'/\dF H' d b (27::91::gd l)/\B<=d/\H.M<=H'.M/\∀x,x<B->H'.get x=H.get x:=by
  intro H bv j o u g;rw [kj]at g;obtain⟨aQ,f,Y,p,rfl,rfl,rfl⟩:=C1 H H H H B q 0 0 l.length c l.length 0 e bv bv bv (λaQ f Y=>aQ=.exit 0/\f=lm e bv q l.length c l.length/\Y=⟨H.M+1,H.aF⟩) (aW o ⟨λh=> A,λ_=>⟨rfl,rfl,rfl⟩⟩);exact⟨_,bv,j,b2.last au p,g.keep rfl (by show H.M<=H.M+1;omega),u,by show H.M<=H.M+1;omega,λ_ _=>rfl⟩
 induction t with
 |zero =>
  intro i H bv j W ah o u g _;obtain rfl:i=l.length:= A;exact fin H bv j o u g
 |succ t ih =>
  intro i H bv j W ah o u g ab;by_cases aj:i<l.length
  .have m : l[i] < 10000000 := aw _ (ic aj)
   have E:∀k,a6 (bi.D env) 3 ⟨q,0,0+Int.toNat (i:Int),0,1⟩ ⟨H.M+k,H.aF⟩=some (.V (l[i]:Nat)):=λk=>by rw [fS];exact Uq (h:=⟨H.M+k,H.aF⟩) ab aj
   have G:l.take (i+1)=l.take i++[l[i]]:=by rw [List.take_add_one,ds aj];rfl
   have a2:(gd (l.take i)).length<=8*l.length:=by
    have:=x0 (l.take i) λn h=>aw n (sl h)
    rw [lC]at this;omega
   have step:∀(a:T)(v2:J)(j2:Nat),dF a j2 v2 (27::91::gd (l.take (i+1)))->B<=j2->H.M<=a.M->(∀x,x<B->a.get x=H.get x)->bN B 29 (bu 44 0) (lm e bv q l.length c i) H .normal (lm e v2 q l.length c (i+1)) ⟨a.M+2,a.aF⟩ ->
    ∃H' b d,dd B 29 (bu 44 0) (lm e bv q l.length c i) H (.exit 0) (lm e b q l.length c l.length) H'/\dF H' d b (27::91::gd l)/\B<=d/\H.M<=H'.M/\∀x,x<B->H'.get x=H.get x:=by
    intro a v2 j2 g2 v r s p;obtain⟨H',b,d,K,I,N,hn',R⟩:=ih (i+1) ⟨a.M+2,a.aF⟩ v2 j2 A A (by show B<=a.M+2;omega) v (g2.keep rfl (by show a.M<=a.M+2;omega)) ((s q U).trans ab);have hn':a.M+2<=H'.M:=hn';exact⟨H',b,d,b2.step p K,I,N,A,λx m=>(R x m).trans (s x m)⟩
   have X:((i:Int)+1)=((i+1:Nat):Int):= A;by_cases aM:0<i
   ·
     have Q:l.take i≠[]:=by intro h;have:=dm List.length h;rw [lC,cq]at this;omega
     have z:∀F,bt env cr (H.M+9) (ba F) ⟨H.M+12,H.aF⟩ (Op.buildSlice 34 1 {toList:=[(0,Operand.const (Value.int .u8 (59)))]})=some (J.aB (H.M+9) 0 0 1 1,(⟨H.M+12,H.aF⟩:T).set (H.M+9) (aa.an (aE [59]) 1 true)):=by intro F;kernel_rfl
     have C:((⟨H.M+12,H.aF⟩:T).set (H.M+9) (aa.an (aE [59]) 1 true)).get (H.M+9)=some (aa.an (aE [59]) 1 true):=T.eD _ _ _;have y:∀x,x<H.M->((⟨H.M+12,H.aF⟩:T).set (H.M+9) (aa.an (aE [59]) 1 true)).get x=H.get x:=λx m=>T.dN _ _ A
     have P:((⟨H.M+12,H.aF⟩:T).set (H.M+9) (aa.an (aE [59]) 1 true)).M=H.M+12:=rfl;generalize (⟨H.M+12,H.aF⟩:T).set (H.M+9) (aa.an (aE [59]) 1 true)=H1 at z C y P;have g1:=g.keep (y j g.lt) A;have am:dF H1 (H.M+9) (.aB (H.M+9) 0 0 1 1) [59]:=dF.an C A (λh=>by cases h);obtain⟨v1,H2,j1,L,g2,O,a4,S⟩:=g1.e9 (nid:=H.M+10) am.bg au (by simp only [bK,cq];omega) A;obtain⟨v2,a,j2,w,g3,v,r,s⟩:=I6 (n:=l[i]) (g2.keep (H':=⟨H2.M+4,H2.aF⟩) rfl (by show H2.M<=H2.M+4;omega)) (by simp only [dt,bK,cq];omega) m;have r:H2.M+4<=a.M:=r;have a0:B<=j1:=by rcases O with h|h<;>omega
     obtain⟨aQ,f,Y,p,rfl,rfl,rfl⟩:=C1 H H1 H2 a B q 0 (H.M+9) l.length c i (l[i]:Nat) e bv v1 v2 (λaQ f Y=>aQ=.normal/\f=lm e v2 q l.length c (i+1)/\Y=⟨a.M+2,a.aF⟩)
      (aW o ⟨λ_=>aW A ⟨⟨A,A⟩,E 6,aW A ⟨λ_=>aW A ⟨z _,(xZ _ _ _ _).trans L,aW A ⟨⟨w⟩,aW A ⟨⟨A,A⟩,rfl,by rw [X],rfl⟩⟩⟩,λh=>absurd A h⟩⟩,λh=>absurd A h⟩)
     refine step a v2 j2 ?_ (by rcases v with h|h; · omega
                                .have h:H2.M+4<=j2:=h
                                 omega) A (λx m=> ?_) p
     .have aZ:(27::91::gd (l.take (i+1)):Bytes)=27::91::gd (l.take i)++[59]++Lib.decDigits l[i]:=by rw [G,C2,ai Q];simp
      rw [aZ];exact g3
     .rw [s x (by show x<H2.M+4;omega) A];show H2.get x=_;rw [S x A A];exact y x A
   .obtain rfl:i=0:= A;obtain⟨v2,a,j2,w,g3,v,r,s⟩:=I6 (n:=l[0]) (g.keep (H':=⟨H.M+12,H.aF⟩) rfl (by show H.M<=H.M+12;omega)) (by simp only [bK];omega) m;have r:H.M+12<=a.M:=r
    obtain⟨aQ,f,Y,p,rfl,rfl,rfl⟩:=C1 H H H a B q 0 0 l.length c 0 (l[0]:Nat) e bv bv v2 (λaQ f Y=>aQ=.normal/\f=lm e v2 q l.length c 1/\Y=⟨a.M+2,a.aF⟩)
     (aW o ⟨λ_=>aW A ⟨⟨A,A⟩,E 6,aW A ⟨λh=>absurd h A,λ_=>aW A ⟨⟨w⟩,aW A ⟨⟨A,A⟩,rfl,rfl,rfl⟩⟩⟩⟩,λh=>absurd A h⟩)
    refine step a v2 j2 ?_ (by rcases v with h|h; · omega
                               .have h:H.M+12<=j2:=h
                                omega) A (λx m=> ?_) p
    .have aZ:(27::91::gd (l.take (0+1)):Bytes)=27::91::gd (l.take 0)++Lib.decDigits l[0]:=by rw [G,C2,az au];rfl
     rw [aZ];exact g3
    .exact s x (by show x<H.M+12;omega) A
  .obtain rfl:i=l.length:= A;exact fin H bv j o u g
def I8(H:T)(args:List J)(bs:Bytes):Prop :=
 ∃v H' j,be 44 args H v H'/\dF H' j v bs/\H.M<=j/\∀x,x<H.M->H'.get x=H.get x
def C3(H:T):∃H1,(∀F,bt env cr (H.M+1) (ba F) ⟨H.M+4,H.aF⟩ (Op.buildSlice 34 2 {toList:=[(0,Operand.const (Value.int .u8 (27))),(1,Operand.const (Value.int .u8 (91)))]})=some (J.aB (H.M+1) 0 0 2 2,H1))/\(∀F,ba F (.tmp 8)=J.aB (H.M+1) 0 0 2 2->du env (H.M+2) (ba F) H1 (Op.convert 34 34 (Operand.tmp 8))=some (J.aB (H.M+1) 0 0 2 2,H1)) /\
 dF H1 (H.M+1) (.aB (H.M+1) 0 0 2 2) [27,91]/\H1.M=H.M+4/\∀x,x<H.M->H1.get x=H.get x:=by
 have a:((⟨H.M+4,H.aF⟩:T).set (H.M+1) (aa.an (aE [27,91]) 1 true)).get (H.M+1)=some (aa.an (aE [27,91]) 1 true):=T.eD _ _ _;exact⟨(⟨H.M+4,H.aF⟩:T).set (H.M+1) (aa.an (aE [27,91]) 1 true),(λF=> ao),λF b=>x1 b a rfl rfl aC,dF.an (bs:=[27,91]) a (by show H.M+1<H.M+4;omega) (λh=>by cases h),rfl,λx c=>T.dN _ _ A⟩
def Us(H:T){e:Bytes}(he:e≠[])(q:e.length<2^30):I8 H [.str e,.slice none 0 0] (27::91::e):=by
 have g:∀{a b:Nat}{p:Prop},a<=b->p->_root_.cond (Nat.ble a b) p False:=λh k=>by rw [Nat.ble_eq.mpr h];exact k
 obtain⟨H1,f,aj,g1,r,m⟩:=C3 H;obtain⟨v,H2,j,d,g2,l,c,n⟩:=(g1.keep (H':=⟨H1.M+8,H1.aF⟩) rfl (by show H1.M<=H1.M+8;omega)).e9 (nid:=H1.M+6) (x:= .str e) (by rfl) he (by simp only [bK,cq];omega) (by show H1.M+6<H1.M+8;omega);have c:H2.M=H1.M+8:=c
 obtain⟨w,Z,i,rfl,rfl⟩:=I7 H H1 H2 (H.M+1) e v (λw Z=>w=v/\Z=H2)
  (aW (Nat.le_refl _) (aW A ⟨f _,aj _ rfl,aW A (aW A (aW A ⟨(uF _ _ _ _).trans d,g A ⟨rfl,rfl⟩⟩))⟩))
 refine⟨_,_,j,i,g2,by rcases l with h|h<;>omega,λx o=> ?_⟩;rw [n x A A];exact m x o
def C4{H:T}{c:Nat}{l:List Nat}{e:Bytes}(ab:H.get q=some (oG l))(m:q<H.M)(C:l.length<2^20)(aw:∀n∈l,n<10000000)(he:e≠[])(I:e.length<2^30):I8 H [.str e,.aB q 0 0 l.length c] (e7 e l):=by
 have u:∀{a b:Nat}{p:Prop},a<=b->p->_root_.cond (Nat.ble a b) p False:=λh k=>by rw [Nat.ble_eq.mpr h];exact k
 obtain⟨H1,t,aj,g1,K,i⟩:=C3 H;obtain⟨H2,bv,j2,r,g2,F,f,D⟩:=Ur (B:=H.M) (c:=c) (e:=e) C aw m l.length 0 ⟨H1.M+3,H1.aF⟩ _ (H.M+1) A A (by show H.M<=H1.M+3;omega) A (g1.keep rfl (by show H1.M<=H1.M+3;omega)) ((i q m).trans ab);have f:H1.M+3<=H2.M:=f;have G:=x0 l aw;obtain⟨v,d,j,s,g3,z,g,E⟩:=(g2.keep (H':=⟨H2.M+4,H2.aF⟩) rfl (by show H2.M<=H2.M+4;omega)).e9 (nid:=H2.M+2) (x:= .str e) (by rfl) he (by simp only [bK];omega) (by show H2.M+2<H2.M+4;omega);have g:d.M=H2.M+4:=g
 obtain⟨w,Z,y,rfl,rfl⟩:=Up H H1 H2 d (H.M+1) q 0 l.length c e bv v (.V (l.length:Nat)) (λw Z=>w=v/\Z=d)
  (aW (Nat.le_refl _) (aW A ⟨t _,aj _ rfl,aW A ⟨cO.dn r,aW A ⟨(uF _ _ _ _).trans s,u A ⟨rfl,rfl⟩⟩⟩⟩))
 refine⟨_,_,j,y,?_,by rcases z with h|h<;>omega,λx o=> ?_⟩
 .have aZ:e7 e l=27::91::gd l++e:=rfl;rw [aZ];exact g3
 .rw [E x A A];show H2.get x=_;rw [D x o];exact i x o
abbrev iv(x:Nat):aa:=aa.an [J.int .i32 (x:Nat)] 1 true
abbrev C5:b7:=(ab 19002<|ab 19003<|ab 20001<|ab 21001<|ab 21005 .nil)
def Ut(a:Nat)(b:aU)(c:(bz (decide ((a:Int)≥55296)))/\(bz (decide ((a:Int)>1114111)))/\((a:Int)<128->(0<=(a:Int)/\(a:Int)<=255)/\b (.str [UInt8.ofNat a]) (af 43 [(0,(aa.an ([.av a]) 1 true)),(34,aa.an [.ac a] 1 true),(35,aa.an [.ac a] 1 false (some (5,0)))]))/\(¬(a:Int)<128->(2048<=(a:Int)->(bz (decide ((a:Int)≥65536)))/\True/\(0<=a' .i32 (a:Int) (63)/\a' .i32 (a:Int) (63)<=255)/\True/\Int.NonNeg (6-0)/\True/\(0<=a' .i32 (bh .i32 (a:Int) (6)) (63)/\a' .i32 (bh .i32 (a:Int) (6)) (63)<=255)/\True/\Int.NonNeg (6-0)/\(0<=bh .i32 (bh .i32 (a:Int) (6)) (6)/\bh .i32 (bh .i32 (a:Int) (6)) (6)<=255)/\True/\b (.str [UInt8.ofNat ((bP .u8 (bh .i32 (bh .i32 (a:Int) 6) 6) 224).toNat),UInt8.ofNat ((bP .u8 128 (a' .i32 (bh .i32 (a:Int) 6) 63)).toNat),UInt8.ofNat ((bP .u8 128 (a' .i32 (a:Int) 63)).toNat)]) (af 80 [(0,(aa.an ([.av a]) 1 true)),(37,(aa.an ([.agg [.ac (bP .u8 (bh .i32 (bh .i32 (a:Int) (6)) (6)) (224)),.ac (bP .u8 (128) (a' .i32 (bh .i32 (a:Int) (6)) (63))),.ac (bP .u8 (128) (a' .i32 (a:Int) (63))),.ac 0]]) 4 true (some (95,4)))),(72,aa.an [.ac (bP .u8 (bh .i32 (bh .i32 (a:Int) (6)) (6)) (224)),.ac (bP .u8 (128) (a' .i32 (bh .i32 (a:Int) (6)) (63))),.ac (bP .u8 (128) (a' .i32 (a:Int) (63)))] 1 false (some (5,0)))]))/\(¬2048<=(a:Int)->(bz (decide ((a:Int)≥65536)))/\True/\(0<=a' .i32 (a:Int) (63)/\a' .i32 (a:Int) (63)<=255)/\True/\Int.NonNeg (6-0)/\(0<=bh .i32 (a:Int) (6)/\bh .i32 (a:Int) (6)<=255)/\True/\b (.str [UInt8.ofNat ((bP .u8 (bh .i32 (a:Int) 6) 192).toNat),UInt8.ofNat ((bP .u8 128 (a' .i32 (a:Int) 63)).toNat)]) (af 72 [(0,(aa.an ([.av a]) 1 true)),(36,(aa.an ([.agg [.ac (bP .u8 (bh .i32 (a:Int) (6)) (192)),.ac (bP .u8 (128) (a' .i32 (a:Int) (63))),.ac 0,.ac 0]]) 4 true (some (95,4)))),(64,aa.an [.ac (bP .u8 (bh .i32 (a:Int) (6)) (192)),.ac (bP .u8 (128) (a' .i32 (a:Int) (63)))] 1 false (some (5,0)))])))) :
 bl 51 [.slice (b5 0) 1 1] (T.rows 1 [(0,iv a)]) b :=
 bm ci (.aG (.rounds 300)<|he 5002<|ap 1004 .aJ<|ap 1012 .aJ<|.al 3001 (ab 4002 .nil)<|.al 6001 (ap 8001 .aJ<|ab 17001<|ab 17002<|ab 17003<|ab 18001<|ab 19001 C5)<|ap 8001 .aJ<|ab 19001 C5) c
abbrev I9:b7:=(ab 17001<|ab 17002<|ab 17003<|ab 18001<|ab 19001 C5)
def Uu(a:Nat)(b:aU)(c:(cX (decide ((a:Int)≥55296)))/\(bz (decide ((a:Int)<=57343)))/\(bz (decide ((a:Int)>1114111)))/\(bz (decide ((a:Int)<128)))/\(cX (decide ((a:Int)≥2048)))/\(65536<=(a:Int)->True/\(0<=a' .i32 (a:Int) (63)/\a' .i32 (a:Int) (63)<=255)/\True/\Int.NonNeg (6-0)/\True/\(0<=a' .i32 (bh .i32 (a:Int) (6)) (63)/\a' .i32 (bh .i32 (a:Int) (6)) (63)<=255)/\True/\Int.NonNeg (6-0)/\True/\(0<=a' .i32 (bh .i32 (bh .i32 (a:Int) (6)) (6)) (63)/\a' .i32 (bh .i32 (bh .i32 (a:Int) (6)) (6)) (63)<=255)/\True/\Int.NonNeg (6-0)/\(0<=bh .i32 (bh .i32 (bh .i32 (a:Int) (6)) (6)) (6)/\bh .i32 (bh .i32 (bh .i32 (a:Int) (6)) (6)) (6)<=255)/\True/\b (.str [UInt8.ofNat ((bP .u8 (bh .i32 (bh .i32 (bh .i32 (a:Int) 6) 6) 6) 240).toNat),UInt8.ofNat ((bP .u8 128 (a' .i32 (bh .i32 (bh .i32 (a:Int) 6) 6) 63)).toNat),UInt8.ofNat ((bP .u8 128 (a' .i32 (bh .i32 (a:Int) 6) 63)).toNat),UInt8.ofNat ((bP .u8 128 (a' .i32 (a:Int) 63)).toNat)]) (af 88 [(0,(aa.an ([.av a]) 1 true)),(38,(aa.an ([.agg [.ac (bP .u8 (bh .i32 (bh .i32 (bh .i32 (a:Int) (6)) (6)) (6)) (240)),.ac (bP .u8 (128) (a' .i32 (bh .i32 (bh .i32 (a:Int) (6)) (6)) (63))),.ac (bP .u8 (128) (a' .i32 (bh .i32 (a:Int) (6)) (63))),.ac (bP .u8 (128) (a' .i32 (a:Int) (63)))]]) 4 true (some (95,4)))),(80,aa.an [.ac (bP .u8 (bh .i32 (bh .i32 (bh .i32 (a:Int) (6)) (6)) (6)) (240)),.ac (bP .u8 (128) (a' .i32 (bh .i32 (bh .i32 (a:Int) (6)) (6)) (63))),.ac (bP .u8 (128) (a' .i32 (bh .i32 (a:Int) (6)) (63))),.ac (bP .u8 (128) (a' .i32 (a:Int) (63)))] 1 false (some (5,0)))]))/\(¬65536<=(a:Int)->True/\(0<=a' .i32 (a:Int) (63)/\a' .i32 (a:Int) (63)<=255)/\True/\Int.NonNeg (6-0)/\True/\(0<=a' .i32 (bh .i32 (a:Int) (6)) (63)/\a' .i32 (bh .i32 (a:Int) (6)) (63)<=255)/\True/\Int.NonNeg (6-0)/\(0<=bh .i32 (bh .i32 (a:Int) (6)) (6)/\bh .i32 (bh .i32 (a:Int) (6)) (6)<=255)/\True/\b (.str [UInt8.ofNat ((bP .u8 (bh .i32 (bh .i32 (a:Int) 6) 6) 224).toNat),UInt8.ofNat ((bP .u8 128 (a' .i32 (bh .i32 (a:Int) 6) 63)).toNat),UInt8.ofNat ((bP .u8 128 (a' .i32 (a:Int) 63)).toNat)]) (af 80 [(0,(aa.an ([.av a]) 1 true)),(37,(aa.an ([.agg [.ac (bP .u8 (bh .i32 (bh .i32 (a:Int) (6)) (6)) (224)),.ac (bP .u8 (128) (a' .i32 (bh .i32 (a:Int) (6)) (63))),.ac (bP .u8 (128) (a' .i32 (a:Int) (63))),.ac 0]]) 4 true (some (95,4)))),(72,aa.an [.ac (bP .u8 (bh .i32 (bh .i32 (a:Int) (6)) (6)) (224)),.ac (bP .u8 (128) (a' .i32 (bh .i32 (a:Int) (6)) (63))),.ac (bP .u8 (128) (a' .i32 (a:Int) (63)))] 1 false (some (5,0)))]))) :
 bl 51 [.slice (b5 0) 1 1] (T.rows 1 [(0,iv a)]) b :=
 bm ci (.aG (.rounds 300)<|he 5002<|ap 1004 .aK<|ap 1007 .aJ<|ap 1012 .aJ<|ap 3001 .aJ<|ap 6001 .aK<|.al 8001 (ab 15001 (ab 15002 (ab 15003 (ab 16001 I9)))) I9) c
def Uv(a d b:T)(i f e c:Nat)(g:Bytes)(h:aU)(j:aY (a.M) (a.M) (aY (a.M) (a.M+1) (bt env cr (a.M+2) (ba [(7,.av i)]) (bf a 6) (Op.buildSlice 84 1 {toList:=[(0,Operand.tmp 7)]})=some (J.slice (b5 f) 1 1,d)/\bk 51 [.slice (b5 f) 1 1] d (.str g) d/\du env (a.M+4) (ba [(9,.str g)]) d (Op.convert 9 34 (Operand.tmp 9))=some (J.slice (b5 e) c c,b)/\aY (a.M) (b.M) (aY (a.M) (b.M+3) (cc (a.M) (b.M+5) (h (.slice (b5 e) c c) (T.mk (b.M+3+2) (T.aF (bf b 3))))))))) :
 bl 42 [.av i,.ac 0] a h :=
 bm ci (.aG (.act 1001 (.slice (b5 f) 1 1) λe=>d)<|ap 1002 (.str g)<|.aG (.im 1003 (.slice (b5 e) c c) λe=>b) .nil) j
def Uw(a e b h f:T)(g i c l d:Nat)(j:Bytes)(k:J)(m:aU)(n:aY (a.M) (a.M) (aY (a.M) (a.M+1) (bt env cr (a.M+2) (ba [(7,.av g)]) (bf a 6) (Op.buildSlice 84 1 {toList:=[(0,Operand.tmp 7)]})=some (J.slice (b5 i) 1 1,e)/\bk 51 [.slice (b5 i) 1 1] e (.str j) e/\du env (a.M+4) (ba [(9,.str j)]) e (Op.convert 9 34 (Operand.tmp 9))=some (J.slice (b5 c) d d,b)/\aY (a.M) (b.M) (aY (a.M) (b.M+3) ((cX ((g:Int) != 91))/\(cX ((g:Int) != 79))/\aY (a.M) (b.M+14) (bt env cr (b.M+14) (ba []) (bf b 18) (Op.buildSlice 34 1 {toList:=[(0,Operand.const (Value.int .u8 (27)))]})=some (J.slice (b5 l) 1 1,h)/\eY env Builtin.append {toList:=[34,34]} [.slice (b5 l) 1 1,.slice (b5 c) d d] (b.M+16) h=some (k,f)/\cc (a.M) (f.M) (m k f))))))) :
 bl 42 [.av g,.ac 2] a m :=
 bm ci (.aG (.act 1001 (.slice (b5 i) 1 1) λc=>e)<|ap 1002 (.str j)<|.aG (.im 1003 (.slice (b5 c) d d) λc=>b)<|ap 4004 .aK<|ap 4008 .aK<|.aG (.act 5000 (.slice (b5 l) 1 1) λc=>h)<|.aG (.act 5002 k λc=>f) .nil) n
def Ux(a e b i f:T)(h c j d m g:Nat)(k:Bytes)(l:J)(n:aU)(o:aY (a.M) (a.M) (aY (a.M) (a.M+1) (bt env cr (a.M+2) (ba [(7,.av h)]) (bf a 6) (Op.buildSlice 84 1 {toList:=[(0,Operand.tmp 7)]})=some (J.slice (b5 j) 1 1,e)/\bk 51 [.slice (b5 j) 1 1] e (.str k) e/\du env (a.M+4) (ba [(9,.str k)]) e (Op.convert 9 34 (Operand.tmp 9))=some (J.slice (b5 d) g g,b)/\aY (a.M) (b.M) ((bz ((c:Int) == 0))/\aY (a.M) (b.M+3) ((bz ((c:Int) == 2))/\aY (a.M) (b.M+14) (True/\(bz (db .u8 (c:Int) 2 == 4))/\aY (a.M) (b.M+18) ((bd ((h:Int)))/\(bd ((c:Int)))/\(bd ((c:Int)+1))/\bt env cr (b.M+23) (ba [(81,.V ((c:Int)+1)),(78,.V h)]) (bf b 26) (Op.buildSlice 102 2 {toList:=[(0,Operand.tmp 78),(1,Operand.tmp 81)]})=some ((hP m),i)/\bk 44 [.str [117],(hP m)] i l f/\cc (a.M) (f.M) (n l f)))))))) :
 bl 42 [.av h,.ac c] a n :=
 bm ci (.aG (.act 1001 (.slice (b5 j) 1 1) λd=>e)<|ap 1002 (.str k)<|.aG (.im 1003 (.slice (b5 d) g g) λd=>b)<|ap 2001 .aJ<|ap 4001 .aJ<|ab 6001<|ap 6002 .aJ<|ab 17001<|ab 17003<|ab 17004<|.aG (.act 17005 ((hP m)) λd=>i)<|.aG (.act 17006 l λd=>f) .nil) o
def Uy(a f b i g:T)(c d j e m h:Nat)(k:Bytes)(l:J)(n:aU)(o:aY (a.M) (a.M) (aY (a.M) (a.M+1) (bt env cr (a.M+2) (ba [(7,.av c)]) (bf a 6) (Op.buildSlice 84 1 {toList:=[(0,Operand.tmp 7)]})=some (J.slice (b5 j) 1 1,f)/\bk 51 [.slice (b5 j) 1 1] f (.str k) f/\du env (a.M+4) (ba [(9,.str k)]) f (Op.convert 9 34 (Operand.tmp 9))=some (J.slice (b5 e) h h,b)/\aY (a.M) (b.M) ((bz ((d:Int) == 0))/\aY (a.M) (b.M+3) ((bz ((d:Int) == 2))/\aY (a.M) (b.M+14) (True/\(cX (db .u8 (d:Int) 2 == 4))/\aY (a.M) (b.M+18) (aY (a.M) (b.M+19) ((bz ((c:Int) == 32))/\aY (a.M) (b.M+22) ((cX (decide ((c:Int)≥97)))/\(bz (decide ((c:Int)<=122)))/\aY (a.M) (b.M+37) ((cX (decide ((c:Int)≥92)))/\(bz (decide ((c:Int)<=95)))/\aY (a.M) (b.M+44) ((bd ((c:Int)))/\(bd ((d:Int)))/\(bd ((d:Int)+1))/\bt env cr (b.M+49) (ba [(37,.V ((d:Int)+1)),(34,.V c)]) (bf b 52) (Op.buildSlice 102 2 {toList:=[(0,Operand.tmp 34),(1,Operand.tmp 37)]})=some ((hP m),i)/\bk 44 [.str [117],(hP m)] i l g/\cc (a.M) (g.M) (n l g)))))))))))) :
 bl 42 [.av c,.ac d] a n :=
 bm ci (.aG (.act 1001 (.slice (b5 j) 1 1) λe=>f)<|ap 1002 (.str k)<|.aG (.im 1003 (.slice (b5 e) h h) λe=>b)<|ap 2001 .aJ<|ap 4001 .aJ<|ab 6001<|ap 6002 .aK<|ap 9001 .aJ<|ap 10001 .aK<|ap 10004 .aJ<|ap 12001 .aK<|ap 12004 .aJ<|ab 8001<|ab 8003<|ab 8004<|.aG (.act 8005 ((hP m)) λe=>i)<|.aG (.act 8006 l λe=>g) .nil) o
def I'(a:T)(d g b i:Nat)(f:Int)(c:Nat)(h:b8->bc->T->Prop)(k:aY d (a.M) (((b:Int)<6->aY d (a.M+1) ((0<=(b:Int)/\(b:Int)<6)/\a6 env.D 5 ⟨g,0,0+(b:Int).toNat,0,1⟩ (bf a 4)=some (.ac i)/\aY d (a.M+4) ((cX (ft (i:Int) != f))/\aY d (a.M+8) ((bd ((b:Int)+1))/\h .normal [(0,.av f),(1,.ac c),(5,.V ((c:Int)+1)),(52,.slice (b5 g) 6 6),(53,.V 6),(54,.V ((b:Int)+1))] (T.mk (a.M+8+2) (T.aF (T.mk (a.M+4+4) (T.aF (T.mk (a.M+1+3) (T.aF (bf a 1)))))))))))/\(¬(b:Int)<6->h (.exit 1) [(0,.av f),(1,.ac c),(5,.V ((c:Int)+1)),(52,.slice (b5 g) 6 6),(53,.V 6),(54,.V b)] (bf a 1)))) :
 ∃e j Y,bN d 111 (bu 43 0) [(0,.av f),(1,.ac c),(5,.V (c+1)),(52,.slice (b5 g) 6 6),(53,.V 6),(54,.V b)] a e j Y/\h e j Y :=
 dD c6 mixed ci (hs:= .al 12000 (ab 13000 (ap 13001 (.ac i) (ap 14003 .aK (ab 18000 .nil)))) .nil) (keep:=[0,1,5,52,53,54]) ao k
abbrev Ja(a:T):T:=(T.mk (a.M+10+3) (T.aF (T.mk (a.M+2+8) (T.aF (T.mk (a.M+2) (T.aF a))))))
def Jb(b:T)(f a:Nat)(d:Int)(c:Nat)(g:b8->bc->T->Prop)(i:aY f (b.M) (((a:Int)<=24->aY f (b.M+2) ((0<d->(bz (fM (a:Int) == d))/\aY f (b.M+10) ((bd ((a:Int)+1))/\g .normal [(0,.av d),(1,.ac c),(5,.V ((c:Int)+1)),(9,.V ((a:Int)+1))] (Ja b)))/\(¬0<d->aY f (b.M+10) ((bd ((a:Int)+1))/\g .normal [(0,.av d),(1,.ac c),(5,.V ((c:Int)+1)),(9,.V ((a:Int)+1))] (Ja b)))))/\(¬(a:Int)<=24->g (.exit 3) [(0,.av d),(1,.ac c),(5,.V ((c:Int)+1)),(9,.V a)] (bf b 2)))) :
 ∃e h Y,bN f 111 (bu 43 1) [(0,.av d),(1,.ac c),(5,.V (c+1)),(9,.V a)] b e h Y/\g e h Y :=
 dD c6 mixed ci (hs:= .al 22001 (.al 24001 (ap 24006 .aJ (ab 23001 .nil)) (ab 23001 .nil)) .nil) (keep:=[0,1,5,9]) ao i
abbrev iw(a:Nat):J:=J.slice (b5 a) 6 6
abbrev uG(b:T)(a:Nat)(c:Int):b7:=(.aG (.loop [(0,.av c),(1,.ac a),(5,.V ((a:Int)+1)),(9,.V 25)] b (.exit 3)) .nil)
def Uz(a g e d:T)(f b:Nat)(c:Int)(j:J)(i:aU)(k:aY (a.M) (a.M) (aY (a.M) (a.M+1) ((bd ((b:Int)))/\(bd ((b:Int)+1))/\aY (a.M) (a.M+5) ((bz (decide (c≥1)))/\aY (a.M) (a.M+11) (bt env cr (a.M+11) (ba []) (bf a 15) (Op.buildSlice 34 6 {toList:=[(0,Operand.const (Value.int .u8 (65))),(1,Operand.const (Value.int .u8 (66))),(2,Operand.const (Value.int .u8 (67))),(3,Operand.const (Value.int .u8 (68))),(4,Operand.const (Value.int .u8 (72))),(5,Operand.const (Value.int .u8 (70)))]})=some ((iw f),g)/\du env (a.M+12) (ba [(51,(iw f))]) g (Op.convert 34 34 (Operand.tmp 51))=some ((iw f),g)/\bN (a.M) 111 (Code.loop (bu 43 0)) [(0,.av c),(1,.ac b),(5,.V ((b:Int)+1)),(52,(iw f)),(53,.V 6),(54,.V 0)] g (.exit 1) [(0,.av c),(1,.ac b),(5,.V ((b:Int)+1)),(52,(iw f)),(53,.V 6),(54,j)] e/\aY (a.M) (e.M) (((b:Int)=0->(bz (decide (c≥21)))/\aY (a.M) (e.M+10) (bN (a.M) 111 (Code.loop (bu 43 1)) [(0,.av c),(1,.ac b),(5,.V ((b:Int)+1)),(9,.V 2)] (T.mk (e.M+10+1) (T.aF (bf e 10))) (.exit 3) [(0,.av c),(1,.ac b),(5,.V ((b:Int)+1)),(9,.V 25)] d/\aY (a.M) (d.M) (cc (a.M) (d.M+1) (i (.slice none 0 0) (bf d 1)))))/\(¬(b:Int)=0->aY (a.M) (e.M+10) (bN (a.M) 111 (Code.loop (bu 43 1)) [(0,.av c),(1,.ac b),(5,.V ((b:Int)+1)),(9,.V 2)] (T.mk (e.M+10+1) (T.aF (bf e 10))) (.exit 3) [(0,.av c),(1,.ac b),(5,.V ((b:Int)+1)),(9,.V 25)] d/\aY (a.M) (d.M) (cc (a.M) (d.M+1) (i (.slice none 0 0) (bf d 1))))))))))) :
 bl 43 [.av c,.ac b] a i :=
 bm ci (ab 1001<|ab 1002<|ap 2001 .aJ<|.aG (.act 11000 ((iw f)) λx=>g)<|.aG (.im 11001 ((iw f)) λh=>h)<|.aG (.keep [0,1,5,52,53,54])<|.aG (.loop [(0,.av c),(1,.ac b),(5,.V ((b:Int)+1)),(52,(iw f)),(53,.V 6),(54,j)] e (.exit 1))<|.al 19001 (ap 19004 .aJ<|.aG (.keep [0,1,5,9]) (uG d b c))<|.aG (.keep [0,1,5,9]) (uG d b c)) k
abbrev C6(a:T):T:=(T.mk (a.M+10+1) (T.aF (T.mk (a.M+10) (T.aF a))))
def UA(a g e d:T)(f b:Nat)(c:Int)(j:J)(i:aU)(k:aY (a.M) (a.M) (aY (a.M) (a.M+1) ((bd ((b:Int)))/\(bd ((b:Int)+1))/\aY (a.M) (a.M+5) ((cX (decide (c≥1)))/\(bz (decide (c<=4)))/\aY (a.M) (a.M+11) (bt env cr (a.M+11) (ba []) (bf a 15) (Op.buildSlice 34 6 {toList:=[(0,Operand.const (Value.int .u8 (65))),(1,Operand.const (Value.int .u8 (66))),(2,Operand.const (Value.int .u8 (67))),(3,Operand.const (Value.int .u8 (68))),(4,Operand.const (Value.int .u8 (72))),(5,Operand.const (Value.int .u8 (70)))]})=some ((iw f),g)/\du env (a.M+12) (ba [(51,(iw f))]) g (Op.convert 34 34 (Operand.tmp 51))=some ((iw f),g)/\bN (a.M) 111 (Code.loop (bu 43 0)) [(0,.av c),(1,.ac b),(5,.V ((b:Int)+1)),(52,(iw f)),(53,.V 6),(54,.V 0)] g (.exit 1) [(0,.av c),(1,.ac b),(5,.V ((b:Int)+1)),(52,(iw f)),(53,.V 6),(54,j)] e/\aY (a.M) (e.M) (((b:Int)=0->(21<=c->(bz (decide (c<25)))/\aY (a.M) (e.M+10) (bN (a.M) 111 (Code.loop (bu 43 1)) [(0,.av c),(1,.ac b),(5,.V ((b:Int)+1)),(9,.V 2)] (C6 e) (.exit 3) [(0,.av c),(1,.ac b),(5,.V ((b:Int)+1)),(9,.V 25)] d/\aY (a.M) (d.M) (cc (a.M) (d.M+1) (i (.slice none 0 0) (bf d 1)))))/\(¬21<=c->aY (a.M) (e.M+10) (bN (a.M) 111 (Code.loop (bu 43 1)) [(0,.av c),(1,.ac b),(5,.V ((b:Int)+1)),(9,.V 2)] (C6 e) (.exit 3) [(0,.av c),(1,.ac b),(5,.V ((b:Int)+1)),(9,.V 25)] d/\aY (a.M) (d.M) (cc (a.M) (d.M+1) (i (.slice none 0 0) (bf d 1))))))/\(¬(b:Int)=0->aY (a.M) (e.M+10) (bN (a.M) 111 (Code.loop (bu 43 1)) [(0,.av c),(1,.ac b),(5,.V ((b:Int)+1)),(9,.V 2)] (C6 e) (.exit 3) [(0,.av c),(1,.ac b),(5,.V ((b:Int)+1)),(9,.V 25)] d/\aY (a.M) (d.M) (cc (a.M) (d.M+1) (i (.slice none 0 0) (bf d 1))))))))))) :
 bl 43 [.av c,.ac b] a i :=
 bm ci (ab 1001<|ab 1002<|ap 2001 .aK<|ap 2004 .aJ<|.aG (.act 11000 ((iw f)) λx=>g)<|.aG (.im 11001 ((iw f)) λh=>h)<|.aG (.keep [0,1,5,52,53,54])<|.aG (.loop [(0,.av c),(1,.ac b),(5,.V ((b:Int)+1)),(52,(iw f)),(53,.V 6),(54,j)] e (.exit 1))<|.al 19001 (.al 19004 (ap 19008 .aJ<|.aG (.keep [0,1,5,9]) (uG d b c))<|.aG (.keep [0,1,5,9]) (uG d b c))<|.aG (.keep [0,1,5,9]) (uG d b c)) k
abbrev bb(k c m x y:Int)(t:Bytes):J:= .agg [.int .i8 k,.int .i32 c,.int .u8 m,.int .i64 x,.int .i64 y,.str t]
def UB(c:T)(g h b e:Int)(d:Bytes)(f:bB)(a:Nat)(i:aU)(j:bk 40 [.agg [.bA 3,.av g,.ac h,.V b,.V e,.str d]] (af 18 [(0,aL (.agg [.bA 3,.av g,.ac h,.V b,.V e,.str d])),(4,(aL (.agg [.bA 3,.av 0,.ac 0,.V b,.V e,.str d])))]) (.slice (some f) a a) c/\i (.tuple [.slice (some f) a a,.V 0]) (T.mk (c.M+2+3) (T.aF (bf c 2)))) :
 bl 21 [bb 3 g h b e d] bG i :=
 bm ci (.aG (.act 5001 (.slice (some f) a a) λb=>c) .nil) j
def UC(b:T)(e f a d:Int)(c:Bytes)(g:aU)(h:bk 40 [.agg [.bA 3,.av e,.ac f,.V a,.V d,.str c]] (af 18 [(0,aL (.agg [.bA 3,.av e,.ac f,.V a,.V d,.str c])),(4,(aL (.agg [.bA 3,.av 0,.ac 0,.V a,.V d,.str c])))]) (.slice none 0 0) b/\g (.tuple [.slice none 0 0,.V 220]) (T.mk (b.M+2+2) (T.aF (bf b 2)))) :
 bl 21 [bb 3 e f a d c] bG g :=
 bm ci (.aG (.act 5001 (.slice none 0 0) λa=>b) .nil) h
def UD(a g b d e:Int)(c:Bytes)(f:aU)(h:(bz (a == 3))/\(cX (decide (b>7)))/\f (.tuple [.slice none 0 0,.V 220]) (af 23 [(0,aL (.agg [.bA a,.av g,.ac b,.V d,.V e,.str c])),(4,(aL (.agg [.bA a,.av 0,.ac 0,.V d,.V e,.str c])))])) :
 bl 21 [bb a g b d e c] bG f :=
 bm ci (ap 4002 .aJ<|ap 6002 .aK .nil) h
abbrev eN(a b:Int):J:=J.agg [.bA 1,.av a,.ac b,.V 0,.V 0,.str []]
abbrev C7:J:=J.agg [.bA 1,.av 0,.ac 0,.V 0,.V 0,.str []]
abbrev x2(a b:Int):T:=(af 33 [(0,aL (eN a b)),(4,(aL C7))])
def UE(d:T)(a b:Int)(e:bB)(c:Nat)(f:aU)(g:(bz (decide (b>7)))/\bk 41 [.av a] (x2 a b) .aK (x2 a b)/\bk 42 [.av a,.ac b] (af 39 [(0,aL (eN a b)),(4,(aL C7))]) (.slice (some e) c c) d/\f (.tuple [.slice (some e) c c,.V 0]) (T.mk (d.M+2+3) (T.aF (bf d 2)))) :
 bl 21 [bb 1 a b 0 0 []] bG f :=
 bm ci (ap 6002 .aJ<|ap 7011 .aK<|.aG (.act 8004 (.slice (some e) c c) λx=>d) .nil) g
def UF(f d b c:Int)(a:Bytes)(e:aU)(g:(bz (decide (d>7)))/\(bz (1 == 1&&(0 == 0&&(0 == 0&&(b == 0&&(c == 0&&(a ==[]&&true)))))))/\e (.tuple [.slice none 0 0,.V 220]) (af 84 [(0,aL (.agg [.bA 1,.av f,.ac d,.V b,.V c,.str a])),(4,(aL (.agg [.bA 1,.av 0,.ac 0,.V b,.V c,.str a])))])) :
 bl 21 [bb 1 f d b c a] bG e :=
 bm ci (ap 6002 .aJ<|ap 7006 .aJ .nil) g
def UG(a b:Int)(c:aU)(d:(bz (decide (b>7)))/\bk 41 [.av a] (x2 a b) .aJ (x2 a b)/\c (.tuple [.slice none 0 0,.V 220]) (af 84 [(0,aL (eN a b)),(4,(aL C7))])) :
 bl 21 [bb 1 a b 0 0 []] bG c :=
 bm ci (ap 6002 .aJ<|ap 7011 .aJ .nil) d
def UH(b:T)(e c:Int)(d:bB)(a:Nat)(f:aU)(g:(bz (decide (c>7)))/\bk 43 [.av e,.ac c] (af 48 [(0,aL (.agg [.bA 2,.av e,.ac c,.V 0,.V 0,.str []])),(4,(aL (.agg [.bA 2,.av 0,.ac 0,.V 0,.V 0,.str []])))]) (.slice (some d) a a) b/\f (.tuple [.slice (some d) a a,.V 0]) (T.mk (b.M+2+3) (T.aF (bf b 2)))) :
 bl 21 [bb 2 e c 0 0 []] bG f :=
 bm ci (ap 6002 .aJ<|.aG (.act 10004 (.slice (some d) a a) λx=>b) .nil) g
def UI(a:T)(c b:Int)(d:aU)(e:(bz (decide (b>7)))/\bk 43 [.av c,.ac b] (af 48 [(0,aL (.agg [.bA 2,.av c,.ac b,.V 0,.V 0,.str []])),(4,(aL (.agg [.bA 2,.av 0,.ac 0,.V 0,.V 0,.str []])))]) (.slice none 0 0) a/\d (.tuple [.slice none 0 0,.V 220]) (T.mk (a.M+2+2) (T.aF (bf a 2)))) :
 bl 21 [bb 2 c b 0 0 []] bG d :=
 bm ci (ap 6002 .aJ<|.aG (.act 10004 (.slice none 0 0) λx=>a) .nil) e
def UJ(f d b c:Int)(a:Bytes)(e:aU)(g:(bz (decide (d>7)))/\(bz (2 == 2&&(0 == 0&&(0 == 0&&(b == 0&&(c == 0&&(a ==[]&&true)))))))/\e (.tuple [.slice none 0 0,.V 220]) (af 84 [(0,aL (.agg [.bA 2,.av f,.ac d,.V b,.V c,.str a])),(4,(aL (.agg [.bA 2,.av 0,.ac 0,.V b,.V c,.str a])))])) :
 bl 21 [bb 2 f d b c a] bG e :=
 bm ci (ap 6002 .aJ<|ap 9006 .aJ .nil) g
def UK(b:T)(c:bB)(a:Nat)(d:aU)(e:bk 44 [.str [79],.slice none 0 0] (af 48 [(0,aL jX),(4,(aL jX))]) (.slice (some c) a a) b/\d (.tuple [.slice (some c) a a,.V 0]) (T.mk (b.M+2+3) (T.aF (bf b 2)))) :
 bl 21 [bb 5 0 0 0 0 []] bG d :=
 bm ci (.aG (.act 12000 (.slice (some c) a a) λx=>b) .nil) e
def UL(b:T)(c:bB)(a:Nat)(d:aU)(e:bk 44 [.str [73],.slice none 0 0] (af 52 [(0,aL lf),(4,(aL jX))]) (.slice (some c) a a) b/\d (.tuple [.slice (some c) a a,.V 0]) (T.mk (b.M+2+3) (T.aF (bf b 2)))) :
 bl 21 [bb 5 1 0 0 0 []] bG d :=
 bm ci (.aG (.act 14000 (.slice (some c) a a) λx=>b) .nil) e
def UM(e a c d:Int)(b:Bytes)(f:aU)(g:(bz (decide (a>7)))/\(bz (5 == 5&&(e == 0&&(a == 0&&(c == 0&&(d == 0&&(b ==[]&&true)))))))/\(bz (5 == 5&&(e == 1&&(a == 0&&(c == 0&&(d == 0&&(b ==[]&&true)))))))/\f (.tuple [.slice none 0 0,.V 220]) (af 84 [(0,aL (.agg [.bA 5,.av e,.ac a,.V c,.V d,.str b])),(4,(aL (.agg [.bA 5,.av 0,.ac 0,.V c,.V d,.str b])))])) :
 bl 21 [bb 5 e a c d b] bG f :=
 bm ci (ap 6002 .aJ<|ap 11002 .aJ<|ap 13002 .aJ .nil) g
abbrev oH(a:Bytes):J:=J.agg [.bA 4,.av 0,.ac 0,.V 0,.V 0,.str a]
abbrev p8(a:Bytes):aa:=(aL (oH a))
abbrev Jc(a:Bytes):T:=(af 75 [(0,aL (oH a)),(4,(p8 a)),(68,aa.an [.V 200] 1 true)])
def UN(d f:T)(a:Bytes)(e g:bB)(b c:Nat)(h:aU)(i:(cX (4 == 4&&(0 == 0&&(0 == 0&&(0 == 0&&(0 == 0&&(a == a&&true)))))))/\(cX (decide ((↑(a.length):Int)<=65536)))/\bk 45 [.str a,.str [27,91,50,48,49,126]] (af 68 [(0,aL (oH a)),(4,(p8 a))]) .aJ (af 68 [(0,aL (oH a)),(4,(p8 a))])/\bk 44 [.str [126],.slice (b5 68) 1 1] (Jc a) (.slice (some e) b b) d/\hW 75 (Jc a) d=true/\a6 env.D 9 ⟨0,0,0,5,6⟩ d=some (J.str a)/\bY (a.length+(Array.toList (ByteArray.data {data:= #[27,91,50,48,49,126]})).length)/\eY env Builtin.append {toList:=[34,9]} [.slice (some e) b b,.str (a++[(27:UInt8),91,50,48,49,126])] 73 d=some (J.slice (some g) c c,f)/\(bB.id e<68\/75<=bB.id e)/\h (.tuple [.slice (some g) c c,.V 0]) (T.mk (f.M+2+3) (T.aF (bf f 2)))) :
 bl 21 [bb 4 0 0 0 0 a] bG h :=
 bm ci (ap 15004 .aK<|ap 15009 .aK<|ap 15014 .aJ<|.aG (.act 16001 (.slice (some e) b b) λx=>d)<|ap 16003 (.str a)<|ab 16004<|.aG (.zI 16005 (.slice (some g) c c) λx=>f) .nil) i
def UO(e b c d:Int)(a:Bytes)(f:aU)(g:(bz (decide (b>7)))/\(bz (4 == 4&&(e == 0&&(b == 0&&(c == 0&&(d == 0&&(a == a&&true)))))))/\f (.tuple [.slice none 0 0,.V 220]) (af 84 [(0,aL (.agg [.bA 4,.av e,.ac b,.V c,.V d,.str a])),(4,(aL (.agg [.bA 4,.av 0,.ac 0,.V c,.V d,.str a])))])) :
 bl 21 [bb 4 e b c d a] bG f :=
 bm ci (ap 6002 .aJ<|ap 15004 .aJ .nil) g
def UP(a:Bytes)(b:aU)(c:(cX (4 == 4&&(0 == 0&&(0 == 0&&(0 == 0&&(0 == 0&&(a == a&&true)))))))/\(bz (decide ((↑(a.length):Int)<=65536)))/\b (.tuple [.slice none 0 0,.V 220]) (af 84 [(0,aL (oH a)),(4,(p8 a))])) :
 bl 21 [bb 4 0 0 0 0 a] bG b :=
 bm ci (ap 15004 .aK<|ap 15009 .aJ .nil) c
def UQ(a:Bytes)(b:aU)(c:(cX (4 == 4&&(0 == 0&&(0 == 0&&(0 == 0&&(0 == 0&&(a == a&&true)))))))/\(cX (decide ((↑(a.length):Int)<=65536)))/\bk 45 [.str a,.str [27,91,50,48,49,126]] (af 68 [(0,aL (oH a)),(4,(p8 a))]) .aK (af 68 [(0,aL (oH a)),(4,(p8 a))])/\b (.tuple [.slice none 0 0,.V 220]) (af 84 [(0,aL (oH a)),(4,(p8 a))])) :
 bl 21 [bb 4 0 0 0 0 a] bG b :=
 bm ci (ap 15004 .aK<|ap 15009 .aK<|ap 15014 .aK .nil) c
abbrev iW(a:Bytes):J:=J.agg [.bA 6,.av 0,.ac 0,.V 0,.V 0,.str a]
def UR(e f c l m:T)(a:Bytes)(h b d:Nat)(g:bB)(j:Option bB)(i:aU)(k:(cX (6 == 6&&(0 == 0&&(0 == 0&&(0 == 0&&(0 == 0&&(a == a&&true)))))))/\(cX (decide ((↑(a.length):Int)<=62)))/\bk 14 [] (af 82 [(0,aL (iW a)),(4,(aL (iW a)))]) (.aT h) e/\a6 env.D 9 ⟨0,0,0,5,6⟩ (bf e 6)=some (J.str a)/\bk 44 [.str a,.slice none 0 0] (bf e 6) (.slice (some g) b b) f/\bk 26 [J.aT h,.slice (some g) b b] f (.slice j d d) c/\(bz ((d:Int) == 1))/\i (.tuple [.slice none 0 0,.V 220]) (T.mk (c.M+17+2) (T.aF (T.mk (c.M+15+2) (T.aF (bf c 15)))))) :
 bl 21 [bb 6 0 0 0 0 a] bG i :=
 bm ci (ap 17004 .aK<|ap 17009 .aK<|.aG (.act 18000 (.aT h) λx=>e)<|ap 19002 (.str a)<|.aG (.act 19003 (.slice (some g) b b) λx=>f)<|.aG (.act 19004 (.slice j d d) λx=>c)<|ap 20002 .aJ .nil) k
def US(e g b r s:T)(a:Bytes)(j c f l:Nat)(h t:bB)(u:Nat)(k i m d o:Int)(n:Bytes)(p:aU)(q:(cX (6 == 6&&(0 == 0&&(0 == 0&&(0 == 0&&(0 == 0&&(a == a&&true)))))))/\(cX (decide ((↑(a.length):Int)<=62)))/\bk 14 [] (af 82 [(0,aL (iW a)),(4,(aL (iW a)))]) (.aT j) e/\a6 env.D 9 ⟨0,0,0,5,6⟩ (bf e 6)=some (J.str a)/\bk 44 [.str a,.slice none 0 0] (bf e 6) (.slice (some h) c c) g/\bk 26 [J.aT j,.slice (some h) c c] g (.slice (some ⟨f,l,0,0,6⟩) 1 1) b/\a6 env.D 42 ⟨f,l,0,0,6⟩ (bf b 15)=some (J.agg [.bA k,.av i,.ac m,.V d,.V o,.str n])/\f<b.M/\a6 env.D 42 bH (bf b 15)=some ((iW a))/\0<b.M/\(bz (k == 6&&(i == 0&&(m == 0&&(d == 0&&(o == 0&&(n == a&&true)))))))/\p (.tuple [.slice none 0 0,.V 220]) (T.mk (b.M+17+2) (T.aF (T.mk (b.M+15+2) (T.aF (bf b 15)))))) :
 bl 21 [bb 6 0 0 0 0 a] bG p :=
 bm ci (ap 17004 .aK<|ap 17009 .aK<|.aG (.act 18000 (.aT j) λd=>e)<|ap 19002 (.str a)<|.aG (.act 19003 (.slice (some h) c c) λd=>g)<|.aG (.act 19004 (.slice (some ⟨f,l,0,0,6⟩) 1 1) λd=>b)<|.aG (.gO 20006 (bb k i m d o n))<|.aG (.gO 20007 (bb 6 0 0 0 0 a))<|ap 20008 .aJ .nil) q
def UT(d h b e n:T)(a:Bytes)(f c g k:Nat)(i o:bB)(p:Nat)(q:J)(j:Int)(l:aU)(m:(cX (6 == 6&&(0 == 0&&(0 == 0&&(0 == 0&&(0 == 0&&(a == a&&true)))))))/\(cX (decide ((↑(a.length):Int)<=62)))/\bk 14 [] (af 82 [(0,aL (iW a)),(4,(aL (iW a)))]) (.aT f) d/\a6 env.D 9 ⟨0,0,0,5,6⟩ (bf d 6)=some (J.str a)/\bk 44 [.str a,.slice none 0 0] (bf d 6) (.slice (some i) c c) h/\bk 26 [J.aT f,.slice (some i) c c] h (.slice (some ⟨g,k,0,0,6⟩) 1 1) b/\a6 env.D 42 ⟨g,k,0,0,6⟩ (bf b 15)=some ((iW a))/\g<b.M/\a6 env.D 42 bH (bf b 15)=some ((iW a))/\0<b.M/\(cX (6 == 6&&(0 == 0&&(0 == 0&&(0 == 0&&(0 == 0&&(a == a&&true)))))))/\bk 16 [J.aT f] (bf b 15) (.V j) e/\(bz (j == 0))/\l (.tuple [.slice none 0 0,.V 220]) (T.mk (e.M+2+2) (T.aF (bf e 2)))) :
 bl 21 [bb 6 0 0 0 0 a] bG l :=
 bm ci (ap 17004 .aK<|ap 17009 .aK<|.aG (.act 18000 (.aT f) λx=>d)<|ap 19002 (.str a)<|.aG (.act 19003 (.slice (some i) c c) λx=>h)<|.aG (.act 19004 (.slice (some ⟨g,k,0,0,6⟩) 1 1) λx=>b)<|.aG (.gO 20006 (bb 6 0 0 0 0 a))<|.aG (.gO 20007 (bb 6 0 0 0 0 a))<|ap 20008 .aK<|.aG (.act 20012 (.V j) λx=>e)<|ap 20013 .aJ .nil) m
def UU(e j b f g:T)(a:Bytes)(h c i m:Nat)(k l:bB)(d:Nat)(q:J)(p:Int)(n:aU)(o:(cX (6 == 6&&(0 == 0&&(0 == 0&&(0 == 0&&(0 == 0&&(a == a&&true)))))))/\(cX (decide ((↑(a.length):Int)<=62)))/\bk 14 [] (af 82 [(0,aL (iW a)),(4,(aL (iW a)))]) (.aT h) e/\a6 env.D 9 ⟨0,0,0,5,6⟩ (bf e 6)=some (J.str a)/\bk 44 [.str a,.slice none 0 0] (bf e 6) (.slice (some k) c c) j/\bk 26 [J.aT h,.slice (some k) c c] j (.slice (some ⟨i,m,0,0,6⟩) 1 1) b/\a6 env.D 42 ⟨i,m,0,0,6⟩ (bf b 15)=some ((iW a))/\i<b.M/\a6 env.D 42 bH (bf b 15)=some ((iW a))/\0<b.M/\(cX (6 == 6&&(0 == 0&&(0 == 0&&(0 == 0&&(0 == 0&&(a == a&&true)))))))/\bk 16 [J.aT h] (bf b 15) (.V 0) f/\a6 env.D 9 ⟨0,0,0,5,6⟩ (bf f 4)=some (J.str a)/\bk 44 [.str a,.slice none 0 0] (bf f 4) (.slice (some l) d d) g/\n (.tuple [.slice (some l) d d,.V 0]) (T.mk (g.M+2+3) (T.aF (bf g 2)))) :
 bl 21 [bb 6 0 0 0 0 a] bG n :=
 bm ci (ap 17004 .aK<|ap 17009 .aK<|.aG (.act 18000 (.aT h) λx=>e)<|ap 19002 (.str a)<|.aG (.act 19003 (.slice (some k) c c) λx=>j)<|.aG (.act 19004 (.slice (some ⟨i,m,0,0,6⟩) 1 1) λx=>b)<|.aG (.gO 20006 (bb 6 0 0 0 0 a))<|.aG (.gO 20007 (bb 6 0 0 0 0 a))<|ap 20008 .aK<|.aG (.act 20012 (.V 0) λx=>f)<|ap 21001 (.str a)<|.aG (.act 21002 (.slice (some l) d d) λx=>g) .nil) o
def UW(e b c d:Int)(a:Bytes)(f:aU)(g:(bz (decide (b>7)))/\(bz (6 == 6&&(e == 0&&(b == 0&&(c == 0&&(d == 0&&(a == a&&true)))))))/\f (.tuple [.slice none 0 0,.V 220]) (af 84 [(0,aL (.agg [.bA 6,.av e,.ac b,.V c,.V d,.str a])),(4,(aL (.agg [.bA 6,.av 0,.ac 0,.V c,.V d,.str a])))])) :
 bl 21 [bb 6 e b c d a] bG f :=
 bm ci (ap 6002 .aJ<|ap 17004 .aJ .nil) g
def UX(a:Bytes)(b:aU)(c:(cX (6 == 6&&(0 == 0&&(0 == 0&&(0 == 0&&(0 == 0&&(a == a&&true)))))))/\(bz (decide ((↑(a.length):Int)<=62)))/\b (.tuple [.slice none 0 0,.V 220]) (af 84 [(0,aL (iW a)),(4,(aL (iW a)))])) :
 bl 21 [bb 6 0 0 0 0 a] bG b :=
 bm ci (ap 17004 .aK<|ap 17009 .aJ .nil) c
def UY(a f c d e:Int)(b:Bytes)(g:aU)(h:(bz (a == 3))/\(bz (decide (c>7)))/\(bz (a == 1))/\(bz (a == 2))/\(bz (a == 5&&(f == 0&&(c == 0&&(d == 0&&(e == 0&&(b ==[]&&true)))))))/\(bz (a == 5&&(f == 1&&(c == 0&&(d == 0&&(e == 0&&(b ==[]&&true)))))))/\(bz (a == 4&&(f == 0&&(c == 0&&(d == 0&&(e == 0&&(b == b&&true)))))))/\(bz (a == 6&&(f == 0&&(c == 0&&(d == 0&&(e == 0&&(b == b&&true)))))))/\g (.tuple [.slice none 0 0,.V 220]) (af 84 [(0,aL (.agg [.bA a,.av f,.ac c,.V d,.V e,.str b])),(4,(aL (.agg [.bA a,.av 0,.ac 0,.V d,.V e,.str b])))])) :
 bl 21 [bb a f c d e b] bG g :=
 bm ci (ap 4002 .aJ<|ap 6002 .aJ<|ap 7002 .aJ<|ap 9002 .aJ<|ap 11002 .aJ<|ap 13002 .aJ<|ap 15004 .aJ<|ap 17004 .aJ .nil) h
def UZ(a c e f:Int)(d:Bytes)(b:aU)(g:(cX (decide (a<0)))/\b (.slice none 0 0) (af 41 [(0,aL (.agg [.bA 3,.av a,.ac c,.V e,.V f,.str d]))])) :
 bl 40 [bb 3 a c e f d] bG b :=
 bm ci (ap 1002 .aK .nil) g
def U0(a c e f:Int)(d:Bytes)(b:aU)(g:(bz (decide (a<0)))/\(cX (decide (a>6)))/\b (.slice none 0 0) (af 41 [(0,aL (.agg [.bA 3,.av a,.ac c,.V e,.V f,.str d]))])) :
 bl 40 [bb 3 a c e f d] bG b :=
 bm ci (ap 1002 .aJ<|ap 1006 .aK .nil) g
def U1(a b e f:Int)(d:Bytes)(c:aU)(g:(bz (decide (a<0)))/\(bz (decide (a>6)))/\(cX (decide (b>7)))/\c (.slice none 0 0) (af 41 [(0,aL (.agg [.bA 3,.av a,.ac b,.V e,.V f,.str d]))])) :
 bl 40 [bb 3 a b e f d] bG c :=
 bm ci (ap 1002 .aJ<|ap 1006 .aJ<|ap 1011 .aK .nil) g
def U2(a b c f:Int)(e:Bytes)(d:aU)(g:(bz (decide (a<0)))/\(bz (decide (a>6)))/\(bz (decide (b>7)))/\(cX (decide (c<0)))/\d (.slice none 0 0) (af 41 [(0,aL (.agg [.bA 3,.av a,.ac b,.V c,.V f,.str e]))])) :
 bl 40 [bb 3 a b c f e] bG d :=
 bm ci (ap 1002 .aJ<|ap 1006 .aJ<|ap 1011 .aJ<|ap 1016 .aK .nil) g
def U3(a c b f:Int)(e:Bytes)(d:aU)(g:(bz (decide (a<0)))/\(bz (decide (a>6)))/\(bz (decide (c>7)))/\(bz (decide (b<0)))/\(cX (decide (b≥4096)))/\d (.slice none 0 0) (af 41 [(0,aL (.agg [.bA 3,.av a,.ac c,.V b,.V f,.str e]))])) :
 bl 40 [bb 3 a c b f e] bG d :=
 bm ci (ap 1002 .aJ<|ap 1006 .aJ<|ap 1011 .aJ<|ap 1016 .aJ<|ap 1021 .aK .nil) g
def U4(a c b d:Int)(f:Bytes)(e:aU)(g:(bz (decide (a<0)))/\(bz (decide (a>6)))/\(bz (decide (c>7)))/\(bz (decide (b<0)))/\(bz (decide (b≥4096)))/\(cX (decide (d<0)))/\e (.slice none 0 0) (af 41 [(0,aL (.agg [.bA 3,.av a,.ac c,.V b,.V d,.str f]))])) :
 bl 40 [bb 3 a c b d f] bG e :=
 bm ci (ap 1002 .aJ<|ap 1006 .aJ<|ap 1011 .aJ<|ap 1016 .aJ<|ap 1021 .aJ<|ap 1026 .aK .nil) g
def U5(a d b c:Int)(f:Bytes)(e:aU)(g:(bz (decide (a<0)))/\(bz (decide (a>6)))/\(bz (decide (d>7)))/\(bz (decide (b<0)))/\(bz (decide (b≥4096)))/\(bz (decide (c<0)))/\(cX (decide (c≥4096)))/\e (.slice none 0 0) (af 41 [(0,aL (.agg [.bA 3,.av a,.ac d,.V b,.V c,.str f]))])) :
 bl 40 [bb 3 a d b c f] bG e :=
 bm ci (ap 1002 .aJ<|ap 1006 .aJ<|ap 1011 .aJ<|ap 1016 .aJ<|ap 1021 .aJ<|ap 1026 .aJ<|ap 1031 .aK .nil) g
def U6(a d b c:Int)(e:Bytes)(f:aU)(g:(bz (decide (a<0)))/\(bz (decide (a>6)))/\(bz (decide (d>7)))/\(bz (decide (b<0)))/\(bz (decide (b≥4096)))/\(bz (decide (c<0)))/\(bz (decide (c≥4096)))/\some (J.bool !e == Array.toList #[])=some (J.bool true)/\f (.slice none 0 0) (af 41 [(0,aL (.agg [.bA 3,.av a,.ac d,.V b,.V c,.str e]))])) :
 bl 40 [bb 3 a d b c e] bG f :=
 bm ci (ap 1002 .aJ<|ap 1006 .aJ<|ap 1011 .aJ<|ap 1016 .aJ<|ap 1021 .aJ<|ap 1026 .aJ<|ap 1031 .aJ<|ap 1036 .aK .nil) g
abbrev kG(a:Nat):J:=J.slice (b5 a) 3 3
abbrev rP(a b c d:Nat):J:=J.agg [.bA 3,.av a,.ac b,.V c,.V d,.str []]
abbrev rQ:J:=J.agg [.V 0,.V 1,.V 2,.V 0,.V 64,.V 65,.V 35]
def U7(f i j:T)(c d a e k l m b g:Nat)(n:J)(o:aU)(p:(bz false)/\(bz (decide ((c:Int)>6)))/\(bz (decide ((d:Int)>7)))/\(bz false)/\(bz (decide ((a:Int)≥4096)))/\(bz false)/\(bz (decide ((e:Int)≥4096)))/\(bz false)/\(bz ((c:Int) == 3))/\hW 63 (af 63 [(0,aL (rP c d a e))]) (af 66 [(0,aL (rP c d a e)),(63,(aa.an ([rQ]) 7 true (some (106,7))))])=true/\c' env.D 106 (rQ) (.av c)=some (.V k)/\(bd ((d:Int)))/\Int.NonNeg (2-0)/\True/\(bd ((a:Int)+1))/\(bd ((e:Int)+1))/\bk 44 [.str [77],.slice (b5 60) 3 3] (af 66 [(0,aL (rP c d a e)),(60,aa.an [.V (bP .i64 (k:Int) (eu .i64 (d:Int) (2))),.V ((a:Int)+1),.V ((e:Int)+1)] 1 true),(63,(aa.an ([rQ]) 7 true (some (106,7))))]) (.aB l m 0 b b) f/\bt env cr (f.M+0) (ba []) (bf f 6) (Op.buildSlice 34 3 {toList:=[(0,Operand.const (Value.int .u8 (27))),(1,Operand.const (Value.int .u8 (91))),(2,Operand.const (Value.int .u8 (60)))]})=some ((kG g),i)/\du env (f.M+1) (ba [(64,(kG g))]) i (Op.convert 34 34 (Operand.tmp 64))=some ((kG g),i)/\((0:Int)<=2/\2<=(b:Int)/\b<=b)/\eY env Builtin.append {toList:=[34,34]} [(kG g),.aB l m 2 (b-2) (b-2)] (f.M+4) i=some (n,j)/\o n j) :
 bl 40 [bb 3 c d a e []] bG o :=
 bm ci (ap 1002 .aJ<|ap 1006 .aJ<|ap 1011 .aJ<|ap 1016 .aJ<|ap 1021 .aJ<|ap 1026 .aJ<|ap 1031 .aJ<|ap 1036 .aJ<|ap 4002 .aJ<|he 6001<|ap 6004 (.V k)<|ab 6007<|ab 6008<|ab 6009<|ab 6012<|ab 6015<|.aG (.act 6017 (.aB l m 0 b b) λa=>f)<|.aG (.act 7000 ((kG g)) λa=>i)<|.aG (.im 7001 ((kG g)) λh=>h)<|ab 7003<|.aG (.act 7004 n λa=>j) .nil) p
def U8(f i j:T)(c d a e k l m b g:Nat)(n:J)(o:aU)(p:(bz false)/\(bz (decide ((c:Int)>6)))/\(bz (decide ((d:Int)>7)))/\(bz false)/\(bz (decide ((a:Int)≥4096)))/\(bz false)/\(bz (decide ((e:Int)≥4096)))/\(bz false)/\(cX ((c:Int) == 3))/\hW 64 (af 64 [(0,aL (rP c d a e))]) (af 67 [(0,aL (rP c d a e)),(64,(aa.an ([rQ]) 7 true (some (106,7))))])=true/\c' env.D 106 (rQ) (.av c)=some (.V k)/\(bd ((d:Int)))/\Int.NonNeg (2-0)/\True/\(bd ((a:Int)+1))/\(bd ((e:Int)+1))/\bk 44 [.str [109],.slice (b5 61) 3 3] (af 67 [(0,aL (rP c d a e)),(61,aa.an [.V (bP .i64 (k:Int) (eu .i64 (d:Int) (2))),.V ((a:Int)+1),.V ((e:Int)+1)] 1 true),(64,(aa.an ([rQ]) 7 true (some (106,7))))]) (.aB l m 0 b b) f/\bt env cr (f.M+0) (ba []) (bf f 6) (Op.buildSlice 34 3 {toList:=[(0,Operand.const (Value.int .u8 (27))),(1,Operand.const (Value.int .u8 (91))),(2,Operand.const (Value.int .u8 (60)))]})=some ((kG g),i)/\du env (f.M+1) (ba [(64,(kG g))]) i (Op.convert 34 34 (Operand.tmp 64))=some ((kG g),i)/\((0:Int)<=2/\2<=(b:Int)/\b<=b)/\eY env Builtin.append {toList:=[34,34]} [(kG g),.aB l m 2 (b-2) (b-2)] (f.M+4) i=some (n,j)/\o n j) :
 bl 40 [bb 3 c d a e []] bG o :=
 bm ci (ap 1002 .aJ<|ap 1006 .aJ<|ap 1011 .aJ<|ap 1016 .aJ<|ap 1021 .aJ<|ap 1026 .aJ<|ap 1031 .aJ<|ap 1036 .aJ<|ap 4002 .aK<|he 6001<|ap 6004 (.V k)<|ab 6007<|ab 6008<|ab 6009<|ab 6012<|ab 6015<|.aG (.act 6017 (.aB l m 0 b b) λa=>f)<|.aG (.act 7000 ((kG g)) λa=>i)<|.aG (.im 7001 ((kG g)) λh=>h)<|ab 7003<|.aG (.act 7004 n λa=>j) .nil) p
def uH{x:Nat}{l:List J}(h:l=aE (put x))(hs:s=strOf l):s=put x:=by rw [hs,h,gY]
def rz(x:Nat)(v:J)(Z:T):Prop:=v=.str (put x)/\Z.get 0=some (iv x)
def U9{x:Nat}(hs:Keys.Scalar x):∃v Z,be 51 [.aB 0 0 0 1 1] (T.of [iv x]) v Z/\rz x v Z:=by
 have e:T.of [iv x]=T.rows 1 [(0,iv x)]:= ao;rw [e];unfold Keys.Scalar at hs;by_cases h:x<55296
 .refine Ut x (rz x) ?_;have a:x<2^31:= A;refine⟨by simp;omega,by simp;omega,?_⟩
  repeat' (first|exact True.intro|apply And.intro|intro _)
  all_goals first
   |omega
   |(simp only [a8,J.bool.injEq,o4];omega)
   |exact f'
   |exact(oe a).1|exact(oe a).2|exact(og a).1|exact(og a).2
   |exact(ri A).1|exact(ri A).2|exact(oh A).1|exact(oh A).2
   |exact dm J.str (uH (lR A) rfl)
   |exact dm J.str (uH (pN A A) rfl)
   |exact dm J.str (uH (od A A A) rfl)
   |rfl
 .refine Uu x (rz x) ?_;have a:x<2^31:= A;refine⟨by simp;omega,by simp;omega,by simp;omega,by simp;omega,by simp;omega,?_⟩
  repeat' (first|exact True.intro|apply And.intro|intro _)
  all_goals first
   |omega
   |exact f'
   |exact(oe a).1|exact(oe a).2|exact(og a).1|exact(og a).2|exact(rh a).1|exact(rh a).2
   |exact(oh A).1|exact(oh A).2|exact(rj A).1|exact(rj A).2
   |exact dm J.str (uH (od A A A) rfl)
   |exact dm J.str (uH (pO A A) rfl)
   |rfl
def Jd{x:Nat}{H:T}(hs:Keys.Scalar x)(ab:H.get q=some (iv x))(g:q<H.M):be 51 [.aB q 0 0 1 1] H (.str (put x)) H:=by
 obtain⟨v,Z,d,rfl,aM⟩:=U9 hs
 have a:cu (iv x):=by intro e he;simp only [iv,aa.an,cF]at he;subst he;exact b0.int _ _
 have:=bj.pure (l:=[iv x]) d (λb c=>by rw [cF.1 c];exact a) (by show [Z.get 0]=_;rw [aM];rfl) (b0.str _) (by exact⟨by show 0<1;decide,trivial⟩) (H:=H) [q] au (by intro j f;rw [cF.1 f];exact g) (by simp [ab]);simpa [J.aO,bB.aO,cP]using this
noncomputable def okB(r:Option (J×T))(bs:Bytes):Bool :=
 match r with
 |some (.slice (some a) n c,h) =>
  decide (n=bs.length)&&decide (c=bs.length)&&decide (a.fld=0)&&decide (a.es=1)&&decide (a.idx=0)&&Nat.blt a.id h.M &&
   (match h.get a.id with|some b=>decide (a.ad=b.ad)&&!b.ro&&ph b.bg&&decide (bytesOf b.bg=some bs)&&(b.exact || decide (b.ty=none) || decide (b.ty=some (5,0)))|none=>false)
 |_=>false
def Je:∀{l:List J}{bs:Bytes},ph l=true->bytesOf l=some bs->l=aE bs
 |[],bs,_,h=>by simp only [bytesOf,a8]at h;subst h;rfl
 |a ::r,bs,ah,h=>by
  unfold ph at ah;split at ah
  .rename_i he;cases he
  .rename_i n b he;simp only [fJ]at he;obtain⟨rfl,rfl⟩:=he;simp only [cC,eP]at ah;simp only [bytesOf,cb]at h;obtain⟨l,Y,rfl⟩:=h;rw [Je ah.2 Y];show _=J.ac ((UInt8.ofNat n.toNat).toNat:Int)::aE l;rw [qv,show((n.toNat%2^8:Nat):Int)=n by omega]
  .cases ah
def Jf{f:FuncId}{args:List J}(h:okB (hY Tryz.prog env k f args ⟨0,.nil⟩) bs=true)(m:∀a∈args,b0 a)(H:T) :
 ∃v H' j,be f args H v H'/\dF H' j v bs/\H.M<=j/\∀x,x<H.M->H'.get x=H.get x:=by
 unfold okB at h;split at h
 .rename_i a n c Y q;simp only [cC,eP,eC,gV]at h;obtain⟨⟨⟨⟨⟨⟨rfl,rfl⟩,cw⟩,cy⟩,et⟩,aM⟩,d⟩:=h;have aM:=eG.mp aM;split at d
  .rename_i b l;simp only [cC,eP,eC,gV]at d;obtain⟨⟨⟨⟨s,F⟩,G⟩,I⟩,K⟩:=d;have p:=Je G I
   have w:cu b:=by intro e he;rw [p]at he;exact js bs e he
   rw [mF]at q;have y:be f args (T.of []) _ Y:=bj.lG c6 mixed q;obtain⟨H',o,C,z,D⟩:=y.place au (λb l=>by cases l) (pw.2 λa h=>(m a h).dj _) (H:=H) [] kR (λj B=>by cases B) rfl (λi b h=>by simp at h);have r:∀i,cP [] H.M i=H.M+i:=λi=>by rw [k0 au];simp
   have g:=z a.id b l;rw [w.aO,r]at g
   have u:args.map (J.aO (cP [] H.M))=args:=by
    conv=>rhs;rw [<-pb args]
    exact i' λe he=>(m e he).1 _
   rw [u]at o;obtain⟨t,P,O,N,L⟩:=a;simp only at cw cy et s g aM;subst cw cy et s;refine⟨_,H',H.M+t,o,⟨⟨b,?_,g,F,p,λhe=> ?_⟩,?_⟩,A,λx E=>D x E au⟩
   .simp only [J.aO,bB.aO,r]
   .rcases K with (h|h)|h
    .rw [he]at h;cases h
    .exact .inl h
    .exact .inr h
   .rw [C];simp only [cq,o6];omega
  .cases d
 .cases h
def U'(r:Option (J×T)):Bool:=match r with|some (.slice none n c,_)=>decide (n=0)&&decide (c=0)|_=>false
def uI(n:Nat):Bytes:=if n<10 then [u8 (48+n)]else if n<100 then [u8 (48+n/10),u8 (48+n%10)]else [u8 (48+n/100),u8 (48+n/10%10),u8 (48+n%10)]
def C8(h:n<1000):uI n=Lib.decDigits n:=by
 unfold uI;split
 .exact(p7 ‹_›).symm
 .split
  .rw [p6 A,p7 A];rfl
  .rw [p6 A,p6 A,p7 A,qC];rfl
def C9(e:UInt8)(a:Nat):Bytes:=27::91::(uI a++[e])
def rR(e:UInt8)(a b:Nat):Bytes:=27::91::(uI a++59::uI b++[e])
def Va{e:UInt8}{a:Nat}(h:a<1000):C9 e a=e7 [e] [a]:=by unfold C9;rw [C8 h];rfl
def uJ{e:UInt8}{a b:Nat}(h:a<1000)(ag:b<1000):rR e a b=e7 [e] [a,b]:=by unfold rR;rw [C8 h,C8 ag];rfl
def C'(r m:Nat):Bytes :=
 match (if m=2 then none else uA r)with
 |some c=>if m=4 then [c]else [27,c]
 |none=>rR 117 r (m+1)
noncomputable def p9(r m:Nat):Bool:=okB (hY Tryz.prog env 400 42 [.int .i32 (r:Nat),.int .u8 (m:Nat)] ⟨0,.nil⟩) (C' r m)
def Da(k m:Nat):Option Bytes :=
 if 1<=k/\k<=4 then
  if m=0 then some [u8 (oE k)]
  else if m=2/\k≠4 then some [27,u8 (oE k)]
  else if m=1/\k=2 then some [27,91,90]
  else some (rR 117 (oE k) (m+1))
 else match rK k with
 |some c=>if m=0 then some [27,91,c]else some (rR c 1 (m+1))
 |none =>
  if m=0/\21<=k/\k<=24 then some [27,79,u8 (80+(k-21))]
  else match mX k with
  |some n=>if m=0 then some (C9 126 n)else some (rR 126 n (m+1))
  |none=>none
noncomputable def uK(k m:Nat):Bool :=
 match Da k m with
 |some bs=>okB (hY Tryz.prog env 400 43 [.int .i32 (k:Nat),.int .u8 (m:Nat)] ⟨0,.nil⟩) bs
 |none=>U' (hY Tryz.prog env 400 43 [.int .i32 (k:Nat),.int .u8 (m:Nat)] ⟨0,.nil⟩)
def Vb:∀k:Fin 14,∀m:Fin 8,uK (k.val+1) m.val=true:=by decide+kernel
def Vc:∀k:Fin 6,∀m:Fin 8,uK (k.val+21) m.val=true:=by decide+kernel
def Vd:∀k:Fin 6,∀m:Fin 8,uK (k.val+27) m.val=true:=by decide+kernel
def Jg:∀r:Fin 48,p9 (r.val+32) 4=true/\p9 (r.val+32) 6=true:=by decide+kernel
def Jh:∀r:Fin 47,p9 (r.val+80) 4=true/\p9 (r.val+80) 6=true:=by decide+kernel
def Ji:p9 91 2=true/\p9 79 2=true:=by decide+kernel
end Go.Proofs.zz
