/-
  Parts of the proof of KeysName.
-/
import Derived.Test.YtddnafghiejcoaaGreatDoorKKeysNameC
set_option maxRecDepth 1000000
set_option linter.unusedVariables false
set_option linter.defProp false
set_option linter.unusedSimpArgs false
namespace Go.Keys
def F1:∀(k i aD ah v:Nat)(l:Bytes),i<=(tail k i aD ah v l).2.1/\(tail k i aD ah v l).2.1<=i+l.length
 |0,i,aD,ah,v,l=>by simp [tail]
 |k+1,i,aD,ah,v,[]=>by simp [tail]
 |k +1,i,aD,ah,v,c::r=>by
  simp only [tail];split
  .simp
  .have:=F1 k (i+1) 128 191 (v*64+c.toNat%64) r;simp only [bK];omega
def tj{s:Bytes}(h:s≠[]):1<=(first s).2.1/\(first s).2.1<=s.length:=by
 cases s with
 |nil=>exact absurd rfl h
 |cons b r =>
  simp only [first];split
  .simp
  .split
   .simp
   .have:=F1 ((lead b.toNat).1-1) 1 (lead b.toNat).2.1 (lead b.toNat).2.2 (b.toNat%2^(7- (lead b.toNat).1)) r;simp only [bK];omega
def F2:∀(k k':Nat)(s:Bytes),s.length<=k->s.length<=k'->gZ k s=gZ k' s
 |0,0,s,_,_=>rfl
 |0,k'+1,[],_,_=>rfl
 |0,k'+1,b::r,h,_=>by simp at h
 |k+1,0,[],_,_=>rfl
 |k+1,0,b::r,_,h=>by simp at h
 |k+1,k'+1,[],_,_=>rfl
 |k+1,k'+1,b::r,h,Z=>by simp only [gZ];have:=(tj (s:=b::r) au).1;rw [F2 k k' _ (by simp only [eF,bK]at *; omega) (by simp only [eF,bK]at *; omega)]
def wP:dv []=[]:=rfl
def wQ{s:Bytes}(h:s≠[]):dv s=(first s).1::dv (s.drop (first s).2.1):=by
 cases s with
 |nil=>exact absurd rfl h
 |cons b r =>
  have:=(tj (s:=b::r) au).1;unfold dv;simp only [bK,gZ];rw [F2 r.length _ _ (by simp only [eF,bK];omega) (Nat.le_refl _)]
def F3:∀(n:Nat)(s:Bytes),s.length<=n->(dv s).length<=s.length
 |0,s,h=>by have:s=[]:=pc A;subst this;simp [wP]
 |n +1,s,h=>by
  by_cases hs:s=[]
  .subst hs;simp [wP]
  .rw [wQ hs];have a:=tj hs;have:=F3 n (s.drop (first s).2.1) (by simp only [eF];omega);simp only [bK];simp only [eF]at this;omega
end Go.Keys
namespace Go.Proofs.zz
open Go.br Go.Keys
def c8(l:List Nat):List J:=l.map fun(n:Nat)=>J.int .i32 n
def F4(l:List Nat):(c8 l).length=l.length:=by simp [c8]
def hL(n:Nat):Nat:=if n=1 then 0 else 1
abbrev kt(l:List Nat):aa:=fu (c8 l) (l.length-1) (hL l.length)
abbrev k5(s:Bytes)(l i:Nat):bc:=[(0,.str s),(3,.slice (some ⟨16,l-1,0,0,1⟩) l l),(4,.int .i64 (i:Nat))]
def PF{n l c:Nat} :bR (Go.br.b3 [16]) (.aB 16 n 0 l c):=(by show(16:Nat)∈ [16];simp)
def oc(l:List Nat):∀e∈c8 l,b0 e:=b0.ints l .i32 fun(n:Nat)=>(n:Int)
def F5(s:Bytes)(l i:Nat)(h:T)(b:aa)(a:cu b)(ab:h.get 16=some b):bW 0 26 (k5 s l i) h (k5 s l i) (T.rows 20 [(16,b)]) :=
 bW.drop (K:=20) (l:=[(16,b)]) (by simp [ab]) rfl rfl (by rfl) (by
  refine aX.cons trivial (aX.cons PF (aX.cons trivial aX.nil))) (by
  refine aX.cons (λe he=>(a e he).dj _) aX.nil)
def PG(s:Bytes)(hs:s.length<2^40):∀(k i:Nat)(L:List Nat),s.length-i<=k->i<=s.length->1<=L.length->L.length<=i-> ∃Z,
 dd 0 26 (bu 150 0) (k5 s L.length i) (T.rows 20 [(16,kt L)]) (.exit 0) (k5 s (L++dv (s.drop i)).length s.length) Z/\Z.get 16=some (kt (L++dv (s.drop i))):=by
 intro k;induction k with
 |zero =>
  intro i L o ah Y m;obtain⟨e,a,Y,b,rfl,rfl,rfl⟩:=AB s i (L.length-1) (hL L.length) L.length (c8 L) (λe a Y=>e=.exit 0/\a=k5 s L.length i/\Y=T.bO 24 [(16,kt L)]) ⟨λh=> A,λ_=>⟨rfl,rfl,rfl⟩⟩;have:i=s.length:= A;subst this;rw [nI,wP,gy];exact⟨_,b2.last au b,ao⟩
 |succ k ih =>
  intro i L o ah Y m;by_cases aj:i<s.length
  .have f:s.drop i≠[]:=by rw [Ne,vd];omega
   have n:=tj f;rw [eF]at n
   obtain⟨e,a,ag,b,rfl,rfl,ab⟩:=AB s i (L.length-1) (hL L.length) L.length (c8 L) (λe a ag=>e=.normal/\a=k5 s (L.length+1) (i+(first (s.drop i)).2.1)/\ag.get 16=some (kt (L++[(first (s.drop i)).1]))) (by
    refine⟨λ_=>⟨⟨A,A⟩,⟨rfl,by rw [F4];omega,A,A,A⟩,⟨A,A⟩,rfl,?_,?_⟩,λh=> A⟩
    .unfold k5;rw [show L.length+1-1=L.length-1+1 by omega];rfl
    .have aQ:c8 (L++[(first (s.drop i)).1])=c8 L++[J.av ((first (s.drop i)).1:Int)]:=by simp [c8]
     have aZ:(L++[(first (s.drop i)).1]).length-1=L.length-1+1:=by simp;omega
     have g:hL (L++[(first (s.drop i)).1]).length=if 0=L.length-1 then(c8 L).length else min (hL L.length) (c8 L).length:=by
      rw [F4];unfold hL;simp only [dt,bK,cq];by_cases cL:L.length=1
      .rw [ai A,az A];omega
      .rw [ai A,ai A,ai cL];omega
     show some _=some (fu _ _ _)
     rw [aQ,aZ,g])
   obtain⟨Z,c,d⟩:=ih (i+(first (s.drop i)).2.1) (L++[(first (s.drop i)).1]) A A au (by simp;omega)
   have j:(L++[(first (s.drop i)).1])++dv (s.drop (i+(first (s.drop i)).2.1))=L++dv (s.drop i):=by rw [wQ f,qs];simp
   rw [j]at c d;have l:(L++[(first (s.drop i)).1]).length=L.length+1:= au;rw [show k5 s (L++[(first (s.drop i)).1]).length (i+(first (s.drop i)).2.1)=k5 s (L.length+1) (i+(first (s.drop i)).2.1)by rw [l]]at c;exact⟨Z,b2.round b (F5 s _ _ _ (kt (L++[(first (s.drop i)).1])) (oc _) ab) c,d⟩
  .obtain⟨e,a,Y,b,rfl,rfl,rfl⟩:=AB s i (L.length-1) (hL L.length) L.length (c8 L) (λe a Y=>e=.exit 0/\a=k5 s L.length i/\Y=T.bO 24 [(16,kt L)]) ⟨λh=> A,λ_=>⟨rfl,rfl,rfl⟩⟩;have:i=s.length:= A;subst this;rw [nI,wP,gy];exact⟨_,b2.last au b,ao⟩
def PH(H:T):be 150 [.str []] H (.slice none 0 0) H:=by refine bj.bU (F0 [] (.slice none 0 0) (.V 0) (T.bO 4 []) (λv _=>v=.slice none 0 0) ⟨?_,rfl⟩) rfl rfl H;refine cO.dn ?_;obtain⟨e,a,Y,b,rfl,rfl,rfl⟩:=FZ [] (λe a Y=>e=.exit 0/\a=[(0,J.str []),(3,J.slice none 0 0),(4,J.int .i64 0)]/\Y=T.bO 4 []) ⟨λh=>by simp at h,λ_=>⟨rfl,rfl,rfl⟩⟩;exact(b2.last au b).pre (bW.drop (K:=0) (l:=[]) rfl aC aC (by rfl) (aX.cons trivial (aX.cons trivial (aX.cons trivial aX.nil))) aX.nil)
def PI(s:Bytes)(hs:s.length<2^40)(aM:s≠[])(H:T):be 150 [.str s] H (.aB H.M ((dv s).length-1) 0 (dv s).length (dv s).length) (H.dY [] [kt (dv s)]):=by
 have c:=tj aM;have p:0<s.length:=gk.2 aM;have e0:List.drop 0 (List.take s.length s)=s:= au
 obtain⟨e,a,Y,o,rfl,rfl,k⟩:=FZ s (λe a Y=>e=.normal/\a=k5 s 1 (first s).2.1/\Y.get 16=some (kt [(first s).1])) (by
  rw [e0]
  exact⟨λ_=>⟨⟨A,A⟩,rfl,by rw [show(0:Int)+((first s).2.1:Int)=(((first s).2.1:Nat):Int)by omega],rfl⟩,λh=> A⟩)
 obtain⟨Z,d,ab⟩:=PG s hs s.length (first s).2.1 [(first s).1] A c.2 au (by simpa using c.1);rw [show [(first s).1]++dv (s.drop (first s).2.1)=dv s from(wQ aM).symm]at d ab;have f:=(b2.round o (F5 s 1 (first s).2.1 Y (kt [(first s).1]) (oc _) k) d).pre (bW.drop (h:=T.bO 3 []) (K:=0) (l:=[]) rfl aC aC (by rfl) (aX.cons trivial (aX.cons trivial (aX.cons trivial aX.nil))) aX.nil);obtain⟨v,ag,i,rfl,m⟩:=F0 s (.aB 16 ((dv s).length-1) 0 (dv s).length (dv s).length) (.V (s.length:Nat)) Z (λv ag=>v=.aB 16 ((dv s).length-1) 0 (dv s).length (dv s).length/\ag.get 16=some (kt (dv s))) ⟨cO.dn f,rfl,ab⟩;exact bj.zZ (l:=[]) (bn:=kt (dv s)) i (λb g=>by cases g) (oc _) rfl m au (by exact⟨trivial,trivial⟩) [] kR (λj n=>by cases n) rfl
abbrev ku(l:List J)(v f:Nat):aa:= {bg:=l,es:=1,exact:=false,ro:=false,ad:=v,eH:=0,fo:=f,ty:=some (5,0)}
abbrev ha(b a:Nat):J:=J.aB 0 b 0 a a
abbrev wR:J:=J.slice (b5 68) 3 3
abbrev PJ:b7:=(ab 21001<|ab 21005<|ab 6000 .nil)
abbrev hM(c a:Nat)(b:List J):aa:=⟨b,1,false,false,c,0,a,some (21,0)⟩
abbrev AC:J:=J.agg [.ac 239,.ac 191,.ac 189,.ac 0]
abbrev wS(a:Nat)(b:List J):J:=J.agg [.ac (bP .u8 (bh .i32 (aS b (0+(a:Int).toNat)) (6)) (192)),.ac (bP .u8 (128) (a' .i32 (aS b (0+(a:Int).toNat)) (63))),.ac 0,.ac 0]
abbrev wT(a:Nat)(b:List J):J:=J.agg [.ac (bP .u8 (bh .i32 (bh .i32 (aS b (0+(a:Int).toNat)) (6)) (6)) (224)),.ac (bP .u8 (128) (a' .i32 (bh .i32 (aS b (0+(a:Int).toNat)) (6)) (63))),.ac (bP .u8 (128) (a' .i32 (aS b (0+(a:Int).toNat)) (63))),.ac 0]
abbrev rc(a:Nat)(b:List J):J:=J.agg [.ac (bP .u8 (bh .i32 (bh .i32 (bh .i32 (aS b (0+(a:Int).toNat)) (6)) (6)) (6)) (240)),.ac (bP .u8 (128) (a' .i32 (bh .i32 (bh .i32 (aS b (0+(a:Int).toNat)) (6)) (6)) (63))),.ac (bP .u8 (128) (a' .i32 (bh .i32 (aS b (0+(a:Int).toNat)) (6)) (63))),.ac (bP .u8 (128) (a' .i32 (aS b (0+(a:Int).toNat)) (63)))]
abbrev re:aa:=(aa.an ([AC]) 4 true (some (95,4)))
abbrev F6:b7:=(ab 19002<|ab 19003<|ab 20001 PJ)
abbrev F7(b d c:Nat)(a:List J):T:=(af 34 [(0,(hM d c a)),(29,aa.an [.ac (aS a (0+(b:Int).toNat))] 1 true),(30,aa.an [.ac (aS a (0+(b:Int).toNat))] 1 false (some (5,0)))])
abbrev F8(b d c:Nat)(a:List J):T:=(af 63 [(0,(hM d c a)),(31,(aa.an ([(wS b a)]) 4 true (some (95,4)))),(59,aa.an [.ac (bP .u8 (bh .i32 (aS a (0+(b:Int).toNat)) (6)) (192)),.ac (bP .u8 (128) (a' .i32 (aS a (0+(b:Int).toNat)) (63)))] 1 false (some (5,0)))])
abbrev F9(b d c:Nat)(a:List J):T:=(af 71 [(0,(hM d c a)),(32,(aa.an ([(wT b a)]) 4 true (some (95,4)))),(67,aa.an [.ac (bP .u8 (bh .i32 (bh .i32 (aS a (0+(b:Int).toNat)) (6)) (6)) (224)),.ac (bP .u8 (128) (a' .i32 (bh .i32 (aS a (0+(b:Int).toNat)) (6)) (63))),.ac (bP .u8 (128) (a' .i32 (aS a (0+(b:Int).toNat)) (63)))] 1 false (some (5,0)))])
abbrev F'(b d c:Nat)(a:List J):T:=(af 78 [(0,(hM d c a)),(32,(aa.an ([(rc b a)]) 4 true (some (95,4)))),(74,aa.an [.ac (bP .u8 (bh .i32 (bh .i32 (bh .i32 (aS a (0+(b:Int).toNat)) (6)) (6)) (6)) (240)),.ac (bP .u8 (128) (a' .i32 (bh .i32 (bh .i32 (aS a (0+(b:Int).toNat)) (6)) (6)) (63))),.ac (bP .u8 (128) (a' .i32 (bh .i32 (aS a (0+(b:Int).toNat)) (6)) (63))),.ac (bP .u8 (128) (a' .i32 (aS a (0+(b:Int).toNat)) (63)))] 1 false (some (5,0)))])
abbrev Ga(b d c:Nat)(a:List J):T:=(af 79 [(0,(hM d c a)),(33,(aa.an ([(rc b a)]) 4 true (some (95,4)))),(75,aa.an [.ac (bP .u8 (bh .i32 (bh .i32 (bh .i32 (aS a (0+(b:Int).toNat)) (6)) (6)) (6)) (240)),.ac (bP .u8 (128) (a' .i32 (bh .i32 (bh .i32 (aS a (0+(b:Int).toNat)) (6)) (6)) (63))),.ac (bP .u8 (128) (a' .i32 (bh .i32 (aS a (0+(b:Int).toNat)) (6)) (63))),.ac (bP .u8 (128) (a' .i32 (aS a (0+(b:Int).toNat)) (63)))] 1 false (some (5,0)))])
abbrev Gb:b7:=(ab 17003<|ab 18001<|ab 19001 F6)
abbrev wU(c a:Nat)(b:List J):T:=(af 72 [(0,(hM c a b)),(33,re),(68,aa.an [.ac 239,.ac 191,.ac 189] 1 false (some (5,0)))])
abbrev AD(a d f c:Nat)(b:List J)(e:b8->bc->T->Prop):Prop:=(aS b (0+(a:Int).toNat)<128->(0<=aS b (0+(a:Int).toNat)/\aS b (0+(a:Int).toNat)<=255)/\(bd ((a:Int)+1))/\e .normal [(3,.slice (b5 30) 1 1),(6,(ha d c)),(7,.V c),(8,.V ((a:Int)+1))] (F7 a d f b))
abbrev AE(a d f c:Nat)(b:List J)(e:b8->bc->T->Prop):Prop:=(¬65536<=aS b (0+(a:Int).toNat)->True/\(0<=a' .i32 (aS b (0+(a:Int).toNat)) (63)/\a' .i32 (aS b (0+(a:Int).toNat)) (63)<=255)/\True/\Int.NonNeg (6-0)/\(0<=bh .i32 (aS b (0+(a:Int).toNat)) (6)/\bh .i32 (aS b (0+(a:Int).toNat)) (6)<=255)/\True/\(bd ((a:Int)+1))/\e .normal [(3,.slice (b5 59) 2 2),(6,(ha d c)),(7,.V c),(8,.V ((a:Int)+1))] (F8 a d f b))
abbrev AF(a d f c:Nat)(b:List J)(e:b8->bc->T->Prop):Prop:=(¬65536<=aS b (0+(a:Int).toNat)->True/\(0<=a' .i32 (aS b (0+(a:Int).toNat)) (63)/\a' .i32 (aS b (0+(a:Int).toNat)) (63)<=255)/\True/\Int.NonNeg (6-0)/\True/\(0<=a' .i32 (bh .i32 (aS b (0+(a:Int).toNat)) (6)) (63)/\a' .i32 (bh .i32 (aS b (0+(a:Int).toNat)) (6)) (63)<=255)/\True/\Int.NonNeg (6-0)/\(0<=bh .i32 (bh .i32 (aS b (0+(a:Int).toNat)) (6)) (6)/\bh .i32 (bh .i32 (aS b (0+(a:Int).toNat)) (6)) (6)<=255)/\True/\(bd ((a:Int)+1))/\e .normal [(3,.slice (b5 67) 3 3),(6,(ha d c)),(7,.V c),(8,.V ((a:Int)+1))] (F9 a d f b))
abbrev AG(a d f c:Nat)(b:List J)(e:b8->bc->T->Prop):Prop:=(65536<=aS b (0+(a:Int).toNat)->True/\(0<=a' .i32 (aS b (0+(a:Int).toNat)) (63)/\a' .i32 (aS b (0+(a:Int).toNat)) (63)<=255)/\True/\Int.NonNeg (6-0)/\True/\(0<=a' .i32 (bh .i32 (aS b (0+(a:Int).toNat)) (6)) (63)/\a' .i32 (bh .i32 (aS b (0+(a:Int).toNat)) (6)) (63)<=255)/\True/\Int.NonNeg (6-0)/\True/\(0<=a' .i32 (bh .i32 (bh .i32 (aS b (0+(a:Int).toNat)) (6)) (6)) (63)/\a' .i32 (bh .i32 (bh .i32 (aS b (0+(a:Int).toNat)) (6)) (6)) (63)<=255)/\True/\Int.NonNeg (6-0)/\(0<=bh .i32 (bh .i32 (bh .i32 (aS b (0+(a:Int).toNat)) (6)) (6)) (6)/\bh .i32 (bh .i32 (bh .i32 (aS b (0+(a:Int).toNat)) (6)) (6)) (6)<=255)/\True/\(bd ((a:Int)+1))/\e .normal [(3,.slice (b5 74) 4 4),(6,(ha d c)),(7,.V c),(8,.V ((a:Int)+1))] (F' a d f b))
abbrev AH(a d f c:Nat)(b:List J)(e:b8->bc->T->Prop):Prop:=(65536<=aS b (0+(a:Int).toNat)->True/\(0<=a' .i32 (aS b (0+(a:Int).toNat)) (63)/\a' .i32 (aS b (0+(a:Int).toNat)) (63)<=255)/\True/\Int.NonNeg (6-0)/\True/\(0<=a' .i32 (bh .i32 (aS b (0+(a:Int).toNat)) (6)) (63)/\a' .i32 (bh .i32 (aS b (0+(a:Int).toNat)) (6)) (63)<=255)/\True/\Int.NonNeg (6-0)/\True/\(0<=a' .i32 (bh .i32 (bh .i32 (aS b (0+(a:Int).toNat)) (6)) (6)) (63)/\a' .i32 (bh .i32 (bh .i32 (aS b (0+(a:Int).toNat)) (6)) (6)) (63)<=255)/\True/\Int.NonNeg (6-0)/\(0<=bh .i32 (bh .i32 (bh .i32 (aS b (0+(a:Int).toNat)) (6)) (6)) (6)/\bh .i32 (bh .i32 (bh .i32 (aS b (0+(a:Int).toNat)) (6)) (6)) (6)<=255)/\True/\(bd ((a:Int)+1))/\e .normal [(3,.slice (b5 75) 4 4),(6,(ha d c)),(7,.V c),(8,.V ((a:Int)+1))] (Ga a d f b))
abbrev PK:b7:=(ab 16001<|ab 17001<|ab 17002 Gb)
abbrev AI(a d f c:Nat)(b:List J)(e:b8->bc->T->Prop):Prop:=(1114111<aS b (0+(a:Int).toNat)->(bd ((a:Int)+1))/\e .normal [(3,wR),(6,(ha d c)),(7,.V c),(8,.V ((a:Int)+1))] (wU d f b))
abbrev Gc:b7:=(ab 15001<|ab 15002<|ab 15003 PK)
abbrev Gd:b7:=(.al 6001 (.al 8001 Gc<|ab 17001<|ab 17002 Gb)<|.al 8001 Gc<|ab 19001 F6)
def PL(a d g c:Nat)(b:List J)(f:b8->bc->T->Prop)(i:((a:Int)<(c:Int)->(0<=(a:Int)/\(a:Int)<(c:Int))/\d=d/\b[0+(a:Int).toNat]? =some (.av (aS b (0+(a:Int).toNat)))/\(aS b (0+(a:Int).toNat)<0->(bd ((a:Int)+1))/\f .normal [(3,wR),(6,(ha d c)),(7,.V c),(8,.V ((a:Int)+1))] (wU d g b))/\(¬aS b (0+(a:Int).toNat)<0->(55296<=aS b (0+(a:Int).toNat)->(aS b (0+(a:Int).toNat)<=57343->(bd ((a:Int)+1))/\f .normal [(3,wR),(6,(ha d c)),(7,.V c),(8,.V ((a:Int)+1))] (wU d g b))/\(¬aS b (0+(a:Int).toNat)<=57343->(AI a d g c b f)/\(¬1114111<aS b (0+(a:Int).toNat)->(AD a d g c b f)/\(¬aS b (0+(a:Int).toNat)<128->(2048<=aS b (0+(a:Int).toNat)->(AH a d g c b f)/\(AF a d g c b f))/\(¬2048<=aS b (0+(a:Int).toNat)->(AG a d g c b f)/\(AE a d g c b f))))))/\(¬55296<=aS b (0+(a:Int).toNat)->(AI a d g c b f)/\(¬1114111<aS b (0+(a:Int).toNat)->(AD a d g c b f)/\(¬aS b (0+(a:Int).toNat)<128->(2048<=aS b (0+(a:Int).toNat)->(AH a d g c b f)/\(AF a d g c b f))/\(¬2048<=aS b (0+(a:Int).toNat)->(AG a d g c b f)/\(AE a d g c b f)))))))/\(¬(a:Int)<(c:Int)->f (.exit 0) [(3,.slice none 0 0),(6,(ha d c)),(7,.V c),(8,.V a)] (af 2 [(0,(hM d g b))]))) :
 ∃e h Y,bN 1 18 (bu 51 0) [(3,.slice none 0 0),(6,.aB 0 d 0 c c),(7,.V c),(8,.V a)] (T.rows 1 [(0,fu b d g)]) e h Y/\f e h Y :=
 dD c6 mixed ci (hs:= .al 3000 (ab 4000 (ab 4001 (he 5002 (.al 1001 (.skip 6000 (ab 6000 .nil)) (.al 1004 (.al 1007 (.skip 6000 (ab 6000 .nil)) (.al 1012 (.skip 6000 (ab 6000 .nil)) (.al 3001 (ab 4002 (ab 6000 .nil)) Gd))) (.al 1012 (.skip 6000 (ab 6000 .nil)) (.al 3001 (ab 4002 (ab 6000 .nil)) Gd))))))) .nil) (keep:=[3,6,7,8]) ao i
abbrev PM:b7:=(ab 21005<|ab 22003<|ab 6000 .nil)
abbrev tk(b a:Nat):J:=J.aB 50 (b+1) 0 (a+3) (a+3)
abbrev AJ(b a:Nat):J:=J.aB 50 (b+1) 0 (a+4) (a+4)
abbrev Ge(d b c:Nat)(e a:List J):aa:=⟨a++[.ac (aS e (0+(d:Int).toNat))],1,false,false,b+1,0,if 0=b then a.length else min c (a.length),some (5,0)⟩
abbrev wV(b c:Nat)(a:List J):aa:=⟨a++[.ac 239,.ac 191,.ac 189],1,false,false,b+1,0,if 0=b then a.length else min c (a.length),some (5,0)⟩
abbrev Gf(b d e:Nat)(c a:List J):aa:=⟨a++[.ac (bP .u8 (bh .i32 (aS c (0+(b:Int).toNat)) (6)) (192)),.ac (bP .u8 (128) (a' .i32 (aS c (0+(b:Int).toNat)) (63)))],1,false,false,d+1,0,if 0=d then a.length else min e (a.length),some (5,0)⟩
abbrev Gg(a d e:Nat)(b c:List J):aa:=⟨c++[.ac (bP .u8 (bh .i32 (bh .i32 (aS b (0+(a:Int).toNat)) (6)) (6)) (224)),.ac (bP .u8 (128) (a' .i32 (bh .i32 (aS b (0+(a:Int).toNat)) (6)) (63))),.ac (bP .u8 (128) (a' .i32 (aS b (0+(a:Int).toNat)) (63)))],1,false,false,d+1,0,if 0=d then c.length else min e (c.length),some (5,0)⟩
abbrev AK(a d e:Nat)(b c:List J):aa:=⟨c++[.ac (bP .u8 (bh .i32 (bh .i32 (bh .i32 (aS b (0+(a:Int).toNat)) (6)) (6)) (6)) (240)),.ac (bP .u8 (128) (a' .i32 (bh .i32 (bh .i32 (aS b (0+(a:Int).toNat)) (6)) (6)) (63))),.ac (bP .u8 (128) (a' .i32 (bh .i32 (aS b (0+(a:Int).toNat)) (6)) (63))),.ac (bP .u8 (128) (a' .i32 (aS b (0+(a:Int).toNat)) (63)))],1,false,false,d+1,0,if 0=d then c.length else min e (c.length),some (5,0)⟩
abbrev Gh:b7:=(ab 19003<|ab 20001<|ab 21001 PM)
abbrev AL(b g i f d j a:Nat)(c e:List J)(h:b8->bc->T->Prop):Prop:=(aS c (0+(b:Int).toNat)<128->(0<=aS c (0+(b:Int).toNat)/\aS c (0+(b:Int).toNat)<=255)/\(d=d/\0+a=e.length/\a<a+1/\(a+1+(a+1)/4+512)*1<=281474976710656/\a+1<4611686018427387904)/\(bd ((b:Int)+1))/\h .normal [(3,.aB 50 (d+1) 0 (a+1) (a+1)),(6,(ha g f)),(7,.V f),(8,.V ((b:Int)+1))] (af 93 [(0,(hM g i c)),(50,(Ge b d j c e)),(88,aa.an [.ac (aS c (0+(b:Int).toNat))] 1 true)]))
abbrev AM(a g i f d j c:Nat)(b e:List J)(h:b8->bc->T->Prop):Prop:=(¬65536<=aS b (0+(a:Int).toNat)->True/\(0<=a' .i32 (aS b (0+(a:Int).toNat)) (63)/\a' .i32 (aS b (0+(a:Int).toNat)) (63)<=255)/\True/\Int.NonNeg (6-0)/\(0<=bh .i32 (aS b (0+(a:Int).toNat)) (6)/\bh .i32 (aS b (0+(a:Int).toNat)) (6)<=255)/\True/\(d=d/\0+c=e.length/\c<c+2/\(c+2+(c+2)/4+512)*1<=281474976710656/\c+2<4611686018427387904)/\(bd ((a:Int)+1))/\h .normal [(3,.aB 50 (d+1) 0 (c+2) (c+2)),(6,(ha g f)),(7,.V f),(8,.V ((a:Int)+1))] (af 122 [(0,(hM g i b)),(50,(Gf a d j b e)),(90,(aa.an ([(wS a b)]) 4 true (some (95,4))))]))
abbrev AN(a g i f d j c:Nat)(b e:List J)(h:b8->bc->T->Prop):Prop:=(¬65536<=aS b (0+(a:Int).toNat)->True/\(0<=a' .i32 (aS b (0+(a:Int).toNat)) (63)/\a' .i32 (aS b (0+(a:Int).toNat)) (63)<=255)/\True/\Int.NonNeg (6-0)/\True/\(0<=a' .i32 (bh .i32 (aS b (0+(a:Int).toNat)) (6)) (63)/\a' .i32 (bh .i32 (aS b (0+(a:Int).toNat)) (6)) (63)<=255)/\True/\Int.NonNeg (6-0)/\(0<=bh .i32 (bh .i32 (aS b (0+(a:Int).toNat)) (6)) (6)/\bh .i32 (bh .i32 (aS b (0+(a:Int).toNat)) (6)) (6)<=255)/\True/\(d=d/\0+c=e.length/\c<c+3/\(c+3+(c+3)/4+512)*1<=281474976710656/\c+3<4611686018427387904)/\(bd ((a:Int)+1))/\h .normal [(3,(tk d c)),(6,(ha g f)),(7,.V f),(8,.V ((a:Int)+1))] (af 130 [(0,(hM g i b)),(50,(Gg a d j b e)),(91,(aa.an ([(wT a b)]) 4 true (some (95,4))))]))
abbrev AO(a g i f d j c:Nat)(b e:List J)(h:b8->bc->T->Prop):Prop:=(65536<=aS b (0+(a:Int).toNat)->True/\(0<=a' .i32 (aS b (0+(a:Int).toNat)) (63)/\a' .i32 (aS b (0+(a:Int).toNat)) (63)<=255)/\True/\Int.NonNeg (6-0)/\True/\(0<=a' .i32 (bh .i32 (aS b (0+(a:Int).toNat)) (6)) (63)/\a' .i32 (bh .i32 (aS b (0+(a:Int).toNat)) (6)) (63)<=255)/\True/\Int.NonNeg (6-0)/\True/\(0<=a' .i32 (bh .i32 (bh .i32 (aS b (0+(a:Int).toNat)) (6)) (6)) (63)/\a' .i32 (bh .i32 (bh .i32 (aS b (0+(a:Int).toNat)) (6)) (6)) (63)<=255)/\True/\Int.NonNeg (6-0)/\(0<=bh .i32 (bh .i32 (bh .i32 (aS b (0+(a:Int).toNat)) (6)) (6)) (6)/\bh .i32 (bh .i32 (bh .i32 (aS b (0+(a:Int).toNat)) (6)) (6)) (6)<=255)/\True/\(d=d/\0+c=e.length/\c<c+4/\(c+4+(c+4)/4+512)*1<=281474976710656/\c+4<4611686018427387904)/\(bd ((a:Int)+1))/\h .normal [(3,(AJ d c)),(6,(ha g f)),(7,.V f),(8,.V ((a:Int)+1))] (af 137 [(0,(hM g i b)),(50,(AK a d j b e)),(91,(aa.an ([(rc a b)]) 4 true (some (95,4))))]))
abbrev AP(a g i f d j c:Nat)(b e:List J)(h:b8->bc->T->Prop):Prop:=(65536<=aS b (0+(a:Int).toNat)->True/\(0<=a' .i32 (aS b (0+(a:Int).toNat)) (63)/\a' .i32 (aS b (0+(a:Int).toNat)) (63)<=255)/\True/\Int.NonNeg (6-0)/\True/\(0<=a' .i32 (bh .i32 (aS b (0+(a:Int).toNat)) (6)) (63)/\a' .i32 (bh .i32 (aS b (0+(a:Int).toNat)) (6)) (63)<=255)/\True/\Int.NonNeg (6-0)/\True/\(0<=a' .i32 (bh .i32 (bh .i32 (aS b (0+(a:Int).toNat)) (6)) (6)) (63)/\a' .i32 (bh .i32 (bh .i32 (aS b (0+(a:Int).toNat)) (6)) (6)) (63)<=255)/\True/\Int.NonNeg (6-0)/\(0<=bh .i32 (bh .i32 (bh .i32 (aS b (0+(a:Int).toNat)) (6)) (6)) (6)/\bh .i32 (bh .i32 (bh .i32 (aS b (0+(a:Int).toNat)) (6)) (6)) (6)<=255)/\True/\(d=d/\0+c=e.length/\c<c+4/\(c+4+(c+4)/4+512)*1<=281474976710656/\c+4<4611686018427387904)/\(bd ((a:Int)+1))/\h .normal [(3,(AJ d c)),(6,(ha g f)),(7,.V f),(8,.V ((a:Int)+1))] (af 138 [(0,(hM g i b)),(50,(AK a d j b e)),(92,(aa.an ([(rc a b)]) 4 true (some (95,4))))]))
abbrev PN:b7:=(ab 18001<|ab 19001<|ab 19002 Gh)
abbrev AQ(c g i f b j a:Nat)(d e:List J)(h:b8->bc->T->Prop):Prop:=(1114111<aS d (0+(c:Int).toNat)->(b=b/\0+a=e.length/\a<a+3/\(a+3+(a+3)/4+512)*1<=281474976710656/\a+3<4611686018427387904)/\(bd ((c:Int)+1))/\h .normal [(3,(tk b a)),(6,(ha g f)),(7,.V f),(8,.V ((c:Int)+1))] (af 131 [(0,(hM g i d)),(50,(wV b j e)),(92,re)]))
abbrev Gi:b7:=(ab 17001<|ab 17002<|ab 17003 PN)
abbrev Gj:b7:=(ab 15002<|ab 15003<|ab 16001 Gi)
abbrev Gk:b7:=(.al 6001 (.al 8001 (ab 15001 Gj) Gi)<|.al 8001 (ab 15001 Gj)<|ab 19001<|ab 19002 Gh)
def Gl(a g j d f k c:Nat)(b h:List J)(i:b8->bc->T->Prop)(m:((a:Int)<(d:Int)->(0<=(a:Int)/\(a:Int)<(d:Int))/\g=g/\b[0+(a:Int).toNat]? =some (.av (aS b (0+(a:Int).toNat)))/\(aS b (0+(a:Int).toNat)<0->(f=f/\0+c=h.length/\c<c+3/\(c+3+(c+3)/4+512)*1<=281474976710656/\c+3<4611686018427387904)/\(bd ((a:Int)+1))/\i .normal [(3,(tk f c)),(6,(ha g d)),(7,.V d),(8,.V ((a:Int)+1))] (af 131 [(0,(hM g j b)),(50,(wV f k h)),(92,re)]))/\(¬aS b (0+(a:Int).toNat)<0->(55296<=aS b (0+(a:Int).toNat)->(aS b (0+(a:Int).toNat)<=57343->(f=f/\0+c=h.length/\c<c+3/\(c+3+(c+3)/4+512)*1<=281474976710656/\c+3<4611686018427387904)/\(bd ((a:Int)+1))/\i .normal [(3,(tk f c)),(6,(ha g d)),(7,.V d),(8,.V ((a:Int)+1))] (af 131 [(0,(hM g j b)),(50,(wV f k h)),(92,re)]))/\(¬aS b (0+(a:Int).toNat)<=57343->(AQ a g j d f k c b h i)/\(¬1114111<aS b (0+(a:Int).toNat)->(AL a g j d f k c b h i)/\(¬aS b (0+(a:Int).toNat)<128->(2048<=aS b (0+(a:Int).toNat)->(AP a g j d f k c b h i)/\(AN a g j d f k c b h i))/\(¬2048<=aS b (0+(a:Int).toNat)->(AO a g j d f k c b h i)/\(AM a g j d f k c b h i))))))/\(¬55296<=aS b (0+(a:Int).toNat)->(AQ a g j d f k c b h i)/\(¬1114111<aS b (0+(a:Int).toNat)->(AL a g j d f k c b h i)/\(¬aS b (0+(a:Int).toNat)<128->(2048<=aS b (0+(a:Int).toNat)->(AP a g j d f k c b h i)/\(AN a g j d f k c b h i))/\(¬2048<=aS b (0+(a:Int).toNat)->(AO a g j d f k c b h i)/\(AM a g j d f k c b h i)))))))/\(¬(a:Int)<(d:Int)->i (.exit 0) [(3,.aB 50 f 0 c c),(6,(ha g d)),(7,.V d),(8,.V a)] (af 61 [(0,(hM g j b)),(50,⟨h,1,false,false,f,0,k,some (5,0)⟩)]))) :
 ∃e l Y,bN 1 18 (bu 51 0) [(3,.aB 50 f 0 c c),(6,.aB 0 g 0 d d),(7,.V d),(8,.V a)] (T.rows 60 [(0,fu b g j),(50,ku h f k)]) e l Y/\i e l Y :=
 dD c6 mixed ci (hs:= .al 3000 (ab 4000 (ab 4001 (he 5002 (.al 1001 (ab 22003 (ab 6000 .nil)) (.al 1004 (.al 1007 (ab 22003 (ab 6000 .nil)) (.al 1012 (ab 22003 (ab 6000 .nil)) (.al 3001 (ab 4002 (ab 4004 (ab 6000 .nil))) Gk))) (.al 1012 (ab 22003 (ab 6000 .nil)) (.al 3001 (ab 4002 (ab 4004 (ab 6000 .nil))) Gk))))))) .nil) (keep:=[3,6,7,8]) ao m
end Go.Proofs.zz
namespace Go.br
def mP(x:Nat)(h:x<2^31):a' .i32 (x:Int) 63=((x%64:Nat):Int):=by
 unfold a';rw [BitVec.toNat_and]
 have a:(BitVec.ofInt IntKind.i32.bits (x:Int)).toNat=x:=by show(BitVec.ofInt 32 (x:Int)).toNat=x;rw [BitVec.toNat_ofInt];omega
 have b:(BitVec.ofInt IntKind.i32.bits 63).toNat=63:= aC;rw [a,b,show x &&& 63=x%64 from ve x 6];exact mG (k:= .i32) (by simp only [dP];omega)
def iS(x:Nat):bh .i32 (x:Int) 6=((x/64:Nat):Int):=by unfold bh;show Int.fdiv (x:Int) 64=_;rw [Int.fdiv_eq_ediv_of_nonneg _ aC];rfl
def rf:∀m:Fin 64,bP .u8 128 (m.val:Int)=((128+m.val:Nat):Int):=by decide+kernel
def PO:∀m:Fin 32,bP .u8 (m.val:Int) 192=((192+m.val:Nat):Int):=by decide+kernel
def PP:∀m:Fin 16,bP .u8 (m.val:Int) 224=((224+m.val:Nat):Int):=by decide+kernel
def PQ:∀m:Fin 8,bP .u8 (m.val:Int) 240=((240+m.val:Nat):Int):=by decide+kernel
end Go.br
namespace Go.Proofs.zz
open Go.br Go.Keys
variable {i j n n2:Nat}
def lQ(h:n<256):((u8 n).toNat:Int)=n:=by
 have:(u8 n).toNat=n%256:=by unfold u8;simp [qv]
 rw [this];omega
def wW{x:Nat}(h:¬(55296<=x/\x<=57343\/1114111<x)):put x=if x<128 then [u8 x]else if x<2048 then [u8 (192+x/64),u8 (128+x%64)]else if x<65536 then [u8 (224+x/4096),u8 (128+x/64%64),u8 (128+x%64)]else [u8 (240+x/262144),u8 (128+x/4096%64),u8 (128+x/64%64),u8 (128+x%64)]:=by unfold put;simp only [ai h]
def lR{x:Nat}(h:x<128): [J.ac (x:Int)]=aE (put x):=by rw [wW A,az h];simp only [aE,ei,hS,lQ (show x<256 by omega)]
def pN{x:Nat}(h:128<=x)(ag:x<2048): [J.ac (bP .u8 (bh .i32 (x:Int) 6) 192),J.ac (bP .u8 128 (a' .i32 (x:Int) 63))]=aE (put x):=by rw [wW A,ai A,az ag];simp only [aE,ei,hS,lQ (show 192+x/64<256 by omega),lQ (show 128+x%64<256 by omega)];rw [mP x A,iS,PO ⟨x/64,A⟩,rf ⟨x%64,A⟩]
def od{x:Nat}(h:2048<=x)(ag:x<65536)(a:¬(55296<=x/\x<=57343)): [J.ac (bP .u8 (bh .i32 (bh .i32 (x:Int) 6) 6) 224),J.ac (bP .u8 128 (a' .i32 (bh .i32 (x:Int) 6) 63)),J.ac (bP .u8 128 (a' .i32 (x:Int) 63))]=aE (put x):=by rw [wW A,ai A,ai A,az ag];simp only [aE,ei,hS,lQ (show 224+x/4096<256 by omega),lQ (show 128+x/64%64<256 by omega),lQ (show 128+x%64<256 by omega)];rw [mP x A,iS,iS,mP (x/64) A,PP ⟨x/64/64,A⟩,rf ⟨x%64,A⟩,rf ⟨x/64%64,A⟩];simp only [show x/64/64=x/4096 by omega]
def pO{x:Nat}(h:65536<=x)(ag:x<=1114111): [J.ac (bP .u8 (bh .i32 (bh .i32 (bh .i32 (x:Int) 6) 6) 6) 240),J.ac (bP .u8 128 (a' .i32 (bh .i32 (bh .i32 (x:Int) 6) 6) 63)),J.ac (bP .u8 128 (a' .i32 (bh .i32 (x:Int) 6) 63)),J.ac (bP .u8 128 (a' .i32 (x:Int) 63))]=aE (put x):=by rw [wW A,ai A,ai A,ai A];simp only [aE,ei,hS,lQ (show 240+x/262144<256 by omega),lQ (show 128+x/4096%64<256 by omega),lQ (show 128+x/64%64<256 by omega),lQ (show 128+x%64<256 by omega)];rw [mP x A,iS,iS,iS,mP (x/64) A,mP (x/64/64) A,PQ ⟨x/64/64/64,A⟩,rf ⟨x%64,A⟩,rf ⟨x/64%64,A⟩,rf ⟨x/64/64%64,A⟩];simp only [show x/64/64=x/4096 by omega,show x/4096/64=x/262144 by omega]
def Gm{x:Nat}(h:(55296<=x/\x<=57343)\/1114111<x): [J.ac 239,J.ac 191,J.ac 189]=aE (put x):=by unfold put;simp only;rw [az h];rfl
def oe{x:Nat}(h:x<2^31):0<=a' .i32 (x:Int) 63/\a' .i32 (x:Int) 63<=255:=by rw [mP x h];omega
def og{x:Nat}(h:x<2^31):0<=a' .i32 (bh .i32 (x:Int) 6) 63/\a' .i32 (bh .i32 (x:Int) 6) 63<=255:=by rw [iS,mP _ A];omega
def rh{x:Nat}(h:x<2^31):0<=a' .i32 (bh .i32 (bh .i32 (x:Int) 6) 6) 63/\a' .i32 (bh .i32 (bh .i32 (x:Int) 6) 6) 63<=255:=by rw [iS,iS,mP _ A];omega
def ri{x:Nat}(h:x<2048):0<=bh .i32 (x:Int) 6/\bh .i32 (x:Int) 6<=255:=by rw [iS];omega
def oh{x:Nat}(h:x<65536):0<=bh .i32 (bh .i32 (x:Int) 6) 6/\bh .i32 (bh .i32 (x:Int) 6) 6<=255:=by rw [iS,iS];omega
def rj{x:Nat}(h:x<=1114111):0<=bh .i32 (bh .i32 (bh .i32 (x:Int) 6) 6) 6/\bh .i32 (bh .i32 (bh .i32 (x:Int) 6) 6) 6<=255:=by rw [iS,iS,iS];omega
def AR{L:List Nat}(h:i<L.length):(c8 L)[i]? =some (.av (L[i]:Nat)):=by simp [c8,h]
def Gn{L:List Nat}(h:i<L.length):aS (c8 L) i=(L[i]:Nat):=by unfold aS;rw [AR h]
def gD(l:Bytes):(aE l).length=l.length:=by simp [aE]
def PR(a b:Bytes):aE (a++b)=aE a++aE b:=by simp [aE]
abbrev k6(v n i v2 n2 j:Nat):bc:=[(3,.slice (some ⟨j,v2,0,0,1⟩) n2 n2),(6,.slice (some ⟨0,v,0,0,1⟩) n n),(7,.int .i64 (n:Nat)),(8,.int .i64 (i:Nat))]
def tl(v f n i v2:Nat)(R:aa)(acc:Bytes)(x b:Nat)(e:b8)(a:bc)(Y:T):Prop :=
 ∃j,1<=j/\e=.normal/\a=k6 v n (i+1) v2 (acc.length+(put x).length) j/\Y.get 0=some R/\Y.get j=some (ku (aE (acc++put x)) v2 b)
def lS{v f v2 x a:Nat}{R:aa}{acc:Bytes}{bs:List J}{Y:T}{i1:Int}(b:bs=aE (put x))(c:1<=j)(d:n2=acc.length+bs.length)(ah:i1=((i+1:Nat):Int))(aM:Y.get 0=some R)(ab:Y.get j=some (ku (aE acc++bs) v2 a)) :
 tl v f n i v2 R acc x a .normal [(3,.aB j v2 0 n2 n2),(6,.aB 0 v 0 n n),(7,.V (n:Nat)),(8,.V i1)] Y:=by
 subst b ah d;rw [gD];exact⟨j,c,rfl,rfl,aM,by rw [PR];exact ab⟩
def PS(L:List Nat)(v f i:Nat)(ah:i<L.length)(d:L.length<2^41)(a:L[i]<2^31):∃e c Y,bN 1 18 (bu 51 0) [(3,.slice none 0 0),(6,.aB 0 v 0 L.length L.length),(7,.V L.length),(8,.V i)] (T.rows 1 [(0,fu (c8 L) v f)]) e c Y/\tl v f L.length i 0 (fu (c8 L) v f) [] L[i] 0 e c Y:=by
 refine PL i v f L.length (c8 L) (tl v f L.length i 0 (fu (c8 L) v f) [] L[i] 0) ?_
 delta hM ha AE F8 wS AG F' rc AF F9 wT AH Ga AD F7 AI wU re AC wR
 rw [show 0+Int.toNat (i:Int)=i by simp,Gn ah,AR ah];generalize L[i]=x at a;have b:((i:Int)+1)=((i+1:Nat):Int):= A;refine⟨λ_=>⟨⟨A,A⟩,rfl,rfl,?_⟩,λh=> A⟩
 repeat' (first|exact True.intro|apply And.intro|intro _)
 all_goals first
  |omega
  |(exfalso;omega)
  |exact f'
  |exact(oe a).1|exact(oe a).2|exact(og a).1|exact(og a).2|exact(rh a).1|exact(rh a).2
  |exact(ri A).1|exact(ri A).2|exact(oh A).1|exact(oh A).2|exact(rj A).1|exact(rj A).2
  |exact lS (acc:=[]) (lR A) aC rfl b rfl rfl
  |exact lS (acc:=[]) (pN A A) aC rfl b rfl rfl
  |exact lS (acc:=[]) (Gm A) aC rfl b rfl rfl
  |exact lS (acc:=[]) (od A A A) aC rfl b rfl rfl
  |exact lS (acc:=[]) (pO A A) aC rfl b rfl rfl
def PT(L:List Nat)(acc:Bytes)(v f i v2 f2:Nat)(ah:i<L.length)(g:L.length<2^41)(d:acc.length<2^44)(a:L[i]<2^31):∃e c Y,bN 1 18 (bu 51 0) (k6 v L.length i v2 acc.length 50) (T.rows 60 [(0,fu (c8 L) v f),(50,ku (aE acc) v2 f2)]) e c Y /\
 tl v f L.length i (v2+1) (fu (c8 L) v f) acc L[i] (if 0=v2 then(aE acc).length else min f2 (aE acc).length) e c Y:=by
 refine Gl i v f L.length v2 f2 acc.length (c8 L) (aE acc) (tl v f L.length i (v2+1) (fu (c8 L) v f) acc L[i] (if 0=v2 then(aE acc).length else min f2 (aE acc).length)) ?_
 delta hM ha AM wS Gf AO rc AK AJ AN wT Gg tk AP AL Ge AQ re AC wV
 rw [show 0+Int.toNat (i:Int)=i by simp,Gn ah,AR ah];generalize L[i]=x at a;have b:((i:Int)+1)=((i+1:Nat):Int):= A;have j:=gD acc;refine⟨λ_=>⟨⟨A,A⟩,rfl,rfl,?_⟩,λh=> A⟩
 repeat' (first|exact True.intro|apply And.intro|intro _)
 all_goals first
  |omega
  |(exfalso;omega)
  |exact f'
  |exact(oe a).1|exact(oe a).2|exact(og a).1|exact(og a).2|exact(rh a).1|exact(rh a).2
  |exact(ri A).1|exact(ri A).2|exact(oh A).1|exact(oh A).2|exact(rj A).1|exact(rj A).2
  |exact lS (lR A) aC rfl b rfl rfl
  |exact lS (pN A A) aC rfl b rfl rfl
  |exact lS (Gm A) aC rfl b rfl rfl
  |exact lS (od A A A) aC rfl b rfl rfl
  |exact lS (pO A A) aC rfl b rfl rfl
def PU(a:aU)(b:a (.str []) (af 9 [])) :
 bl 51 [.slice none 0 0] bG a :=
 bm ci (.aG (.rounds 300) .nil) b
def PV(c f a b h g:Nat)(d e:List J)(i:aU)(j:bN 1 18 (Code.loop (bu 51 0)) [(3,.slice none 0 0),(6,.aB 0 c 0 a a),(7,.V a),(8,.V 0)] (af 6 [(0,⟨d,1,false,false,c,0,f,some (21,0)⟩)]) (.exit 0) (k6 c a a b g 50) (af 60 [(0,fu d c f),(50,ku e b h)])/\b=b/\0+g<=e.length/\(∃d,((aa.bg ⟨e,1,false,false,b,0,h,some (5,0)⟩).drop (bB.idx ⟨50,b,0,0,1⟩)).take g=aE d)/\i (.str (strOf (e.take g))) (af 63 [(0,⟨d,1,false,false,c,0,f,some (21,0)⟩),(50,⟨e,1,false,false,b,0,h,some (5,0)⟩)])) :
 bl 51 [.aB 0 c 0 a a] (T.of [fu d c f]) i :=
 bm ci (.aG (.keep [3,6,7,8])<|.aG (.loop (k6 c a a b g 50) (af 60 [(0,fu d c f),(50,ku e b h)]) (.exit 0))<|ab 7001 .nil) j
end Go.Proofs.zz
namespace Go.br
noncomputable section
open Go.RowKit
def PW{F:bc}{t:Nat}{v:J}(a:fp F t=some v):(t,v)∈F:=by
 induction F with
 |nil=>cases a
 |cons p r ih =>
  obtain⟨k,u⟩:=p;rw [gX]at a;split at a
  .rename_i e;simp only [a8]at a;subst e;subst a;simp
  .exact kh _ (ih a)
def PX{F:bc}{g:J->J}{t:Nat}{v:J}(a:fp F t=some v):fp (F.map λp=>(p.1,g p.2)) t=some (g v):=by
 induction F with
 |nil=>cases a
 |cons p r ih =>
  obtain⟨k,u⟩:=p;rw [ei,gX];rw [gX]at a;split at a
  .rename_i e;simp only [a8]at a;subst a;rw [az e]
  .rename_i e;rw [ai e];exact ih a
def bW.move{base n:Nat}{F d:bc}{h:T}{K:Nat}{l:List (Nat×aa)}(r:Nat->Nat)(z:l.map (λp=>h.get (r p.1))=l.map (λp=>some (p.2.aO r)))(u:l.all (λp=>Nat.blt p.1 K)=true)
 (C:((l.map (·.1)).map r).Nodup) (f:(List.range base).all (λi=>(l.map (·.1)).contains i&&Nat.beq (r i) i)=true) (B:l.all (λp=>Nat.blt p.1 base || Nat.ble base (r p.1))=true)
 (s:F=d.map λp=>(p.1,p.2.aO r)) (aw:d.all (λp=>Nat.blt p.1 n)=true) (q:aX (d.map λp=>bR (b3 (l.map (·.1))) p.2))
 (aj:aX (l.map λp=> ∀e∈p.2.bg,bR (b3 (l.map (·.1))) e)):bW base n F h d (T.rows K l):=by
 have g:∀i b,(T.rows K l).get i=some b->i<K/\h.get (r i)=some (b.aO r):=by intro i b k;have hm:=T.pC k;refine⟨eG.mp (ea.1 u _ hm),?_⟩;obtain⟨j,c,e⟩:=ly.1 hm;have Y:=dm (fun(x:List (Option aa))=>x[j]?) z;simp only [hD,ds c,eE,e,a8]at Y;exact Y
 have m:∀{v:J},bR (b3 (l.map (·.1))) v->bR (In (T.rows K l)) v:=bR.mono λi ah=>T.qZ ah
 subst s;refine bW.aO (r:=r) ⟨λi b k=>⟨by rw [T.wj];exact(g i b k).1,(g i b k).2⟩,?_,?_⟩ ?_ ?_ ?_ ?_
 .intro i j ah c e;have ah:=T.q0 ah;have c:=T.q0 c;obtain⟨a,w,rfl⟩:=ly.1 ah;obtain⟨b,y,rfl⟩:=ly.1 c;have Y:((l.map (·.1)).map r)[a]'(by simpa using w)=((l.map (·.1)).map r)[b]'(by simpa using y):=by simpa using e
  have:=(sq C).1 Y;subst this;rfl
 .intro i b k e he;have hm:=T.pC k;exact m (aj _ (dV.2 ⟨_,hm,rfl⟩) e he)
 .intro t v o;have hm:=PW o;exact⟨eG.mp (ea.1 aw _ hm),PX o,m (q _ (dV.2 ⟨_,hm,rfl⟩))⟩
 .intro i ah _;have:=ea.1 f i (er.2 ah);simp only [cC]at this;exact T.qZ (by simpa using this.1)
 .intro i ah _;have:=ea.1 f i (er.2 ah);simp only [cC]at this;exact iZ this.2
 .intro i ah D;have ah:=T.q0 ah;obtain⟨p,hm,rfl⟩:=dV.1 ah;have:=ea.1 B p hm;simp only [eC]at this;rcases this with Y|Y
  .exact eG.mp Y
  .have:=hU Y;omega
end
end Go.br
namespace Go.Keys
def Gp(x:Nat)(l:List Nat):eM (x::l)=put x++eM l:=rfl
def PY:eM []=[]:=rfl
def AS(r:Nat):(put r).length<=4:=by
 unfold put;simp only
 repeat' split
 all_goals simp
end Go.Keys
namespace Go.Proofs.zz
open Go.br Go.Keys
def PZ(l:Bytes):∀e∈aE l,b0 e:=by intro e he;obtain⟨b,_,rfl⟩:=dV.1 he;exact b0.int _ _
def AT(acc:Bytes)(v f:Nat):cu (ku (aE acc) v f):=PZ acc
def P0(a b:aa):T.rows 60 [(0,a),(50,b)]=T.bO 60 [(0,a),(50,b)]:= ao
def P1{n l c v:Nat} :bR (Go.br.b3 [0,50]) (.aB 0 v 0 l c):=(by show(0:Nat)∈ [0,50];simp)
def P2{n l c v:Nat} :bR (Go.br.b3 [0,50]) (.aB 50 v 0 l c):=(by show(50:Nat)∈ [0,50];simp)
def AU{v n i v2 n2 j:Nat}{Y:T}{R B:aa}(c:1<=j)(b:cu R)(a:cu B)(aM:Y.get 0=some R)(ab:Y.get j=some B):bW 1 18 (k6 v n i v2 n2 j) Y (k6 v n i v2 n2 50) (T.rows 60 [(0,R),(50,B)]):=by
 refine bW.move (K:=60) (l:=[(0,R),(50,B)]) (λk=>if k=0 then 0 else j) ?_ rfl ?_ rfl ?_ ?_ rfl ?_ ?_
 .simp [aM,ab,b.aO,a.aO]
 .simp;omega
 .simp;exact c
 .simp [J.aO,bB.aO]
 .exact aX.cons (P2 (n:=0)) (aX.cons (P1 (n:=0)) (aX.cons trivial (aX.cons trivial aX.nil)))
 .exact aX.cons (λe he=>(b e he).dj _) (aX.cons (λe he=>(a e he).dj _) aX.nil)
def P3(L:List Nat)(v f:Nat)(m:L.length<2^41)(n:∀x∈L,x<2^31):∀(k i:Nat)(acc:Bytes)(v2 f2:Nat),L.length-i<=k->i<=L.length->acc.length<=4*i-> ∃v3 f3,
 dd 1 18 (bu 51 0) (k6 v L.length i v2 acc.length 50) (T.rows 60 [(0,fu (c8 L) v f),(50,ku (aE acc) v2 f2)]) (.exit 0) (k6 v L.length L.length v3 (acc++eM (L.drop i)).length 50)
  (T.rows 60 [(0,fu (c8 L) v f),(50,ku (aE (acc++eM (L.drop i))) v3 f3)]):=by
 intro k
 have fin:∀(acc:Bytes)(v2 f2:Nat),∃v3 f3,dd 1 18 (bu 51 0) (k6 v L.length L.length v2 acc.length 50) (T.rows 60 [(0,fu (c8 L) v f),(50,ku (aE acc) v2 f2)]) (.exit 0) (k6 v L.length L.length v3 (acc++eM (L.drop L.length)).length 50)
  (T.rows 60 [(0,fu (c8 L) v f),(50,ku (aE (acc++eM (L.drop L.length))) v3 f3)]):=by
  intro acc v2 f2;obtain⟨e,a,Y,b,rfl,rfl,aM,ab⟩:=Gl L.length v f L.length v2 f2 acc.length (c8 L) (aE acc) (λe a Y=>e=.exit 0/\a=k6 v L.length L.length v2 acc.length 50/\Y.get 0=some (fu (c8 L) v f)/\Y.get 50=some (ku (aE acc) v2 f2)) ⟨λh=> A,λ_=>⟨rfl,rfl,rfl,rfl⟩⟩;refine⟨v2,f2,?_⟩;rw [nI,PY,gy];exact(b2.last au b).post (AU (R:=fu (c8 L) v f) aC (oc L) (AT _ _ _) aM ab)
 induction k with
 |zero =>
  intro i acc v2 f2 l ah d;obtain rfl:i=L.length:= A;exact fin acc v2 f2
 |succ k ih =>
  intro i acc v2 f2 l ah d;by_cases aj:i<L.length
  .obtain⟨e,a,Y,b,j,g,rfl,rfl,aM,ab⟩:=PT L acc v f i v2 f2 aj m A (n _ (ic aj));have ae:=AS L[i];obtain⟨v3,f3,c⟩:=ih (i+1) (acc++put L[i]) (v2+1) _ A A (by rw [dt];omega)
   have aQ:(acc++put L[i])++eM (L.drop (i+1))=acc++eM (L.drop i):=by rw [ki aj,Gp,jb]
   rw [aQ]at c;refine⟨v3,f3,b2.step (b.post ?_) c⟩;rw [dt];exact AU (R:=fu (c8 L) v f) g (oc L) (AT _ _ _) aM ab
  .obtain rfl:i=L.length:= A;exact fin acc v2 f2
def P4(H:T):be 51 [.slice none 0 0] H (.str []) H:=bj.bU (PU (λv _=>v=.str []) rfl) rfl rfl H
def P5{L:List Nat}{v f:Nat}(o:L.length<2^41)(q:∀x∈L,x<2^31)(aM:L≠[]){H:T}{id:Nat}(hid:id<H.M)(ab:H.get id=some (fu (c8 L) v f)) :
 be 51 [.aB id v 0 L.length L.length] H (.str (eM L)) H:=by
 have c:0<L.length:=gk.2 aM;obtain⟨e,y,Y,p,j,a,rfl,rfl,u,w⟩:=PS L v f 0 c o (q _ (ic c));obtain⟨v3,f3,d⟩:=P3 L v f o q L.length 1 ([]++put L[0]) 0 0 A A (by have:=AS L[0];simp only [eQ];omega)
 have aQ:([]++put L[0])++eM (L.drop 1)=eM L:=by
  have:L=L[0]::L.drop 1:=by rw [<-ki c,lz]
  conv=>rhs;rw [this,Gp]
  rfl
 rw [aQ]at d;have m:=AU (R:=fu (c8 L) v f) (v:=v) (n:=L.length) (i:=0+1) (v2:=0) (n2:=([]:Bytes).length+(put L[0]).length) a (oc L) (AT _ _ _) u w;have aZ:([]:Bytes).length+(put L[0]).length=([]++put L[0]:Bytes).length:= au;rw [aZ]at m p;have g:=(b2.step (p.post m) d).pre (bW.drop (h:=T.bO 6 [(0,fu (c8 L) v f)]) (F:=[(3,J.slice none 0 0),(6,J.aB 0 v 0 L.length L.length),(7,J.int .i64 L.length),(8,J.int .i64 (0:Nat))]) (K:=1) (l:=[(0,fu (c8 L) v f)]) rfl rfl rfl rfl (aX.cons trivial (aX.cons (show(0:Nat)∈ [0]by simp) (aX.cons trivial (aX.cons trivial aX.nil)))) (aX.cons (λe he=>((oc L) e he).dj _) aX.nil));rw [P0]at g;have el:List.take (eM L).length (aE (eM L))=aE (eM L):=by rw [<-gD,kj]
 have k:=PV v f L.length v3 f3 (eM L).length (c8 L) (aE (eM L)) (λv1 ag=>v1=.str (eM L)/\ag.get 0=some (fu (c8 L) v f)) ⟨cO.dn g,rfl,by rw [gD];omega,⟨eM L,by simpa using el⟩,by rw [el,gY],rfl⟩;obtain⟨v1,ag,s,rfl,t⟩:=k;have:=bj.pure (l:=[fu (c8 L) v f]) s (λb r=>by rw [cF.1 r];exact oc L) (by show [ag.get 0]=_;rw [t];rfl) (b0.str _) (by exact⟨by show 0<1;decide,trivial⟩) (H:=H) [id] au (by intro j a;rw [cF.1 a];exact hid) (by simp [ab]);simpa [J.aO,bB.aO,cP]using this
noncomputable def AV:List J->T->Option dx:=λargs h=>match args with
 |[.str s]=>some (.or (s=[]) (.one (.slice none 0 0) h []) (.one (.slice (some ⟨h.M,(dv s).length-1,0,0,1⟩) (dv s).length (dv s).length) (h.dY [] [kt (dv s)]) [s.length<2^40]))
 |_=>none
def P6:∀args h a,AV args h=some a->a.cG Tryz.prog cz 150 args h:=by
 intro args h a e;unfold AV at e;split at e<;>first|(cases e;done)|skip
 simp only [a8]at e;subst e;refine⟨λaM _=> ?_,λaM ae=> ?_⟩
 .subst aM;exact PH h
 .exact PI _ ae.head aM h
noncomputable def P7:dQ:=mJ.add 150 AV
def P8:dC Tryz.prog cz P7:=ci.add P6
abbrev wX(a:Bytes):aa:=⟨c8 (dv a),1,false,false,(dv a).length-1,0,hL ((dv a).length),some (21,0)⟩
def P9(a:Bytes)(b:aU)(c:(a=[]->bk 51 [.slice none 0 0] (af 11 []) (.str (eM (dv a))) (af 11 [])/\(eM (dv a)=a->b .aK (af 11 []))/\(¬eM (dv a)=a->b .aJ (af 11 [])))/\(¬a=[]->a.length<1099511627776/\bk 51 [.aB 11 ((dv a).length-1) 0 ((dv a).length) ((dv a).length)] (T.dY (af 11 []) [] [(wX a)]) (.str (eM (dv a))) (T.dY (af 11 []) [] [(wX a)])/\(eM (dv a)=a->b .aK (T.dY (af 11 []) [] [(wX a)]))/\(¬eM (dv a)=a->b .aJ (T.dY (af 11 []) [] [(wX a)])))) :
 bl 109 [.str a] bG b :=
 bm P8 (he 1001<|.al 1001 (ap 1002 (.str (eM (dv a)))<|.skip 1003<|.al 1003 .nil .nil)<|ap 1002 (.str (eM (dv a)))<|.skip 1003<|.al 1003 .nil .nil) c
end Go.Proofs.zz
namespace Go.Keys
def Gq:∀(k i aD ah v:Nat)(l:Bytes),(tail k i aD ah v l).1<(v+1)*64^k\/(tail k i aD ah v l).1=65533
 |0,i,aD,ah,v,l=>by simp [tail]
 |k+1,i,aD,ah,v,[]=>by simp [tail]
 |k + 1,i,aD,ah,v,c::r=>by
  simp only [tail];split
  .exact .inr rfl
  .rcases Gq k (i+1) 128 191 (v*64+c.toNat%64) r with h|h
   .refine .inl (kf h ?_);rw [Nat.pow_succ,<-Nat.mul_assoc,Nat.mul_right_comm];exact o7 _ A
   .exact .inr h
def P'(s:Bytes):(first s).1<2^31:=by
 cases s with
 |nil=>simp [first]
 |cons b r =>
  simp only [first];have d:=b.toNat_lt;split
  .simp
  .split
   .simp only;omega
   .have aw:(lead b.toNat).1<=4:=FF _;rcases Gq ((lead b.toNat).1-1) 1 (lead b.toNat).2.1 (lead b.toNat).2.2 (b.toNat%2^(7- (lead b.toNat).1)) r with h|h
    .have Y:b.toNat%2^(7- (lead b.toNat).1)+1<=256:=by have:=Nat.mod_le b.toNat (2^(7- (lead b.toNat).1));omega
     have ag:64^((lead b.toNat).1-1)<=64^3:=vf aC A;have a:=Nat.mul_le_mul Y ag;have c:(256:Nat)*64^3<2^31:= aC;omega
    .rw [h];decide
def Gr:∀(k:Nat)(s:Bytes),∀x∈gZ k s,x<2^31
 |0,s,x,h=>by simp [gZ]at h
 |k+1,[],x,h=>by simp [gZ]at h
 |k+1,b::r,x,h=>by
  simp only [gZ,dR]at h;rcases h with rfl|h
  .exact P' _
  .exact Gr k _ x h
def Qa(s:Bytes):∀x∈dv s,x<2^31:=Gr _ s
def Qb{s:Bytes}(h:s≠[]):dv s≠[]:=by rw [wQ h];simp
end Go.Keys
namespace Go.Proofs.zz
open Go.br Go.Keys
def Qc(s:Bytes)(hs:s.length<2^40)(H:T):be 109 [.str s] H (.bool (valid s)) H:=by
 have b:eM (dv s)=s->valid s=true:=λh=>by unfold valid;rw [h];simp
 have a:¬eM (dv s)=s->valid s=false:=λh=>by unfold valid;rw [mu];exact h
 refine bj.bU (P9 s (λv _=>v=.bool (valid s)) ⟨λaM=>⟨⟨?_⟩,λh=>by rw [b h],λh=>by rw [a h]⟩,λaM=>⟨hs,⟨?_⟩,λh=>by rw [b h],λh=>by rw [a h]⟩⟩) rfl rfl H
 .subst aM;exact P4 _
 .have aw:=F3 s.length s (Nat.le_refl _);exact P5 (id:=11) A (Qa s) (Qb aM) (by show 11<12;decide) rfl
def dU(k:Int):UInt8:=UInt8.ofNat k.toNat
def k7(a0 aq a2 a3 n:Int):Bytes:=([a0,aq,a2,a3].take n.toNat).map dU
def bX(a0 aq a2 a3 n c:Int):List Nat×Bytes:=bM (k7 a0 aq a2 a3 n) (dU c)
structure gE(a0 aq a2 a3 n c:Int):Prop where
 aw:0<=n/\n<=3
 ar:0<n->0<=a0/\a0<=255
 aN:1<n->0<=aq/\aq<=255
 bx:2<n->0<=a2/\a2<=255
 aj:0<=c/\c<=255
 op:n=0\/(first (k7 a0 aq a2 a3 n)).2.2=true
noncomputable def tm:List J->T->Option dx:=λargs h =>
 match args with
 |[.ptr (some u),.slice (some b) e oi] =>
  match h.get u.id,h.get b.id with
  |some a,some d =>
   match a.bg,d.bg with
   |[.agg [.int .u8 a0,.int .u8 aq,.int .u8 a2,.int .u8 a3,.int .i64 n]],[.int .u8 c] =>
    cond (Nat.beq u.ad 0&&Nat.beq u.idx 0&&Nat.beq u.fld 0&&Nat.beq u.es 5&&Nat.beq b.ad 0&&Nat.beq b.idx 0&&Nat.beq b.fld 0&&Nat.beq b.es 1&&Nat.beq e 1&&Nat.beq oi 1
     && Nat.beq a.es 5&&a.exact&&!a.ro&&Nat.beq a.ad 0&&Nat.beq a.eH 0&&Nat.beq a.fo 0&&Nat.beq d.es 1&&d.exact&&!d.ro&&Nat.beq d.ad 0&&Nat.beq d.eH 0&&Nat.beq d.fo 0&&d.ty.isNone&&Nat.blt u.id h.M&&Nat.blt b.id h.M&&!(Nat.beq u.id b.id))
     (some (.or ((bX a0 aq a2 a3 n c).1=[])
      (.one (.slice none 0 0) (h.dY [u.id,b.id] [bT (bX a0 aq a2 a3 n c).2 a0 aq a2 a3 a.ty,fg c]) [gE a0 aq a2 a3 n c])
      (.or ((bX a0 aq a2 a3 n c).1.length=1)
       (.one (.slice (some ⟨h.M,0,0,0,1⟩) 1 1) (h.dY [u.id,b.id] [bT (bX a0 aq a2 a3 n c).2 a0 aq a2 a3 a.ty,fg c,tf ((bX a0 aq a2 a3 n c).1.getD 0 0)]) [gE a0 aq a2 a3 n c])
       (.one (.slice (some ⟨h.M,1,0,0,1⟩) 2 2) (h.dY [u.id,b.id] [bT (bX a0 aq a2 a3 n c).2 a0 aq a2 a3 a.ty,fg c,tg ((bX a0 aq a2 a3 n c).1.getD 0 0) ((bX a0 aq a2 a3 n c).1.getD 1 0)]) [gE a0 aq a2 a3 n c])))) none
   |_,_=>none
  |_,_=>none
 |_=>none
noncomputable def Gs:List J->T->Option dx:=io λa=>match a with | [.str s]=>some (.bool (valid s),[s.length<2^40])|_=>none
noncomputable def Gt:dQ:=(mJ.add 107 tm).add 109 Gs
def oj{c:Int}(h:0<=c/\c<=255):((dU c).toNat:Int)=c:=by
 unfold dU;have:(UInt8.ofNat c.toNat).toNat=c.toNat%256:=by simp [qv]
 rw [this];omega
abbrev AW(v:J)(R:aa)(c:Int)(Y:T):Prop:=be 107 [.ptr (some ⟨0,0,0,0,5⟩),.slice (some ⟨1,0,0,0,1⟩) 1 1] (T.of [R,fg c]) v Y
def Qd{a0 aq a2 a3 n c:Int}(p:gE a0 aq a2 a3 n c)(ty:bw):∃v Y,AW v (fN a0 aq a2 a3 n ty) c Y/\kr a0 aq a2 a3 c ty (bX a0 aq a2 a3 n c) v Y:=by
 have aj:=oj p.aj;obtain⟨k,l⟩:=p.aw;have aw:n=0\/n=1\/n=2\/n=3:= A;unfold bX;generalize dU c=C at aj;subst aj;rcases aw with rfl|rfl|rfl|rfl
 .exact OS C a0 aq a2 a3 ty
 .have e0:=oj (p.ar aC);have op:=p.op.resolve_left aC;have f:k7 a0 aq a2 a3 1=[dU a0]:=rfl;rw [f]at op⊢;generalize dU a0=a at e0 op;subst e0;obtain⟨b,r,e,j,g⟩:=pM op;simp only [fJ]at e;obtain⟨rfl,rfl⟩:=e;rcases gR a.toNat with h|h|h|h|h
  .omega
  .omega
  .exact OU a C aq a2 a3 ty h
  .exact OV a C aq a2 a3 ty h
  .exact OW a C aq a2 a3 ty h
 .have e0:=oj (p.ar aC);have aQ:=oj (p.aN aC);have op:=p.op.resolve_left aC;have f:k7 a0 aq a2 a3 2=[dU a0,dU aq]:=rfl;rw [f]at op⊢;generalize dU a0=a at e0 op;generalize dU aq=d at aQ op;subst e0 aQ;obtain⟨b,r,e,j,g⟩:=pM op;simp only [fJ]at e;obtain⟨rfl,rfl⟩:=e;rw [g]at op;rcases gR a.toNat with h|h|h|h|h
  .omega
  .omega
  .rw [h]at op;simp only [tail]at op;split at op<;>simp at op
  .have Y:¬(d.toNat<(lead a.toNat).2.1\/(lead a.toNat).2.2<d.toNat):=by intro q;rw [h]at op;simp only [tail]at op;rw [az q]at op;simp at op
   exact OX a d C a2 a3 ty h Y
  .have Y:¬(d.toNat<(lead a.toNat).2.1\/(lead a.toNat).2.2<d.toNat):=by intro q;rw [h]at op;simp only [tail]at op;rw [az q]at op;simp at op
   exact OY a d C a2 a3 ty h Y
 .have e0:=oj (p.ar aC);have aQ:=oj (p.aN aC);have aZ:=oj (p.bx aC);have op:=p.op.resolve_left aC;have f:k7 a0 aq a2 a3 3=[dU a0,dU aq,dU a2]:=rfl;rw [f]at op⊢;generalize dU a0=a at e0 op;generalize dU aq=d at aQ op;generalize dU a2=i at aZ op;subst e0 aQ aZ;obtain⟨b,r,e,j,g⟩:=pM op;simp only [fJ]at e;obtain⟨rfl,rfl⟩:=e;rw [g]at op
  have Y:¬(d.toNat<(lead a.toNat).2.1\/(lead a.toNat).2.2<d.toNat):=by
   intro q;obtain⟨m,hm⟩:∃m,(lead a.toNat).1-1=m+1:=⟨(lead a.toNat).1-2,A⟩
   rw [hm]at op;simp only [tail]at op;rw [az q]at op;simp at op
  rcases gR a.toNat with h|h|h|h|h
  .omega
  .omega
  .rw [h]at op;simp only [tail]at op;rw [ai Y]at op;simp at op
  .rw [h]at op;simp only [tail]at op;rw [ai Y]at op;split at op<;>simp at op
  .have ag:¬(i.toNat<128\/191<i.toNat):=by intro q;rw [h]at op;simp only [tail]at op;rw [ai Y,az q]at op;simp at op
   exact OZ a d i C a3 ty h Y ag
def rk(a b c d n:Int)(ty:bw):cu (fN a b c d n ty):=by intro e he;rw [cF.1 he];exact b0.of rfl
def Gu(c:Int):cu (fg c):=by intro e he;rw [cF.1 he];exact b0.int _ _
def Qe{a b:aa}(d:cu a)(e:cu b):∀x∈ [a,b],cu x:=by
 intro x c;simp only [dR,ia,hh]at c;rcases c with rfl|rfl
 .exact d
 .exact e
def Qf(r:Nat):cu (tf r):=by intro e he;rw [cF.1 he];exact b0.int _ _
def Qg(r s:Nat):cu (tg r s):=by intro e he;simp only [dR,ia,hh]at he;rcases he with rfl|rfl<;>exact b0.int _ _
variable {N d i j k m n r u:Nat}{pv v:J}
def AX{R R':aa}{c:Int}{v2:J}{Y:T}(k:AW v R c Y)(h:cu R)(m:cu R')(a:List Nat)(l:List aa)(r:∀x∈l,cu x)(p:l.length=a.length)(n:(List.range (l.length+2)).map (λi=>Y.get (e1 2 a i))=(R'::fg c::l).map some)(w:v=v2.aO (e1 2 a))(y:bR (λi=>i<l.length+2) v2)
 (q:a.all (λj=>Nat.ble 2 j)=true) (s:a.Nodup) {H:T} {b:Nat} (t:u≠b) (hu:u<H.M) (C:b<H.M) (g:H.get u=some R) (f:H.get b=some (fg c)) :
 be 107 [.ptr (some ⟨u,0,0,0,5⟩),.aB b 0 0 1 1] H (v2.aO (cP [u,b] H.M)) (H.dY [u,b] (R'::fg c::l)):=by
 have e:∀x∈R'::fg c::l,cu x:=by
  intro x d;rcases dR.1 d with rfl|d
  .exact m
  .rcases dR.1 d with rfl|d
   .exact Gu c
   .exact r x d
 have z:=k.fin a (R'::fg c::l) v2 e (by simp [p];omega) n w y q s;have B:=z.N8 (Qe h (Gu c)) e au (by exact⟨by show 0<2;decide,by show 1<2;decide,trivial⟩) (H:=H) [u,b] (by simp [t]) (by intro j o;simp at o;omega) (by simp [g,f]);simpa [J.aO,bB.aO,cP]using B
def Gv:∀args h a,tm args h=some a->a.cG Tryz.prog cz 107 args h:=by
 intro args H a e;unfold tm at e;split at e<;>first|(cases e;done)|skip
 rename_i u b co oi;split at e<;>first|(cases e;done)|skip
 rename_i g f B q;split at e<;>first|(cases e;done)|skip
 rename_i a0 aq a2 a3 n c F G
 cases l:(Nat.beq u.ad 0&&Nat.beq u.idx 0&&Nat.beq u.fld 0&&Nat.beq u.es 5&&Nat.beq b.ad 0&&Nat.beq b.idx 0&&Nat.beq b.fld 0&&Nat.beq b.es 1&&Nat.beq co 1&&Nat.beq oi 1
  && Nat.beq g.es 5&&g.exact&&!g.ro&&Nat.beq g.ad 0&&Nat.beq g.eH 0&&Nat.beq g.fo 0&&Nat.beq f.es 1&&f.exact&&!f.ro&&Nat.beq f.ad 0&&Nat.beq f.eH 0&&Nat.beq f.fo 0&&f.ty.isNone&&Nat.blt u.id H.M&&Nat.blt b.id H.M&&!(Nat.beq u.id b.id))with
 |false=>rw [l]at e;cases e
 |true =>
  rw [l,cond_true]at e;simp only [cC,jC,gV,eG,Option.isNone_iff_eq_none]at l;simp only [a8]at e;subst e;obtain⟨⟨⟨⟨⟨⟨⟨⟨⟨⟨⟨⟨⟨⟨⟨⟨⟨⟨⟨⟨⟨⟨⟨⟨⟨cw,cy⟩,et⟩,il⟩,jQ⟩,a5⟩,a9⟩,bn⟩,bs⟩,I⟩,K⟩,L⟩,N⟩,O⟩,P⟩,Q⟩,R⟩,S⟩,U⟩,W⟩,X⟩,am⟩,a4⟩,m⟩,o⟩,E⟩:=l;obtain⟨ct,d4,d5,d3,d2⟩:=u;obtain⟨ce,bv,c3,c2,c0⟩:=b;obtain⟨c4,l2,c5,c9,dg,d0,d1,i⟩:=g;obtain⟨m1,m2,m3,m4,m5,m6,m7,m8⟩:=f;simp only at cw cy et il jQ a5 a9 bn bs I K L N O P Q R S U W X am a4 m o E F G;subst cw cy et il jQ a5 a9 bn bs I K L N O P Q R S U W X am a4 F G;have w:ct≠ce:=λh=>by rw [h]at E;simp at E
  have ok:gE a0 aq a2 a3 n c-> ∃v Y,AW v (fN a0 aq a2 a3 n i) c Y/\kr a0 aq a2 a3 c i (bX a0 aq a2 a3 n c) v Y:=λp=>Qd p i
  refine⟨λaM ae=> ?_,λaM=>⟨λY ae=> ?_,λY ae=> ?_⟩⟩
  .obtain⟨v,Y,k,g0,g1,g2⟩:=ok ae.head;rw [aM]at g2;simp only at g2;have:=AX (v2:= .slice none 0 0) k (rk _ _ _ _ _ _) (rk _ _ _ _ _ _) [] [] (λx D=>by cases D) rfl (R':=bT (bX a0 aq a2 a3 n c).2 a0 aq a2 a3 i) (by simp [e1,List.range_succ,g0,g1]) (by rw [g2];rfl) trivial rfl kR w m o B q;simpa [J.aO]using this
  .obtain⟨v,ag,k,g0,g1,g2⟩:=ok ae.head;cases d:(bX a0 aq a2 a3 n c).1 with
   |nil=>exact absurd d aM
   |cons r t =>
    cases t with
    |cons x y=>rw [d]at Y;simp at Y
    |nil =>
     rw [d]at g2;obtain⟨j,s,C,ab⟩:=g2;have:=AX (v2:= .aB 2 0 0 1 1) k (rk _ _ _ _ _ _) (rk _ _ _ _ _ _) [j] [tf r] (λx D=>by rw [cF.1 D];exact Qf r) rfl (R':=bT (bX a0 aq a2 a3 n c).2 a0 aq a2 a3 i) (by simp [e1,List.range_succ,g0,g1,ab]) (by rw [C];simp [J.aO,bB.aO,e1]) (by show 2<3;decide) (by simp [s]) au w m o B q;simpa [J.aO,bB.aO,cP,d]using this
  .obtain⟨v,ag,k,g0,g1,g2⟩:=ok ae.head;cases d:(bX a0 aq a2 a3 n c).1 with
   |nil=>exact absurd d aM
   |cons r t =>
    cases t with
    |nil=>rw [d]at Y;simp at Y
    |cons x y =>
     cases y with
     |cons _ _=>rw [d]at g2;exact g2.elim
     |nil =>
      rw [d]at g2;obtain⟨j,s,C,ab⟩:=g2;have:=AX (v2:= .aB 2 1 0 2 2) k (rk _ _ _ _ _ _) (rk _ _ _ _ _ _) [j] [tg r x] (λz cs=>by rw [cF.1 cs];exact Qg r x) rfl (R':=bT (bX a0 aq a2 a3 n c).2 a0 aq a2 a3 i) (by simp [e1,List.range_succ,g0,g1,ab]) (by rw [C];simp [J.aO,bB.aO,e1]) (by show 2<3;decide) (by simp [s]) au w m o B q;simpa [J.aO,bB.aO,cP,d]using this
def Qh:∀args h a,Gs args h=some a->a.cG Tryz.prog cz 109 args h:=by
 refine jo ?_;intro args v ps e ae H;split at e<;>first|(cases e;done)|skip
 simp only [a8,bC]at e;obtain⟨rfl,rfl⟩:=e;exact Qc _ ae.head H
def Qi:dC Tryz.prog cz Gt:=(ci.add Gv).add Qh
def b9:h1->Nat
 |.ground=>30
 |.cQ=>59
 |.cp=>90
 |.sequence=>87
 |.single=>88
 |.cD=>129
def Qj{a b:h1}(h:b9 a=b9 b):a=b:=by cases a<;>cases b<;>first|rfl|(exact absurd h aC)
structure b3 where
 u:Nat
 k:Nat
 p:Nat
 o:Nat
def b3.map(r:Nat->Nat)(I:b3):b3:=⟨r I.u,r I.k,r I.p,r I.o⟩
abbrev bJ(d f u:Nat)(kv pv:J)(pas:Bool)(ov:J)(ty:bw):aa :=
 aa.an [.agg [.func (.func f) [.ptr (some ⟨d,0,0,0,6⟩)] [],kv,pv,.bool pas,.ptr (some ⟨u,0,0,0,5⟩),ov]] 6 true ty
abbrev b4(l:List J)(es v m f:Nat)(ty:bw):aa:= {bg:=l,es:=es,exact:=false,ro:=false,ad:=v,eH:=m,fo:=f,ty:=ty}
abbrev b':bw:=some (5,0)
abbrev gF:bw:=some (42,0)
inductive e6 where
 |nil|one|grown (junk:Bytes)
def Grown(H:T)(k:Nat)(v:J)(l junk:Bytes):Prop :=
 ∃ad m f,v=.slice (some ⟨k,ad,junk.length,0,1⟩) l.length l.length/\H.get k=some (b4 (aE (junk++l)) 1 ad m f b')
def ht(H:T)(d k:Nat)(v:J):e6->Bytes->Prop
 |.nil,l=>v=.slice none 0 0/\l=[]/\k=d
 |.one,l=>k≠d/\v=.slice (some ⟨k,0,0,0,1⟩) 1 1/\H.get k=some (aa.an [.int .u8 27] 1 true)/\l=[27]
 |.grown junk,l=>k≠d/\Grown H k v l junk
def hb(H:T)(d p:Nat)(v:J)(l:Bytes):Prop :=
 (v=.slice none 0 0/\l=[]/\p=d)\/(p≠d/\l≠[]/\Grown H p v l [])
def hv(H:T)(d o:Nat)(v:J)(es:List aP):Prop :=
 (v=.slice none 0 0/\es=[]/\o=d)\/(o≠d/\es≠[]/\∃ad m f,v=.slice (some ⟨o,ad,0,0,6⟩) es.length es.length/\H.get o=some (b4 (es.map bp) 6 ad m f gF))
structure dr(H:T)(d:Nat)(I:b3)(f:Nat)(pas:Bool)(ks:e6)(ak ay ax:Bytes)(es:List aP):Prop where
 ex:∃kv pv ov ty,H.get d=some (bJ d f I.u kv pv pas ov ty)/\ht H d I.k kv ks ak/\hb H d I.p pv ax/\hv H d I.o ov es
 hX:∃j0 j1 j2 j3 ty,H.get I.u=some (bT ay j0 j1 j2 j3 ty)
 lt:d<H.M/\I.u<H.M/\I.k<H.M/\I.p<H.M/\I.o<H.M
 ne:I.k=d\/I.p=d\/I.k≠I.p
def mQ:h1->e6->Bytes->Prop
 |.ground,.nil,_=>True
 |.cQ,.one,_=>True
 |.cD,.nil,_=>True
 |.cD,.grown _,_=>True
 |.cp,.grown [],l=>l≠[]
 |.sequence,.grown [],l=>l≠[]
 |.single,.grown [],l=>l≠[]
 |_,_,_=>False
def b1(H:T)(d:Nat)(I:b3)(s:bI)(es:List aP):Prop:= ∃ks,dr H d I (b9 s.nx) (decide (s.nx=.cD)) ks s.ak s.ay s.ax es/\mQ s.nx ks s.ak
def Qk{a b:Bytes}(h:aE a=aE b):a=b:=by
 have:=dm strOf h
 rwa [gY,gY]at this
def Gw{a b:aP}(h:bp a=bp b):a=b:=by unfold bp at h;simp only [J.agg.injEq,fJ,J.int.injEq,J.str.injEq,hE,true_and]at h;cases a;cases b;simp_all
def Gx:∀{a b:List aP},a.map bp=b.map bp->a=b
 |[],[],_=>rfl
 |[],_::_,h=>by simp at h
 |_::_,[],h=>by simp at h
 |x::a,y::b,h=>by simp only [ei,fJ]at h;rw [Gw h.1,Gx h.2]
def AY{H:T}{b:Nat}{l l2 j j2:Bytes}(h:Grown H k v l j)(ag:Grown H b v l2 j2):k=b/\l=l2/\j=j2:=by obtain⟨ad,m,f,e,g⟩:=h;obtain⟨d,m2,f2,aZ,g2⟩:=ag;rw [e]at aZ;simp only [J.slice.injEq,a8,bB.mk.injEq]at aZ;obtain⟨⟨c,_,a,_⟩,_,_⟩:=aZ;subst c;rw [g]at g2;simp only [a8,aa.mk.injEq]at g2;have:=Qk g2.1;exact⟨rfl,(List.append_inj this a).2,(List.append_inj this a).1⟩
variable {ks:e6}
def Ql{H:T}{i:e6}{l l2:Bytes}(h:ht H d k v ks l)(ag:ht H d j v i l2):k=j/\l=l2/\ks=i:=by
 cases ks<;>cases i<;>simp only [ht]at h ag
 .exact⟨A,by rw [h.2.1,ag.2.1],rfl⟩
 .have:=h.1.symm.trans ag.2.1;simp at this
 .obtain⟨_,_,_,_,e,_⟩:=ag;rw [h.1]at e;simp at e
 .have:=ag.1.symm.trans h.2.1;simp at this
 .have:=h.2.1.symm.trans ag.2.1;exact⟨by simpa using this,by rw [h.2.2.2,ag.2.2.2],rfl⟩
 .obtain⟨_,_,_,_,e,g⟩:=ag;have:=h.2.1.symm.trans e;simp only [J.slice.injEq,a8,bB.mk.injEq]at this;obtain⟨⟨f,_⟩,_⟩:=this;rw [f,g]at h;simp [aa.an]at h
 .obtain⟨_,_,_,_,e,_⟩:=h;rw [ag.1]at e;simp at e
 .obtain⟨_,_,_,_,e,g⟩:=h;have:=ag.2.1.symm.trans e;simp only [J.slice.injEq,a8,bB.mk.injEq]at this;obtain⟨⟨f,_⟩,_⟩:=this;rw [f,g]at ag;simp [aa.an]at ag
 .obtain⟨a,b,c⟩:=AY h.2 ag.2;exact⟨a,b,by rw [c]⟩
def Qm{H:T}{f:Nat}{l l2:Bytes}(h:hb H d k v l)(ag:hb H d f v l2):k=f/\l=l2:=by
 rcases h with ⟨a,b,c⟩|⟨a,b,g⟩<;>rcases ag with ⟨a2,bx,c2⟩|⟨a2,bx,g2⟩
 .exact⟨A,by rw [b,bx]⟩
 .obtain⟨_,_,_,e,_⟩:=g2;rw [a]at e;simp at e
 .obtain⟨_,_,_,e,_⟩:=g;rw [a2]at e;simp at e
 .exact⟨(AY g g2).1,(AY g g2).2.1⟩
def Qn{H:T}{l l2:List aP}(h:hv H d k v l)(ag:hv H d i v l2):k=i/\l=l2:=by
 rcases h with ⟨a,b,c⟩|⟨a,b,ad,m,f,e,g⟩<;>rcases ag with ⟨a2,bx,c2⟩|⟨a2,bx,n,m2,f2,aZ,g2⟩
 .exact⟨A,by rw [b,bx]⟩
 .rw [a]at aZ;simp at aZ
 .rw [a2]at e;simp at e
 .rw [e]at aZ;simp only [J.slice.injEq,a8,bB.mk.injEq]at aZ;obtain⟨⟨j,_⟩,_⟩:=aZ;subst j;rw [g]at g2;simp only [a8,aa.mk.injEq]at g2;exact⟨rfl,Gx g2.1⟩
variable {ty uty:bw}{j0 j1 j2 j3:Int}
def Qo{h ag:Bytes}{i0 i1 i2 i3:Int}{j:bw}(k:h.length<=4)(e:bT h j0 j1 j2 j3 ty=bT ag i0 i1 i2 i3 j):h=ag:=by
 simp only [aa.an,aa.mk.injEq,fJ,J.agg.injEq,J.int.injEq,true_and,hE]at e;obtain⟨⟨e0,aQ,aZ,c,d⟩,_⟩:=e;have d:h.length=ag.length:= A;apply o9 λi=> ?_
 by_cases ah:i<h.length
 .have cS:i<ag.length:= A
  have key:bS h i 0=bS ag i 0:=by
   have:i=0\/i=1\/i=2\/i=3:= A;have g:∀(x:Bytes)(a b:Int),i<x.length->bS x i a=bS x i b:=λx a b f=>by simp [bS,ds f]
   rcases this with rfl|rfl|rfl|rfl
   .rw [g h 0 j0 ah,g ag 0 i0 cS];exact e0
   .rw [g h 0 j1 ah,g ag 0 i1 cS];exact aQ
   .rw [g h 0 j2 ah,g ag 0 i2 cS];exact aZ
   .rw [g h 0 j3 ah,g ag 0 i3 cS];exact c
  simp only [bS,ds ah,ds cS]at key;rw [ds ah,ds cS]
  congr 1
  exact fz.1 A
 .rw [ib A,ib A]
variable {pas:Bool}{I:b3}
def dr.nY{H:T}{a:b3}{f f2:Nat}{j:Bool}{i:e6}{ak g ay c ax k:Bytes}{es b:List aP}(h:dr H d I f pas ks ak ay ax es)(ag:dr H d a f2 j i g c k b)(o:ay.length<=4) :
 I=a/\f=f2/\pas=j/\ks=i/\ak=g/\ay=c/\ax=k/\es=b:=by
 obtain⟨kv,pv,ov,ty,e,m,ae,p⟩:=h.ex;obtain⟨z,G,D,K,aZ,n,r,q⟩:=ag.ex;rw [e]at aZ;simp only [aa.an,a8,aa.mk.injEq,fJ,J.agg.injEq,J.func.injEq,Fn.func.injEq,J.ptr.injEq,bB.mk.injEq,J.bool.injEq,true_and,hE]at aZ;obtain⟨⟨t,rfl,rfl,v,hu,rfl⟩,_⟩:=aZ;obtain⟨j0,j1,j2,j3,uty,s⟩:=h.hX;obtain⟨i0,i1,i2,i3,L,l⟩:=ag.hX;rw [<-hu,s]at l;have u:=Qo o (Option.some.inj l);obtain⟨w,x,y⟩:=Ql m n;obtain⟨E,F⟩:=Qm ae r;obtain⟨B,C⟩:=Qn p q;cases I;cases a
 simp_all
def b1.nY{H:T}{j:b3}{s s2:bI}{es k:List aP}(h:b1 H d I s es)(ag:b1 H d j s2 k)(l:s.ay.length<=4):I=j/\s=s2/\es=k:=by
 obtain⟨ks,g,_⟩:=h;obtain⟨m,g2,_⟩:=ag;obtain⟨a,b,c,d,e,f,g,i⟩:=g.nY g2 l;have:=Qj b;cases s;cases s2
 simp_all
def js(l:Bytes):∀e∈aE l,b0 e:=by intro e he;obtain⟨b,_,rfl⟩:=dV.1 he;exact b0.int _ _
def AZ(e:aP):b0 (bp e):=b0.of rfl
def Gy(l:List aP):∀e∈l.map bp,b0 e:=by intro e he;obtain⟨b,_,rfl⟩:=dV.1 he;exact AZ b
def tn(a b c d n:Int)(ty:bw):cu (fN a b c d n ty):=by intro e he;rw [cF.1 he];exact b0.of rfl
def lT{l:List J}(h:∀e∈l,b0 e)(es v m f:Nat)(ty:bw):cu (b4 l es v m f ty):=h
def Gz:cu (aa.an [.ac 27] 1 true):=by intro e he;rw [cF.1 he];exact b0.of rfl
def Grown.lU{Z H':T}{r:Nat->Nat}(a:∀i b,Z.get i=some b->H'.get (r i)=some (b.aO r)){l junk:Bytes}(g:Grown Z k v l junk):Grown H' (r k) (v.aO r) l junk:=by
 obtain⟨ad,m,f,rfl,ab⟩:=g;refine⟨ad,m,f,rfl,?_⟩;have:=a _ _ ab
 rwa [(lT (js _) _ _ _ _ _).aO]at this
def dr.lU{Z H':T}{r:Nat->Nat}(c:∀i b,Z.get i=some b->H'.get (r i)=some (b.aO r))(l:∀i j,r i=r j->i=j)(n:∀i,i<Z.M->r i<H'.M){f:Nat}{ak ay ax:Bytes}{es:List aP}
 (g:dr Z d I f pas ks ak ay ax es):dr H' (r d) (I.map r) f pas ks ak ay ax es where
 ex := by
  obtain⟨kv,pv,ov,ty,e,a,ae,q⟩:=g.ex;refine⟨kv.aO r,pv.aO r,ov.aO r,ty,?_,?_,?_,?_⟩
  .rw [c _ _ e];simp [aa.aO,aa.an,J.aO,J.fc,bB.aO,b3.map]
  .cases ks with
   |nil =>
    obtain⟨rfl,rfl,a⟩:=a;exact⟨rfl,rfl,by show r I.k=r d;rw [a]⟩
   |one =>
    obtain⟨u,rfl,a,rfl⟩:=a;refine⟨λe=>u (l _ _ e),rfl,?_,rfl⟩;have:=c _ _ a
    rwa [Gz.aO]at this
   |grown junk=>exact⟨λe=>a.1 (l _ _ e),a.2.lU c⟩
  .rcases ae with ⟨rfl,rfl,ae⟩|⟨Y,ag,t⟩
   .exact .inl ⟨rfl,rfl,by show r I.p=r d;rw [ae]⟩
   .exact .inr ⟨λe=>Y (l _ _ e),ag,t.lU c⟩
  .rcases q with ⟨rfl,rfl,q⟩|⟨Y,ag,ad,m,s,rfl,ab⟩
   .exact .inl ⟨rfl,rfl,by show r I.o=r d;rw [q]⟩
   .refine .inr ⟨λe=>Y (l _ _ e),ag,ad,m,s,rfl,?_⟩;have:=c _ _ ab
    rwa [(lT (Gy _) _ _ _ _ _).aO]at this
 hX:=by
  obtain⟨j0,j1,j2,j3,ty,hu⟩:=g.hX;refine⟨j0,j1,j2,j3,ty,?_⟩;have:=c _ _ hu
  rwa [(tn _ _ _ _ _ _).aO]at this
 lt:=⟨n _ g.lt.1,n _ g.lt.2.1,n _ g.lt.2.2.1,n _ g.lt.2.2.2.1,n _ g.lt.2.2.2.2⟩
 ne:=by
  rcases g.ne with h|h|h
  .exact .inl (by show r I.k=r d;rw [h])
  .exact .inr (.inl (by show r I.p=r d;rw [h]))
  .exact .inr (.inr λe=>h (l _ _ e))
structure Fr(h Z:T)(d:Nat)(I aH:b3):Prop where
 M:h.M<=Z.M
 get:∀j,j<h.M->j≠d->j≠I.u->j≠I.k->j≠I.p->j≠I.o->Z.get j=h.get j
 ids:∀x,x=aH.u\/x=aH.k\/x=aH.p\/x=aH.o->x=d\/x=I.u\/x=I.k\/x=I.p\/x=I.o\/h.M<=x
def Fr.trans{h Y ag:T}{c g:b3}(a:Fr h Y d I c)(b:Fr Y ag d c g):Fr h ag d I g where
 M:=Nat.le_trans a.M b.M
 get j i aQ aZ l m n:=by
  have key:∀x,(x=c.u\/x=c.k\/x=c.p\/x=c.o)->j≠x:=by intro x f e;subst e;have:=a.ids _ f;omega
  rw [b.get j (kf i a.M) aQ (key _ (.inl rfl)) (key _ (.inr (.inl rfl))) (key _ (.inr (.inr (.inl rfl)))) (key _ (.inr (.inr (.inr rfl)))),a.get j i aQ aZ l m n]
 ids x f:=by
  rcases b.ids x f with h|h|h|h|h|h
  .exact .inl h
  .exact a.ids x (.inl h)
  .exact a.ids x (.inr (.inl h))
  .exact a.ids x (.inr (.inr (.inl h)))
  .exact a.ids x (.inr (.inr (.inr h)))
  .have:=a.M;omega
def jR:aa:=aa.an [] 1 true
def A0:cu jR:=by intro e he;cases he
noncomputable def rl(H:T):T:=⟨H.M+3,(((H.set H.M jR).set (H.M+1) jR).set (H.M+2) jR).aF⟩
def wY(H:T)(j:Nat):(rl H).get j=if H.M+2=j then some jR else if H.M+1=j then some jR else if H.M=j then some jR else H.get j:=by show(((H.set H.M jR).set (H.M+1) jR).set (H.M+2) jR).get j=_;rw [T.iK,T.iK,T.iK]
def k8(H:T)(j:Nat)(h:j<H.M):(rl H).get j=H.get j:=by rw [wY,ai A,ai A,ai A]
structure Part(H:T)(d x i Qp:Nat)(v v0:J)(B:aa)(j ij es:Nat):Prop where
 bare:cu B
 aO:∀r:Nat->Nat,r i=j->v0.aO r=v
 dj:∀D:Nat->Prop,D i->bR D v0
 row:(rl H).get j=some B
 at':(ij=0/\x=d/\j=H.M+Qp)\/(ij=i/\x=j/\j≠d/\j<H.M/\B.es=es)
def Qq{H:T}{l:Bytes}(h:ht H d k v ks l)(a:k<H.M):∃v0 B j ij,Part H d k 2 0 v v0 B j ij 1/\∀aM:T,aM.get 2=some B->ht aM 0 ij v0 ks l:=by
 cases ks with
 |nil =>
  obtain⟨rfl,rfl,rfl⟩:=h;exact⟨.slice none 0 0,jR,H.M,0,⟨A0,λ_ _=>rfl,λ_ _=>trivial,by rw [wY,ai A,ai A,az rfl],.inl ⟨rfl,rfl,rfl⟩⟩,λaM _=>⟨rfl,rfl,rfl⟩⟩
 |one =>
  obtain⟨c,rfl,ab,rfl⟩:=h;exact⟨.aB 2 0 0 1 1,aa.an [.ac 27] 1 true,k,2,⟨Gz,λr e=>by simp [J.aO,bB.aO,e],λD b=>b,by rw [k8 _ _ a];exact ab,.inr ⟨rfl,rfl,c,a,rfl⟩⟩,λaM g0=>⟨aC,rfl,g0,rfl⟩⟩
 |grown junk =>
  obtain⟨c,ad,m,f,rfl,ab⟩:=h
  exact⟨.aB 2 ad junk.length l.length l.length,b4 (aE (junk++l)) 1 ad m f b',k,2,⟨lT (js _) _ _ _ _ _,λr e=>by simp [J.aO,bB.aO,e],λD b=>b,by rw [k8 _ _ a];exact ab,.inr ⟨rfl,rfl,c,a,rfl⟩⟩,
   λaM g0=>⟨aC,ad,m,f,rfl,g0⟩⟩
def Qr{H:T}{l:Bytes}(h:hb H d k v l)(a:k<H.M):∃v0 B j ij,Part H d k 3 1 v v0 B j ij 1/\∀aM:T,aM.get 3=some B->hb aM 0 ij v0 l:=by
 rcases h with ⟨rfl,rfl,rfl⟩|⟨e,c,ad,m,f,rfl,ab⟩
 .exact⟨.slice none 0 0,jR,H.M+1,0,⟨A0,λ_ _=>rfl,λ_ _=>trivial,by rw [wY,ai A,az rfl],.inl ⟨rfl,rfl,rfl⟩⟩,λaM _=> .inl ⟨rfl,rfl,rfl⟩⟩
 .exact⟨.aB 3 ad 0 l.length l.length,b4 (aE ([]++l)) 1 ad m f b',k,3,⟨lT (js _) _ _ _ _ _,λr g=>by simp [J.aO,bB.aO,g],λD b=>b,by rw [k8 _ _ a];exact ab,.inr ⟨rfl,rfl,e,a,rfl⟩⟩,
   λaM g0=> .inr ⟨aC,c,ad,m,f,rfl,g0⟩⟩
def Qs{H:T}{l:List aP}(h:hv H d k v l)(a:k<H.M):∃v0 B j ij,Part H d k 4 2 v v0 B j ij 6/\(ij=4->B.exact=false)/\∀aM:T,aM.get 4=some B->hv aM 0 ij v0 l:=by
 rcases h with ⟨rfl,rfl,rfl⟩|⟨g,c,ad,m,f,rfl,ab⟩
 .exact⟨.slice none 0 0,jR,H.M+2,0,⟨A0,λ_ _=>rfl,λ_ _=>trivial,by rw [wY,az rfl],.inl ⟨rfl,rfl,rfl⟩⟩,(λe=>by cases e),λaM _=> .inl ⟨rfl,rfl,rfl⟩⟩
 .exact⟨.slice (some ⟨4,ad,0,0,6⟩) l.length l.length,b4 (l.map bp) 6 ad m f gF,k,4,⟨lT (Gy _) _ _ _ _ _,λr i=>by simp [J.aO,bB.aO,i],λD b=>b,by rw [k8 _ _ a];exact ab,.inr ⟨rfl,rfl,g,a,rfl⟩⟩,λ_=>rfl,
   λaM g0=> .inr ⟨aC,c,ad,m,f,rfl,g0⟩⟩
def dr.GA{H:T}{f:Nat}{ak ay ax:Bytes}{es:List aP}(g:dr H d I f pas ks ak ay ax es){fn:FuncId}{rest:List J}(c3:∀a∈rest,b0 a)(fd:b0 v)
 {Q:T->Nat->b3->Prop} (d0:∀(Z H':T)(r:Nat->Nat)(d:Nat)(I:b3),(∀i b,Z.get i=some b->H'.get (r i)=some (b.aO r))->(∀i j,r i=r j->i=j)->(∀i,i<Z.M->r i<H'.M)->Q Z d I->Q H' (r d) (I.map r))
 (small:∀kv pv ov ty uty j0 j1 j2 j3 K P O w,dr (T.of [bJ 0 f 1 kv pv pas ov ty,bT ay j0 j1 j2 j3 uty,K,P,O]) 0 w f pas ks ak ay ax es->(w.u=1/\(w.k=0\/w.k=2)/\(w.p=0\/w.p=3)/\(w.o=0\/w.o=4))->cu K->cu P->cu O ->
  ∃Z,be fn (.ptr (some ⟨0,0,0,0,6⟩)::rest) (T.of [bJ 0 f 1 kv pv pas ov ty,bT ay j0 j1 j2 j3 uty,K,P,O]) v Z/\∃aH,Q Z 0 aH/\Fr (T.of [bJ 0 f 1 kv pv pas ov ty,bT ay j0 j1 j2 j3 uty,K,P,O]) Z 0 w aH) :
 ∃H',be fn (.ptr (some ⟨d,0,0,0,6⟩)::rest) H v H'/\∃aH,Q H' d aH/\Fr H H' d I aH:=by
 obtain⟨kv,pv,ov,ty,e,d6,ae,em⟩:=g.ex;obtain⟨j0,j1,j2,j3,uty,hu⟩:=g.hX;obtain⟨f0,l2,f1,f2,f3⟩:=g.lt;obtain⟨X,K,z,C,n,c9⟩:=Qq d6 f1;obtain⟨a0,P,B,D,pp,dg⟩:=Qr ae f2;obtain⟨am,O,t,G,s,go,co⟩:=Qs em f3;have c4:z<H.M->H.get z=some K:=λh=>by rw [<-k8 _ _ h];exact n.row
 have c5:B<H.M->H.get B=some P:=λh=>by rw [<-k8 _ _ h];exact pp.row
 have ce:t<H.M->H.get t=some O:=λh=>by rw [<-k8 _ _ h];exact s.row
 have f4:d≠I.u:=by intro h;rw [<-h,e]at hu;simp [aa.an]at hu
 have f7:z<H.M->K.es=1->I.u≠z:=by intro Y ag h;have:=c4 Y;rw [<-h,hu]at this;simp only [a8]at this;rw [<-this]at ag;simp [aa.an]at ag
 have f9:B<H.M->P.es=1->I.u≠B:=by intro Y ag h;have:=c5 Y;rw [<-h,hu]at this;simp only [a8]at this;rw [<-this]at ag;simp [aa.an]at ag
 have f8:t<H.M->O.es=6->I.u≠t:=by intro Y ag h;have:=ce Y;rw [<-h,hu]at this;simp only [a8]at this;rw [<-this]at ag;simp [aa.an]at ag
 have f5:z<H.M->K.es=1->t<H.M->O.es=6->z≠t:=by intro Y ag R S h;have:=c4 Y;rw [h,ce R]at this;simp only [a8]at this;rw [this]at S;omega
 have f6:B<H.M->P.es=1->t<H.M->O.es=6->B≠t:=by intro Y ag R S h;have:=c5 Y;rw [h,ce R]at this;simp only [a8]at this;rw [this]at S;omega
 let ids:=[d,I.u,z,B,t]
 let H2:=rl H
 let r:=cP ids H2.M
 have gt:H2.M=H.M+3:=rfl
 have c2:ids.Nodup:=by
  have aq:=n.at';have a2:=pp.at';have a3:=s.at';have a4:=g.ne;simp only [ids,qx,dR,ia,hh,not_or,kR,hE,lB];refine⟨⟨f4,?_,?_,?_⟩,⟨?_,?_,?_⟩,⟨?_,?_⟩,?_⟩
  .omega
  .omega
  .omega
  .rcases aq with ⟨_,_,h⟩|⟨_,_,_,h,Z⟩
   .omega
   .exact f7 h Z
  .rcases a2 with ⟨_,_,h⟩|⟨_,_,_,h,Z⟩
   .omega
   .exact f9 h Z
  .rcases a3 with ⟨_,_,h⟩|⟨_,_,_,h,Z⟩
   .omega
   .exact f8 h Z
  .omega
  .rcases aq with ⟨_,_,h⟩|⟨_,_,_,h,Z⟩<;>rcases a3 with ⟨_,_,q⟩|⟨_,_,_,q,a5⟩
   .omega
   .omega
   .omega
   .exact f5 h Z q a5
  .rcases a2 with ⟨_,_,h⟩|⟨_,_,_,h,Z⟩<;>rcases a3 with ⟨_,_,q⟩|⟨_,_,_,q,a5⟩
   .omega
   .omega
   .omega
   .exact f6 h Z q a5
 have U:∀j∈ids,j<H2.M:=by have aq:=n.at';have a2:=pp.at';have a3:=s.at';intro j L;simp only [ids,dR,ia,hh]at L;rcases L with rfl|rfl|rfl|rfl|rfl<;>omega
 have E:r 0=d:=rfl;have a9:r 1=I.u:=rfl;have bn:r 2=z:=rfl;have bs:r 3=B:=rfl;have bv:r 4=t:=rfl
 let l:List aa:=[bJ 0 f 1 X a0 pas am ty,bT ay j0 j1 j2 j3 uty,K,P,O]
 have d2:∀b∈l,FA (λi=>i<l.length) b:=by
  intro b m;simp only [l,dR,ia,hh]at m;rcases m with rfl|rfl|rfl|rfl|rfl
  .intro x W;rw [cF.1 W];simp only [bR,dO,l,bK,cq];exact⟨⟨⟨aC,trivial⟩,trivial⟩,n.dj _ aC,pp.dj _ aC,trivial,aC,s.dj _ aC,trivial⟩
  .exact(tn _ _ _ _ _ _).dj _
  .exact n.bare.dj _
  .exact pp.bare.dj _
  .exact s.bare.dj _
 have d7:∀i b,l[i]? =some b->H2.get (r i)=some (b.aO r):=by
  intro i b m;have ah:=(e4.1 m).1;simp only [l,bK,cq]at ah;have:i=0\/i=1\/i=2\/i=3\/i=4:= A;rcases this with rfl|rfl|rfl|rfl|rfl
  .simp only [l,fR,a8]at m;subst m;rw [E];show(rl H).get d=_;rw [k8 _ _ f0,e];have aQ:=n.aO r bn;have aZ:=pp.aO r bs;have cs:=s.aO r bv;simp [aa.aO,aa.an,J.aO,J.fc,bB.aO,aQ,aZ,cs,E,a9]
  .simp only [l,fR,hj,a8]at m;subst m;rw [a9,(tn _ _ _ _ _ _).aO];show(rl H).get I.u=_;rw [k8 _ _ l2];exact hu
  .simp only [l,fR,hj,a8]at m;subst m;rw [bn,n.bare.aO];exact n.row
  .simp only [l,fR,hj,a8]at m;subst m;rw [bs,pp.bare.aO];exact pp.row
  .simp only [l,fR,hj,a8]at m;subst m;rw [bv,s.bare.aO];exact s.row
 have gs:dr (T.of l) 0 ⟨1,C,D,G⟩ f pas ks ak ay ax es:=by
  refine⟨⟨X,a0,am,ty,by rw [T.dI];rfl,c9 _ (by rw [T.dI];rfl),dg _ (by rw [T.dI];rfl),co _ (by rw [T.dI];rfl)⟩,⟨j0,j1,j2,j3,uty,by rw [T.dI];rfl⟩,?_,?_⟩
  .have aq:=n.at';have a2:=pp.at';have a3:=s.at';show 0<5/\1<5/\C<5/\D<5/\G<5;omega
  .have aq:=n.at';have a2:=pp.at';show C=0\/D=0\/C≠D;omega
 obtain⟨Z,d3,aH,e0,cd⟩:=small X a0 am ty uty j0 j1 j2 j3 K P O _ gs (by have aq:=n.at';have a2:=pp.at';have a3:=s.at';show 1=1/\(C=0\/C=2)/\(D=0\/D=3)/\(G=0\/G=4);omega) n.bare pp.bare s.bare;have d9:5<=Z.M:=cd.M
 obtain⟨H',c0,N,d4,eq⟩:=d3.place (hn':=d9) d2 (by
  refine pw.2 λa F=> ?_
  rcases dR.1 F with rfl|F
  .show 0<5;decide
  .exact(c3 a F).dj _) (H:=H2) ids c2 U rfl d7
 have d1:(J.ptr (some ⟨0,0,0,0,6⟩)::rest).map (J.aO (cP ids H2.M))=J.ptr (some ⟨d,0,0,0,6⟩)::rest:=by
  rw [ei]
  congr 1
  conv=>rhs;rw [<-pb rest]
  exact i' λa F=>(c3 a F).1 _
 rw [d1,fd.1]at c0;have d5:∀i j,r i=r j->i=j:=λi j h=>FE c2 U h
 have d8:∀i,i<Z.M->r i<H'.M:=by
  intro i ah;have N:H'.M=H.M+3+(Z.M-5):=N;by_cases c:i<5
  .have ct:i<ids.length:=c;have:=U _ (ic ct);show cP ids H2.M i<_;rw [pI ct];omega
  .show cP ids H2.M i<_;rw [k0 (show ids.length<=i by show 5<=i;omega)];show H.M+3+(i-5)<_;omega
 refine⟨H',c0.less (by show H.M<=H.M+3;omega) (λi ah=>k8 H i ah),aH.map r,d0 Z H' r 0 aH d4 d5 d8 e0,?_,?_,?_⟩
 .have N:H'.M=H.M+3+(Z.M-5):=N;omega
 .intro j L aQ aZ cs gc ge
  have el:j ∉ ids:=by have aq:=n.at';have a2:=pp.at';have a3:=s.at';simp only [ids,dR,ia,hh,not_or];refine⟨aQ,aZ,?_,?_,?_⟩<;>omega
  rw [eq j (by show j<H.M+3;omega) el];exact k8 H j L
 .intro x W
  have key:∀y,(y=aH.u\/y=aH.k\/y=aH.p\/y=aH.o)->r y=d\/r y=I.u\/r y=I.k\/r y=I.p\/r y=I.o\/H.M<=r y:=by
   intro y fs;have aq:=n.at';have a2:=pp.at';have a3:=s.at';rcases cd.ids y fs with h|h|h|h|h|h
   .left;rw [h];exact E
   .right;left;rw [h];exact a9
   .have h:y=C:=h;rcases aq with ⟨aN,_,_⟩|⟨aN,bx,_⟩
    .left;rw [h,aN];exact E
    .right;right;left;rw [h,aN,bn,bx]
   .have h:y=D:=h;rcases a2 with ⟨aN,_,_⟩|⟨aN,bx,_⟩
    .left;rw [h,aN];exact E
    .right;right;right;left;rw [h,aN,bs,bx]
   .have h:y=G:=h;rcases a3 with ⟨aN,_,_⟩|⟨aN,bx,_⟩
    .left;rw [h,aN];exact E
    .right;right;right;right;left;rw [h,aN,bv,bx]
   .right;right;right;right;right;have h:5<=y:=h;show H.M<=cP ids H2.M y;rw [k0 (show ids.length<=y from h)];show H.M<=H.M+3+_;omega
  rcases W with h|h|h|h<;>(rw [h];exact key _ au)
def dr.lift{H:T}{f:Nat}{ak ay ax:Bytes}{es:List aP}(g:dr H d I f pas ks ak ay ax es){fn:FuncId}{rest:List J}(l:∀a∈rest,b0 a)(m:b0 v)
 {Q:T->Nat->b3->Prop} (h:∀(Z H':T)(r:Nat->Nat)(d:Nat)(I:b3),(∀i b,Z.get i=some b->H'.get (r i)=some (b.aO r))->(∀i j,r i=r j->i=j)->(∀i,i<Z.M->r i<H'.M)->Q Z d I->Q H' (r d) (I.map r))
 (small:∀kv pv ov ty uty j0 j1 j2 j3 K P O c,dr (T.of [bJ 0 f 1 kv pv pas ov ty,bT ay j0 j1 j2 j3 uty,K,P,O]) 0 c f pas ks ak ay ax es->(c.u=1/\(c.k=0\/c.k=2)/\(c.p=0\/c.p=3)/\(c.o=0\/c.o=4)) ->
  ∃Z,be fn (.ptr (some ⟨0,0,0,0,6⟩)::rest) (T.of [bJ 0 f 1 kv pv pas ov ty,bT ay j0 j1 j2 j3 uty,K,P,O]) v Z/\∃aH,Q Z 0 aH/\Fr (T.of [bJ 0 f 1 kv pv pas ov ty,bT ay j0 j1 j2 j3 uty,K,P,O]) Z 0 c aH) :
 ∃H',be fn (.ptr (some ⟨d,0,0,0,6⟩)::rest) H v H'/\∃aH,Q H' d aH/\Fr H H' d I aH :=
 g.GA l m h λkv pv ov ty uty j0 j1 j2 j3 K P O c gs e _ _ _=>small kv pv ov ty uty j0 j1 j2 j3 K P O c gs e
def ht.keep{H H':T}{l:Bytes}(h:ht H d k v ks l)(ab:k≠d->H'.get k=H.get k):ht H' d k v ks l:=by
 cases ks with
 |nil=>exact h
 |one=>exact⟨h.1,h.2.1,by rw [ab h.1];exact h.2.2.1,h.2.2.2⟩
 |grown junk =>
  obtain⟨Y,ad,m,f,e,g⟩:=h;exact⟨Y,ad,m,f,e,by rw [ab Y];exact g⟩
def hb.keep{H H':T}{l:Bytes}(h:hb H d k v l)(ab:k≠d->H'.get k=H.get k):hb H' d k v l:=by
 rcases h with h|⟨Y,ag,ad,m,f,e,g⟩
 .exact .inl h
 .exact .inr ⟨Y,ag,ad,m,f,e,by rw [ab Y];exact g⟩
def hv.keep{H H':T}{l:List aP}(h:hv H d k v l)(ab:k≠d->H'.get k=H.get k):hv H' d k v l:=by
 rcases h with h|⟨Y,ag,ad,m,f,e,g⟩
 .exact .inl h
 .exact .inr ⟨Y,ag,ad,m,f,e,by rw [ab Y];exact g⟩
abbrev ol(b a c e f:Int)(d:Bytes):J:=J.agg [.bA b,.av a,.ac c,.V e,.V f,.str d]
def Qt(o:Nat)(p n:J)(m:Bool)(l:bw)(k g j i:aa)(b a c e f:Int)(d:Bytes)(h:aU)(q:h .bZ (af 27 [(0,⟨[.agg [.func (.func 30) [J.aT 0] [],.slice none 0 0,n,.bool m,.ptr (some ⟨1,0,0,0,5⟩),.slice (k1 13) 1 1]],6,true,false,0,0,0,l⟩),(1,k),(2,g),(3,j),(4,i),(5,aL (ol b a c e f d)),(12,aa.an [(ol b a c e f d)] 6 true),(13,aa.an [(ol b a c e f d)] 6 false (some (42,0)))])) :
 bl 58 [J.aT 0,bp ⟨b,a,c,e,f,d⟩] (T.of [bJ 0 o 1 p n m (.slice none 0 0) l,k,g,j,i]) h :=
 bm bL (.nil) q
def Qu(q:Nat)(r p:J)(o:Bool)(m:bw)(l i k:aa)(c b d f g:Int)(e:Bytes)(es:List J)(ad h n a:Nat)(j:aU)(s:(ad=ad/\0+a=es.length/\a<a+1/\(a+1+(a+1)/4+512)*48<=281474976710656/\a+1<4611686018427387904)/\j .bZ (af 27 [(0,{bg:=[.agg [.func (.func 30) [J.aT 0] [],.slice none 0 0,p,.bool o,.ptr (some ⟨1,0,0,0,5⟩),.slice (some ⟨4,ad+1,0,0,6⟩) (a+1) (a+1)]],es:=6,exact:=true,ro:=false,ad:=0,eH:=0,fo:=0,ty:=m}),(1,l),(2,i),(3,k),(4,⟨es++[(ol c b d f g e)],6,false,false,ad+1,h,if h=ad then es.length else min n (es.length),some (42,0)⟩),(5,aL (ol c b d f g e)),(12,aa.an [(ol c b d f g e)] 6 true)])) :
 bl 58 [J.aT 0,bp ⟨c,b,d,f,g,e⟩] (T.of [bJ 0 q 1 r p o (.slice (some ⟨4,ad,0,0,6⟩) a a) m,l,i,k,b4 es 6 ad h n gF]) j :=
 bm bL (ab 1007 .nil) s
def Qv{H:T}{f:Nat}{ak ay ax:Bytes}{es:List aP}(g:dr H d I f pas ks ak ay ax es)(e:aP)(L:es.length<2^30) :
 ∃H',be 58 [.ptr (some ⟨d,0,0,0,6⟩),bp e] H (.tuple []) H'/\∃aH,dr H' d aH (b9 .ground) pas .nil [] ay ax (es++[e])/\Fr H H' d I aH:=by
 refine g.lift (Q:=λh d I=>dr h d I (b9 .ground) pas .nil [] ay ax (es++[e])) (λa C=>by rw [cF.1 C];exact AZ e) (b0.of rfl) (λZ H' r d I F D E q=>q.lU F D E) ?_;intro kv pv ov ty uty j0 j1 j2 j3 K P O b gs B;obtain⟨W,am,X,a0,e0,N,ae,z⟩:=gs.ex;rw [T.dI]at e0;simp only [fR,a8,aa.an,aa.mk.injEq,fJ,J.agg.injEq,J.func.injEq,J.ptr.injEq,bB.mk.injEq,true_and,hE]at e0;obtain⟨⟨rfl,rfl,hu,rfl⟩,rfl⟩:=e0;obtain⟨i0,U,ip,w⟩:=B
 have fin:∀(v:J)(Z:T)(x:Nat),v=.tuple []/\(∃aH,dr Z 0 aH (b9 .ground) pas .nil [] ay ax (es++[e])/\Fr (T.of [bJ 0 f 1 kv pv pas ov ty,bT ay j0 j1 j2 j3 uty,K,P,O]) Z 0 b aH) ->
  be 58 [.ptr (some ⟨0,0,0,0,6⟩),bp e] (T.of [bJ 0 f 1 kv pv pas ov ty,bT ay j0 j1 j2 j3 uty,K,P,O]) v Z ->
  ∃Z,be 58 [.ptr (some ⟨0,0,0,0,6⟩),bp e] (T.of [bJ 0 f 1 kv pv pas ov ty,bT ay j0 j1 j2 j3 uty,K,P,O]) (.tuple []) Z/\∃aH,dr Z 0 aH (b9 .ground) pas .nil [] ay ax (es++[e])/\Fr (T.of [bJ 0 f 1 kv pv pas ov ty,bT ay j0 j1 j2 j3 uty,K,P,O]) Z 0 b aH:=by
  rintro v Z x ⟨rfl,q⟩ c;exact⟨Z,c,q⟩
 rcases z with ⟨rfl,rfl,z⟩|⟨R,S,ad,m,n,rfl,t⟩
 .obtain⟨v,Z,c,q⟩:=Qt f kv pv pas ty (bT ay j0 j1 j2 j3 uty) K P O e.kind e.code e.cI e.x e.y e.text (λv Z=>v=.tuple []/\∃aH,dr Z 0 aH (b9 .ground) pas .nil [] ay ax [e]/\Fr (T.of [bJ 0 f 1 kv pv pas (.slice none 0 0) ty,bT ay j0 j1 j2 j3 uty,K,P,O]) Z 0 b aH) (by
   delta ol
   refine⟨rfl,⟨1,0,b.p,13⟩,⟨⟨.slice none 0 0,pv,.slice (some ⟨13,0,0,0,6⟩) 1 1,ty,ao,⟨rfl,rfl,rfl⟩,ae.keep ?_,.inr ⟨by show 13≠0;decide,au,0,0,0,rfl,?_⟩⟩,⟨j0,j1,j2,j3,uty,ao⟩,?_,.inl rfl⟩,⟨?_,?_,?_⟩⟩
   rotate_left
   .kernel_rfl
   rotate_right
   .intro s;rw [T.dI];rcases ip with ip|ip
    .exact absurd ip s
    .rw [ip];kernel_rfl
   .show 0<27/\1<27/\0<27/\b.p<27/\13<27;omega
   .show 5<=27;decide
   .intro j i aQ aZ _ _ _;have i:j<5:=i;have:j=2\/j=3\/j=4:= A;rw [T.dI];rcases this with rfl|rfl|rfl<;>(show _=_;kernel_rfl)
   .intro x l;show x=0\/x=b.u\/x=b.k\/x=b.p\/x=b.o\/5<=x;have l:x=1\/x=0\/x=b.p\/x=13:=l
    omega)
  exact fin v Z 0 q c
 .have w:b.o=4:= A;rw [w,T.dI]at t;simp only [fR,hj,a8]at t;subst t
  obtain⟨v,Z,c,q⟩:=Qu f kv pv pas ty (bT ay j0 j1 j2 j3 uty) K P e.kind e.code e.cI e.x e.y e.text (es.map bp) ad m n es.length (λv Z=>v=.tuple []/\∃aH,dr Z 0 aH (b9 .ground) pas .nil [] ay ax (es++[e])/\Fr (T.of [bJ 0 f 1 kv pv pas (.slice (some ⟨4,ad,0,0,6⟩) es.length es.length) ty,bT ay j0 j1 j2 j3 uty,K,P,b4 (es.map bp) 6 ad m n gF]) Z 0 b aH) (by
   delta ol
   refine⟨⟨rfl,au,A,A,A⟩,rfl,⟨1,0,b.p,4⟩,⟨⟨.slice none 0 0,pv,.slice (some ⟨4,ad+1,0,0,6⟩) (es.length+1) (es.length+1),ty,ao,⟨rfl,rfl,rfl⟩,ae.keep ?_,.inr ⟨by show 4≠0;decide,au,ad+1,m,if m=ad then(es.map bp).length else min n (es.map bp).length,au,?_⟩⟩,⟨j0,j1,j2,j3,uty,ao⟩,?_,.inl rfl⟩,⟨?_,?_,?_⟩⟩
   rotate_left
   .rw [nH];kernel_rfl
   rotate_right
   .intro s;rw [T.dI];rcases ip with ip|ip
    .exact absurd ip s
    .rw [ip];kernel_rfl
   .show 0<27/\1<27/\0<27/\b.p<27/\4<27;omega
   .show 5<=27;decide
   .intro j i aQ aZ _ _ G;have i:j<5:=i;have:j=2\/j=3:= A;rw [T.dI];rcases this with rfl|rfl<;>(show _=_;kernel_rfl)
   .intro x l;show x=0\/x=b.u\/x=b.k\/x=b.p\/x=b.o\/5<=x;have l:x=1\/x=0\/x=b.p\/x=4:=l
    omega)
  rw [w]at fin⊢;exact fin v Z 0 q c
structure cJ(h:T)(a:bB)(ca:J):Prop where
 at':a=⟨a.id,0,0,0,6⟩
 ex:∃I f pas ks ak ay ax es e,ca=bp e/\dr h a.id I f pas ks ak ay ax es/\es.length<2^30/\ay.length<=4
structure cK(h:T)(a:bB)(ca:J)(Z:T):Prop where
 all:∀I f pas ks ak ay ax es e,ca=bp e->dr h a.id I f pas ks ak ay ax es->ay.length<=4-> ∃aH,dr Z a.id aH (b9 .ground) pas .nil [] ay ax (es++[e])/\Fr h Z a.id I aH
 M:h.M<=Z.M
def A1:List J->T->Option dx:=λargs h =>
 match args with
 |[.ptr (some a),.agg cs]=>some (.some (.tuple []) [cJ h a (.agg cs)] (cK h a (.agg cs)))
 |_=>none
def Qw:∀args h a,A1 args h=some a->a.cG Tryz.prog cz 58 args h:=by
 intro args h a e;unfold A1 at e;split at e<;>first|(cases e;done)|skip
 rename_i a cs;simp only [a8]at e;subst e;intro ae;have d:=ae.head.at';obtain⟨I,f,pas,ks,ak,ay,ax,es,e,he,g,j,k⟩:=ae.head.ex;obtain⟨Z,b,aH,c,cd⟩:=Qv g e j;rw [<-d,<-he]at b;refine⟨Z,b,⟨?_,cd.M⟩⟩;intro l f2 r q p o s m aZ i g2 n;obtain⟨rfl,rfl,rfl,rfl,rfl,rfl,rfl,rfl⟩:=g.nY g2 k;have:=Gw (he.symm.trans i);subst this;exact⟨aH,c,cd⟩
structure dA(N:Nat)(R:bI->UInt8->Prop)(h:T)(a:bB)(c:Int):Prop where
 at':a=⟨a.id,0,0,0,6⟩
 ex:∃I s es,b1 h a.id I s es/\es.length<N/\s.ay.length<=4/\R s (dU c)
 c:0<=c/\c<=255
structure dB(F:bI->UInt8->bI×List aP)(h:T)(a:bB)(c:Int)(Z:T):Prop where
 all:∀I s es,b1 h a.id I s es->s.ay.length<=4-> ∃aH,b1 Z a.id aH (F s (dU c)).1 (es++(F s (dU c)).2)/\Fr h Z a.id I aH
 M:h.M<=Z.M
def hN(N:Nat)(R:bI->UInt8->Prop)(F:bI->UInt8->bI×List aP):List J->T->Option dx:=λargs h =>
 match args with
 |[.ptr (some a),.int .u8 c]=>some (.some (.tuple []) [dA N R h a c] (dB F h a c))
 |_=>none
def rm(c:UInt8):dU (c.toNat:Int)=c:=by unfold dU;simp
def GB{c:Int}(h:0<=c/\c<=255):((dU c).toNat:Int)=c:=by
 unfold dU;have:(UInt8.ofNat c.toNat).toNat=c.toNat%256:=by simp [qv]
 rw [this];omega
def om{f:FuncId}{R:bI->UInt8->Prop}{F:bI->UInt8->bI×List aP}(k:∀H d I s es c,b1 H d I s es->es.length<N->s.ay.length<=4->R s c-> ∃H',be f [.ptr (some ⟨d,0,0,0,6⟩),.ac (c:UInt8).toNat] H (.tuple []) H'/\∃aH,b1 H' d aH (F s c).1 (es++(F s c).2)/\Fr H H' d I aH) :
 ∀args h a,hN N R F args h=some a->a.cG Tryz.prog cz f args h:=by
 intro args h a e;unfold hN at e;split at e<;>first|(cases e;done)|skip
 rename_i a c;simp only [a8]at e;subst e;intro ae;have m:=ae.head.at';obtain⟨_,⟨I,s,es,g,n,i,l⟩,aj⟩:=ae.head;obtain⟨Z,b,aH,j,cd⟩:=k h a.id I s es (dU c) g n i l;rw [<-m,GB aj]at b;refine⟨Z,b,⟨?_,cd.M⟩⟩;intro o s2 p g2 q;obtain⟨rfl,rfl,rfl⟩:=g.nY g2 i;exact⟨aH,j,cd⟩
noncomputable def A2:dQ:=Gt.add 58 A1
def wZ:dC Tryz.prog cz A2:=Qi.add Qw
def Qx{h:T}{f:Nat}{kv ov:J}{ay ak ax:Bytes}{D a1 K P O:aa}{es:List aP}{p o:Nat}
 (e0:h.get 0=some (bJ 0 f 1 kv pv pas ov ty)) (aQ:h.get 1=some (bT ay j0 j1 j2 j3 uty)) (a:h.get 3=some P) (b:h.get 4=some O) (c:ht h 0 k kv ks ak) (i:k<h.M) (g:5<=h.M)
 (ae:hb (T.of [D,a1,K,P,O]) 0 p pv ax) (d:hv (T.of [D,a1,K,P,O]) 0 o ov es) (ip:p=0\/p=3) (e:o=0\/o=4) (j:k=0\/k=2\/5<=k):dr h 0 ⟨1,k,p,o⟩ f pas ks ak ay ax es where
 ex :=by
  refine⟨kv,pv,ov,ty,e0,c,ae.keep λaw=> ?_,d.keep λaw=> ?_⟩
  .rcases ip with rfl|rfl
   .exact absurd rfl aw
   .rw [a,T.dI];rfl
  .rcases e with rfl|rfl
   .exact absurd rfl aw
   .rw [b,T.dI];rfl
 hX:=⟨j0,j1,j2,j3,uty,aQ⟩
 lt:=by show 0<h.M/\1<h.M/\k<h.M/\p<h.M/\o<h.M;omega
 ne:=by show k=0\/p=0\/k≠p;omega
def Qy{h:T}{D a1 K P O:aa}{a:b3}(l:a.u=1/\(a.k=0\/a.k=2)/\(a.p=0\/a.p=3)/\(a.o=0\/a.o=4))(aZ:h.get 2=some K\/a.k=2)(f:h.get 3=some P)(g:h.get 4=some O)(i:5<=h.M)(c:k=0\/5<=k\/(k=2/\a.k=2)) :
 Fr (T.of [D,a1,K,P,O]) h 0 a ⟨1,k,a.p,a.o⟩ where
 M:=i
 get j b m n2 n q r:=by
  have b:j<5:=b;have:(j=2/\a.k≠2)\/j=3\/j=4:= A;rw [T.dI];rcases this with ⟨rfl,c⟩|rfl|rfl
  .rcases aZ with e|e
   .exact e
   .exact absurd e c
  .exact f
  .exact g
 ids x d:=by show x=0\/x=a.u\/x=a.k\/x=a.p\/x=a.o\/5<=x;have d:x=1\/x=k\/x=a.p\/x=a.o:=d;omega
def gG{h:T}{f:Nat}{kv ov:J}{ay ak ax:Bytes}{D a1 K P O:aa}{es:List aP}{a:b3}(aw:h.M=n)(j:5<=n)
 (e0:h.get 0=some (bJ 0 f 1 kv pv pas ov ty)) (aQ:h.get 1=some (bT ay j0 j1 j2 j3 uty)) (aZ:h.get 2=some K\/a.k=2) (c:h.get 3=some P) (d:h.get 4=some O) (e:ht h 0 k kv ks ak) (l:k<n)
 (ae:hb (T.of [D,a1,K,P,O]) 0 a.p pv ax) (i:hv (T.of [D,a1,K,P,O]) 0 a.o ov es) (b:a.u=1/\(a.k=0\/a.k=2)/\(a.p=0\/a.p=3)/\(a.o=0\/a.o=4)) (g:k=0\/5<=k\/(k=2/\a.k=2)) :
 dr h 0 ⟨1,k,a.p,a.o⟩ f pas ks ak ay ax es/\Fr (T.of [D,a1,K,P,O]) h 0 a ⟨1,k,a.p,a.o⟩ :=
 ⟨Qx e0 aQ c d e A A ae i b.2.2.1 b.2.2.2 A,Qy b aZ c d A g⟩
def w0(h:T):ht h 0 0 (.slice none 0 0) .nil []:=⟨rfl,rfl,rfl⟩
def k9{h:T}{ad f:Nat}{l:Bytes}{es:List J}(a:k≠0)(aw:n=l.length)(he:es=aE l)(e:h.get k=some (b4 es 1 ad m f b')):ht h 0 k (.aB k ad 0 n n) (.grown []) l:=by subst aw;subst he;exact⟨a,ad,m,f,rfl,e⟩
def A3{l h Z:T}{ca:J}{e:aP}{a:b3}{f:Nat}{ak ay ax:Bytes}{es:List aP}(t:cK h ⟨0,0,0,0,6⟩ ca Z)(g:dr h 0 I f pas ks ak ay ax es)(cd:Fr l h 0 a I)(he:ca=bp e)(d:ay.length<=4) :
 ∃aH,dr Z 0 aH (b9 .ground) pas .nil [] ay ax (es++[e])/\Fr l Z 0 a aH:=by
 obtain⟨aH,c,b⟩:=t.all I f pas ks ak ay ax es e he g d;exact⟨aH,c,cd.trans b⟩
def A4{h:T}{ca:J}{e:aP}{f:Nat}{ak ay ax:Bytes}{es:List aP}(g:dr h 0 I f pas ks ak ay ax es)(he:ca=bp e)(a:es.length<2^30)(b:ay.length<=4):cJ h ⟨0,0,0,0,6⟩ ca :=
 ⟨rfl,I,f,pas,ks,ak,ay,ax,es,e,he,g,a,b⟩
def jS{a b:Nat}{p:Prop}(h:a<=b)(k:p):_root_.cond (Nat.ble a b) p False:=by rw [Nat.ble_eq.mpr h];exact k
abbrev w1(a:Int):J:=J.str [UInt8.ofNat (a.toNat)]
abbrev GC:J:=J.slice (b5 98) 1 1
abbrev dy(a:Nat):J:= .func (.func a) [J.aT 0] []
abbrev oo:J:= .func (.func 90) [J.aT 0] []
abbrev rn:b7:=(.al 6024 (.al 9001 .nil .nil)<|he 12004<|.al 1007 .nil .nil)
abbrev hx(a b c d f e:Int):aa:=(aa.an ([.av (↑(List.getD ((bX a b c d f e).1) 0 0):Int)]) 1 false (some (21,0)))
abbrev A5(a b c d e:Int):J:=J.agg [.ac a,.ac b,.ac c,.ac d,.V e]
abbrev h4(a b c d f e:Int):J:=J.agg [.bA 1,.av (↑(List.getD ((bX a b c d f e).1) 0 0):Int),.ac 0,.V 0,.V 0,.str []]
abbrev rp(a b c d f e:Int):aa:=⟨[.av (↑(List.getD ((bX a b c d f e).1) 0 0):Int),.av (↑(List.getD ((bX a b c d f e).1) 1 0):Int)],1,false,false,1,0,1,some (21,0)⟩
abbrev rq(a:Int):J:=J.agg [.bA (aP.kind (Keys.control (a.toNat))),.av (aP.code (Keys.control (a.toNat))),.ac (aP.cI (Keys.control (a.toNat))),.V (aP.x (Keys.control (a.toNat))),.V (aP.y (Keys.control (a.toNat))),.str (Keys.control (a.toNat)).6]
abbrev pP(a b c d f e:Int):J:=J.agg [.ac (bS ((bX a b c d f e).2) 0 a),.ac (bS ((bX a b c d f e).2) 1 b),.ac (bS ((bX a b c d f e).2) 2 c),.ac (bS ((bX a b c d f e).2) 3 d),.V (↑(((bX a b c d f e).2).length):Int)]
abbrev tp(a:Int):aa:=(aL (rq a))
abbrev GD(b a:J):J:=J.agg [oo,GC,b,.aJ,.ptr (some ⟨1,0,0,0,5⟩),a]
abbrev A6(a:Nat)(c b:J):J:=J.agg [(dy a),.slice none 0 0,c,.aJ,.ptr (some ⟨1,0,0,0,5⟩),b]
abbrev pQ(f:bw)(a b c d e:Int):aa:=⟨[(A5 a b c d e)],5,true,false,0,0,0,f⟩
abbrev iT(g:bw)(a b c d f e:Int):aa:=⟨[(pP a b c d f e)],5,true,false,0,0,0,g⟩
abbrev la(a:Int):J:=J.agg [.bA 7,.av 0,.ac 0,.V 0,.V 0,(w1 a)]
abbrev A7(c b:J)(a:bw):aa:=⟨[.agg [oo,.slice (b5 97) 1 1,c,.aJ,.ptr (some ⟨1,0,0,0,5⟩),b]],6,true,false,0,0,0,a⟩
abbrev tq(c b:J)(a:bw):aa:=⟨[(GD c b)],6,true,false,0,0,0,a⟩
abbrev oq(b:Nat)(d c:J)(a:bw):aa:=⟨[(A6 b d c)],6,true,false,0,0,0,a⟩
abbrev tr(l k:J)(j m:bw)(g i h:aa)(b c d e f a:Int):T:=(af 119 [(0,(tq l k j)),(1,(iT m b c d e f a)),(2,g),(3,i),(4,h),(42,(cx a)),(45,(hx b c d e f a)),(97,aa.an [.ac a] 1 true),(98,aa.an [.ac a] 1 false (some (5,0)))])
abbrev tt(l k:J)(j m:bw)(g i h:aa)(b c d e f a:Int):T:=(af 120 [(0,(tq l k j)),(1,(iT m b c d e f a)),(2,g),(3,i),(4,h),(42,(cx a)),(45,(hx b c d e f a)),(97,aa.an [.ac a] 1 true),(98,aa.an [.ac a] 1 false (some (5,0)))])
abbrev tu(l k:J)(j m:bw)(g i h:aa)(b c d e f a:Int):T:=(af 119 [(0,(tq l k j)),(1,(iT m b c d e f a)),(2,g),(3,i),(4,h),(42,(cx a)),(45,(rp b c d e f a)),(86,aa.an [.ac a] 1 true),(97,aa.an [.ac a] 1 true),(98,aa.an [.ac a] 1 false (some (5,0)))])
abbrev tv(l k:J)(j m:bw)(g i h:aa)(b c d e f a:Int):T:=(af 120 [(0,(tq l k j)),(1,(iT m b c d e f a)),(2,g),(3,i),(4,h),(42,(cx a)),(45,(rp b c d e f a)),(86,aa.an [.ac a] 1 true),(97,aa.an [.ac a] 1 true),(98,aa.an [.ac a] 1 false (some (5,0)))])
def Qz(r:Nat)(m l:J)(j n:bw)(g i h:aa)(b c d e f a:Int)(p:aU)(s:(a<32->(0<=a/\(a<32\/a=127))/\(a=27->False)/\cJ (af 24 [(0,(oq r m l j)),(1,(pQ n b c d e f)),(2,g),(3,i),(4,h),(13,(tp a))]) bH ((rq a))/\∀(q:T),cK (af 24 [(0,(oq r m l j)),(1,(pQ n b c d e f)),(2,g),(3,i),(4,h),(13,(tp a))]) bH ((rq a)) q->cc 5 (q.M) (p .bZ q))/\(¬a<32->(a=127->(0<=a/\(a<32\/a=127))/\(a=27->False)/\cJ (af 24 [(0,(oq r m l j)),(1,(pQ n b c d e f)),(2,g),(3,i),(4,h),(13,(tp a))]) bH ((rq a))/\∀(q:T),cK (af 24 [(0,(oq r m l j)),(1,(pQ n b c d e f)),(2,g),(3,i),(4,h),(13,(tp a))]) bH ((rq a)) q->cc 5 (q.M) (p .bZ q))/\(¬a=127->((bX b c d e f a).1=[]->gE b c d e f a/\(0<(↑(((bX b c d e f a).2).length):Int)->p .bZ (af 75 [(0,⟨[.agg [oo,.slice (b5 71) 1 1,m,.aJ,.ptr (some ⟨1,0,0,0,5⟩),l]],6,true,false,0,0,0,j⟩),(1,(iT n b c d e f a)),(2,g),(3,i),(4,h),(42,(cx a)),(70,aa.an [.ac a] 1 true),(71,aa.an [.ac a] 1 false (some (5,0)))]))/\(¬0<(↑(((bX b c d e f a).2).length):Int)->1<1099511627776/\(valid [UInt8.ofNat (a.toNat)]=true->1<1099511627776/\(valid [UInt8.ofNat (a.toNat)]=true->False)/\(valid [UInt8.ofNat (a.toNat)]=false->cJ (af 119 [(0,(A7 m l j)),(1,(iT n b c d e f a)),(2,g),(3,i),(4,h),(42,(cx a)),(85,aa.an [.ac a] 1 true),(96,aa.an [.ac a] 1 true),(97,aa.an [.ac a] 1 false (some (5,0)))]) bH ((la a))/\∀(k:T),cK (af 119 [(0,(A7 m l j)),(1,(iT n b c d e f a)),(2,g),(3,i),(4,h),(42,(cx a)),(85,aa.an [.ac a] 1 true),(96,aa.an [.ac a] 1 true),(97,aa.an [.ac a] 1 false (some (5,0)))]) bH ((la a)) k->cc 20 (k.M) (cc 5 (k.M) (p .bZ k))))/\(valid [UInt8.ofNat (a.toNat)]=false->((↑(((bX b c d e f a).2).length):Int)=0->False)/\(¬(↑(((bX b c d e f a).2).length):Int)=0->False))))/\(¬(bX b c d e f a).1=[]->(((bX b c d e f a).1).length=1->gE b c d e f a/\(0<(↑(((bX b c d e f a).2).length):Int)->1<1099511627776/\(valid [UInt8.ofNat (a.toNat)]=true->cJ (tr m l j n g i h b c d e f a) bH ((h4 b c d e f a))/\∀(o:T),cK (tr m l j n g i h b c d e f a) bH ((h4 b c d e f a)) o->cc 20 (o.M) (cc 5 (o.M) (p .bZ o)))/\(valid [UInt8.ofNat (a.toNat)]=false->cJ (tt m l j n g i h b c d e f a) bH ((la a))/\∀(k:T),cK (tt m l j n g i h b c d e f a) bH ((la a)) k->cc 20 (k.M) (cc 5 (k.M) (p .bZ k))))/\(¬0<(↑(((bX b c d e f a).2).length):Int)->1<1099511627776/\(valid [UInt8.ofNat (a.toNat)]=true->cJ (tr m l j n g i h b c d e f a) bH ((h4 b c d e f a))/\∀(o:T),cK (tr m l j n g i h b c d e f a) bH ((h4 b c d e f a)) o->cc 20 (o.M) (cc 5 (o.M) (p .bZ o)))/\(valid [UInt8.ofNat (a.toNat)]=false->cJ (tt m l j n g i h b c d e f a) bH ((la a))/\∀(k:T),cK (tt m l j n g i h b c d e f a) bH ((la a)) k->cc 20 (k.M) (cc 5 (k.M) (p .bZ k)))))/\(¬((bX b c d e f a).1).length=1->gE b c d e f a/\(0<(↑(((bX b c d e f a).2).length):Int)->1<1099511627776/\(valid [UInt8.ofNat (a.toNat)]=true->1<1099511627776/\(valid [UInt8.ofNat (a.toNat)]=true->cJ (tu m l j n g i h b c d e f a) bH ((h4 b c d e f a))/\∀(o:T),cK (tu m l j n g i h b c d e f a) bH ((h4 b c d e f a)) o->cc 20 (o.M) (cc 5 (o.M) (p .bZ o)))/\(valid [UInt8.ofNat (a.toNat)]=false->cJ (tv m l j n g i h b c d e f a) bH ((la a))/\∀(k:T),cK (tv m l j n g i h b c d e f a) bH ((la a)) k->cc 20 (k.M) (cc 5 (k.M) (p .bZ k))))/\(valid [UInt8.ofNat (a.toNat)]=false->((↑(((bX b c d e f a).2).length):Int)=0->False)/\(¬(↑(((bX b c d e f a).2).length):Int)=0->False)))/\(¬0<(↑(((bX b c d e f a).2).length):Int)->1<1099511627776/\(valid [UInt8.ofNat (a.toNat)]=true->1<1099511627776/\(valid [UInt8.ofNat (a.toNat)]=true->cJ (tu m l j n g i h b c d e f a) bH ((h4 b c d e f a))/\∀(o:T),cK (tu m l j n g i h b c d e f a) bH ((h4 b c d e f a)) o->cc 20 (o.M) (cc 5 (o.M) (p .bZ o)))/\(valid [UInt8.ofNat (a.toNat)]=false->cJ (tv m l j n g i h b c d e f a) bH ((la a))/\∀(k:T),cK (tv m l j n g i h b c d e f a) bH ((la a)) k->cc 20 (k.M) (cc 5 (k.M) (p .bZ k))))/\(valid [UInt8.ofNat (a.toNat)]=false->((↑(((bX b c d e f a).2).length):Int)=0->False)/\(¬(↑(((bX b c d e f a).2).length):Int)=0->False)))))))) :
 bl 60 [J.aT 0,.ac a] (T.of [bJ 0 r 1 (.slice none 0 0) m false l j,fN b c d e f n,g,i,h]) p :=
 bm wZ (.al 1 .nil<|.al 4 .nil<|he 6002<|.al 3006 (he 4004<|.al 4005 .nil rn)<|.al 3006 (he 4004<|.al 4005 (.al 9001 .nil .nil)<|.al 9001 .nil .nil)<|he 4004<|.al 4005 rn rn) s
abbrev A8:J:=J.slice (b5 2) 1 1
abbrev GF:J:=J.slice (b5 100) 2 2
abbrev GG(a:Int):J:=J.str [{toBitVec:= {toFin:=⟨27,Nat.mod_lt (Int.toNat (27)) (BitVec.ofNat._proof_1 8)⟩}},UInt8.ofNat (a.toNat)]
abbrev h5(a b c d f e:Int):J:=J.agg [.bA 1,.av (↑(List.getD ((bX a b c d f e).1) 0 0):Int),.ac 2,.V 0,.V 0,.str []]
abbrev rr(a:Int):J:=J.agg [.bA (aP.kind (Keys.control (a.toNat))),.av (aP.code (Keys.control (a.toNat))),.ac (bP .u8 (aP.cI (Keys.control (a.toNat))) (2)),.V (aP.x (Keys.control (a.toNat))),.V (aP.y (Keys.control (a.toNat))),.str (Keys.control (a.toNat)).6]
abbrev GH(a:Int):aa:=(aL (rr a))
abbrev GI(b a:J):J:=J.agg [oo,GF,b,.aJ,.ptr (some ⟨1,0,0,0,5⟩),a]
abbrev A9(a:Nat)(c b:J):J:=J.agg [(dy a),A8,c,.aJ,.ptr (some ⟨1,0,0,0,5⟩),b]
abbrev lb(a:Int):J:=J.agg [.bA 7,.av 0,.ac 0,.V 0,.V 0,(GG a)]
abbrev GJ(c b:J)(a:bw):aa:=⟨[.agg [oo,.slice (b5 99) 2 2,c,.aJ,.ptr (some ⟨1,0,0,0,5⟩),b]],6,true,false,0,0,0,a⟩
abbrev tw(c b:J)(a:bw):aa:=⟨[(GI c b)],6,true,false,0,0,0,a⟩
abbrev pR(b:Nat)(d c:J)(a:bw):aa:=⟨[(A9 b d c)],6,true,false,0,0,0,a⟩
abbrev A'(k j:J)(h l:bw)(c b:aa)(d e f g i a:Int):T:=(af 121 [(0,(GJ k j h)),(1,(iT l d e f g i a)),(2,aa.an [.ac 27] 1 true),(3,c),(4,b),(44,(cx a)),(87,aa.an [.ac a] 1 true),(98,aa.an [.ac a] 1 true),(99,aa.an [.ac 27,.ac a] 1 false (some (5,0)))])
abbrev tz(i:Nat)(l k:J)(h m:bw)(b a:aa)(c d e f j g:Int):T:=(af 29 [(0,(pR i l k h)),(1,(pQ m c d e f j)),(2,aa.an [.ac 27] 1 true),(3,b),(4,a),(13,(GH g))])
abbrev tA(k j:J)(i l:bw)(h g:aa)(b c d e f a:Int):T:=(af 121 [(0,(tw k j i)),(1,(iT l b c d e f a)),(2,aa.an [.ac 27] 1 true),(3,h),(4,g),(44,(cx a)),(47,(hx b c d e f a)),(99,aa.an [.ac a] 1 true),(100,aa.an [.ac 27,.ac a] 1 false (some (5,0)))])
abbrev tB(k j:J)(i l:bw)(h g:aa)(b c d e f a:Int):T:=(af 122 [(0,(tw k j i)),(1,(iT l b c d e f a)),(2,aa.an [.ac 27] 1 true),(3,h),(4,g),(44,(cx a)),(47,(hx b c d e f a)),(99,aa.an [.ac a] 1 true),(100,aa.an [.ac 27,.ac a] 1 false (some (5,0)))])
abbrev tC(k j:J)(i l:bw)(h g:aa)(b c d e f a:Int):T:=(af 121 [(0,(tw k j i)),(1,(iT l b c d e f a)),(2,aa.an [.ac 27] 1 true),(3,h),(4,g),(44,(cx a)),(47,(rp b c d e f a)),(88,aa.an [.ac a] 1 true),(99,aa.an [.ac a] 1 true),(100,aa.an [.ac 27,.ac a] 1 false (some (5,0)))])
abbrev tD(k j:J)(i l:bw)(h g:aa)(b c d e f a:Int):T:=(af 122 [(0,(tw k j i)),(1,(iT l b c d e f a)),(2,aa.an [.ac 27] 1 true),(3,h),(4,g),(44,(cx a)),(47,(rp b c d e f a)),(88,aa.an [.ac a] 1 true),(99,aa.an [.ac a] 1 true),(100,aa.an [.ac 27,.ac a] 1 false (some (5,0)))])
def QA(q:Nat)(l k:J)(i m:bw)(h g:aa)(b c d e f a:Int)(o:aU)(r:(a<32->(0<=a/\(a<32\/a=127))/\(a=27->False)/\True/\cJ (tz q l k i m h g b c d e f a) bH ((rr a))/\∀(p:T),cK (tz q l k i m h g b c d e f a) bH ((rr a)) p->cc 5 (p.M) (o .bZ p))/\(¬a<32->(a=127->(0<=a/\(a<32\/a=127))/\(a=27->False)/\True/\cJ (tz q l k i m h g b c d e f a) bH ((rr a))/\∀(p:T),cK (tz q l k i m h g b c d e f a) bH ((rr a)) p->cc 5 (p.M) (o .bZ p))/\(¬a=127->((bX b c d e f a).1=[]->gE b c d e f a/\(0<(↑(((bX b c d e f a).2).length):Int)->o .bZ (af 77 [(0,⟨[.agg [oo,.slice (b5 73) 2 2,l,.aJ,.ptr (some ⟨1,0,0,0,5⟩),k]],6,true,false,0,0,0,i⟩),(1,(iT m b c d e f a)),(2,aa.an [.ac 27] 1 true),(3,h),(4,g),(44,(cx a)),(72,aa.an [.ac a] 1 true),(73,aa.an [.ac 27,.ac a] 1 false (some (5,0)))]))/\(¬0<(↑(((bX b c d e f a).2).length):Int)->1<1099511627776/\(valid [UInt8.ofNat (a.toNat)]=true->1<1099511627776/\(valid [UInt8.ofNat (a.toNat)]=true->False)/\(valid [UInt8.ofNat (a.toNat)]=false->cJ (A' l k i m h g b c d e f a) bH ((lb a))/\∀(j:T),cK (A' l k i m h g b c d e f a) bH ((lb a)) j->cc 20 (j.M) (cc 5 (j.M) (o .bZ j))))/\(valid [UInt8.ofNat (a.toNat)]=false->((↑(((bX b c d e f a).2).length):Int)=0->False)/\(¬(↑(((bX b c d e f a).2).length):Int)=0->False))))/\(¬(bX b c d e f a).1=[]->(((bX b c d e f a).1).length=1->gE b c d e f a/\(0<(↑(((bX b c d e f a).2).length):Int)->1<1099511627776/\(valid [UInt8.ofNat (a.toNat)]=true->cJ (tA l k i m h g b c d e f a) bH ((h5 b c d e f a))/\∀(n:T),cK (tA l k i m h g b c d e f a) bH ((h5 b c d e f a)) n->cc 20 (n.M) (cc 5 (n.M) (o .bZ n)))/\(valid [UInt8.ofNat (a.toNat)]=false->cJ (tB l k i m h g b c d e f a) bH ((lb a))/\∀(j:T),cK (tB l k i m h g b c d e f a) bH ((lb a)) j->cc 20 (j.M) (cc 5 (j.M) (o .bZ j))))/\(¬0<(↑(((bX b c d e f a).2).length):Int)->1<1099511627776/\(valid [UInt8.ofNat (a.toNat)]=true->cJ (tA l k i m h g b c d e f a) bH ((h5 b c d e f a))/\∀(n:T),cK (tA l k i m h g b c d e f a) bH ((h5 b c d e f a)) n->cc 20 (n.M) (cc 5 (n.M) (o .bZ n)))/\(valid [UInt8.ofNat (a.toNat)]=false->cJ (tB l k i m h g b c d e f a) bH ((lb a))/\∀(j:T),cK (tB l k i m h g b c d e f a) bH ((lb a)) j->cc 20 (j.M) (cc 5 (j.M) (o .bZ j)))))/\(¬((bX b c d e f a).1).length=1->gE b c d e f a/\(0<(↑(((bX b c d e f a).2).length):Int)->1<1099511627776/\(valid [UInt8.ofNat (a.toNat)]=true->1<1099511627776/\(valid [UInt8.ofNat (a.toNat)]=true->cJ (tC l k i m h g b c d e f a) bH ((h5 b c d e f a))/\∀(n:T),cK (tC l k i m h g b c d e f a) bH ((h5 b c d e f a)) n->cc 20 (n.M) (cc 5 (n.M) (o .bZ n)))/\(valid [UInt8.ofNat (a.toNat)]=false->cJ (tD l k i m h g b c d e f a) bH ((lb a))/\∀(j:T),cK (tD l k i m h g b c d e f a) bH ((lb a)) j->cc 20 (j.M) (cc 5 (j.M) (o .bZ j))))/\(valid [UInt8.ofNat (a.toNat)]=false->((↑(((bX b c d e f a).2).length):Int)=0->False)/\(¬(↑(((bX b c d e f a).2).length):Int)=0->False)))/\(¬0<(↑(((bX b c d e f a).2).length):Int)->1<1099511627776/\(valid [UInt8.ofNat (a.toNat)]=true->1<1099511627776/\(valid [UInt8.ofNat (a.toNat)]=true->cJ (tC l k i m h g b c d e f a) bH ((h5 b c d e f a))/\∀(n:T),cK (tC l k i m h g b c d e f a) bH ((h5 b c d e f a)) n->cc 20 (n.M) (cc 5 (n.M) (o .bZ n)))/\(valid [UInt8.ofNat (a.toNat)]=false->cJ (tD l k i m h g b c d e f a) bH ((lb a))/\∀(j:T),cK (tD l k i m h g b c d e f a) bH ((lb a)) j->cc 20 (j.M) (cc 5 (j.M) (o .bZ j))))/\(valid [UInt8.ofNat (a.toNat)]=false->((↑(((bX b c d e f a).2).length):Int)=0->False)/\(¬(↑(((bX b c d e f a).2).length):Int)=0->False)))))))) :
 bl 60 [J.aT 0,.ac a] (T.of [bJ 0 q 1 (.slice (b5 2) 1 1) l false k i,fN b c d e f m,aa.an [.ac 27] 1 true,h,g]) o :=
 bm wZ (.al 1 (ab 3002 .nil)<|.al 4 (ab 3002 .nil)<|he 6002<|.al 3006 (he 4004<|.al 4005 .nil rn)<|.al 3006 (he 4004<|.al 4005 (.al 9001 .nil .nil)<|.al 9001 .nil .nil)<|he 4004<|.al 4005 rn rn) r
def kw{f b:Nat}{kv ov:J}{e:Bool}{a1 K P O:aa}{a:b3}{ak ay ax:Bytes}{es:List aP}(gs:dr (T.of [bJ 0 f 1 kv pv pas ov ty,a1,K,P,O]) 0 a b e ks ak ay ax es) :
 ht (T.of [bJ 0 f 1 kv pv pas ov ty,a1,K,P,O]) 0 a.k kv ks ak/\hb (T.of [bJ 0 f 1 kv pv pas ov ty,a1,K,P,O]) 0 a.p pv ax/\hv (T.of [bJ 0 f 1 kv pv pas ov ty,a1,K,P,O]) 0 a.o ov es:=by
 obtain⟨g,i,h,j,e0,c,ae,d⟩:=gs.ex;rw [T.dI]at e0;simp only [fR,a8,aa.an,aa.mk.injEq,fJ,J.agg.injEq,J.func.injEq,J.ptr.injEq,bB.mk.injEq,true_and,hE]at e0;obtain⟨⟨_,rfl,rfl,_,_,rfl⟩,rfl⟩:=e0;exact⟨c,ae,d⟩
def GK{l h:T}{ca:J}{e:aP}{b:b3}{f:Nat}{ak ay ax:Bytes}{es:List aP}{aN bx:Nat}(aw:h.M=n)(k:aN<=n)(m:bx<=n)(a:dr h 0 I f pas ks ak ay ax es/\Fr l h 0 b I)(he:ca=bp e)(j:es.length<2^30)(c:ay.length<=4)
 {R:T->Prop} (i:∀Z aH,dr Z 0 aH (b9 .ground) pas .nil [] ay ax (es++[e])->Fr l Z 0 b aH->R Z):cJ h ⟨0,0,0,0,6⟩ ca/\∀Z,cK h ⟨0,0,0,0,6⟩ ca Z->_root_.cond (Nat.ble aN Z.M) (_root_.cond (Nat.ble bx Z.M) (R Z) False) False:=by
 refine⟨A4 a.1 he j c,λZ t=> ?_⟩;have:=t.M;obtain⟨aH,g,d⟩:=A3 t a.1 a.2 he c;exact jS A (jS A (i Z aH g d))
def pS{l h:T}{ca:J}{e:aP}{b:b3}{f:Nat}{ak ay ax:Bytes}{es:List aP}{aN:Nat}(aw:h.M=n)(k:aN<=n)(a:dr h 0 I f pas ks ak ay ax es/\Fr l h 0 b I)(he:ca=bp e)(j:es.length<2^30)(c:ay.length<=4)
 {R:T->Prop} (i:∀Z aH,dr Z 0 aH (b9 .ground) pas .nil [] ay ax (es++[e])->Fr l Z 0 b aH->R Z):cJ h ⟨0,0,0,0,6⟩ ca/\∀Z,cK h ⟨0,0,0,0,6⟩ ca Z->_root_.cond (Nat.ble aN Z.M) (R Z) False:=by
 refine⟨A4 a.1 he j c,λZ t=> ?_⟩;have:=t.M;obtain⟨aH,g,d⟩:=A3 t a.1 a.2 he c;exact jS A (i Z aH g d)
def lV{l h:T}{a:b3}{s:bI}{es:List aP}(b:dr h 0 I (b9 s.nx) (decide (s.nx=.cD)) ks s.ak s.ay s.ax es/\Fr l h 0 a I)(c:mQ s.nx ks s.ak):∃aH,b1 h 0 aH s es/\Fr l h 0 a aH:=⟨I,⟨ks,b.1,c⟩,b.2⟩
def tE{h:T}{ay ax:Bytes}{es:List aP}(g:dr h 0 I (b9 .ground) false .nil [] ay ax es):b1 h 0 I ⟨.ground,[],ay,ax⟩ es:=⟨.nil,g,trivial⟩
variable {c:UInt8}
def GL(h:c≠27):c.toNat≠27:=λe=>h (fz.1 e)
def QB(ax:Bytes)(a:c≠27)(h:c.toNat<32\/c.toNat=127):Keys.ground ⟨.ground,[],[],ax⟩ c=(⟨.ground,[],[],ax⟩,[control c.toNat]):=by simp [Keys.ground,a,h2,h,tell]
def QC(ax:Bytes)(a:c≠27)(h:¬(c.toNat<32\/c.toNat=127))(b:bM [] c=([],[c])):Keys.ground ⟨.ground,[],[],ax⟩ c=(⟨.cp,[c],[c],ax⟩,[]):=by simp [Keys.ground,a,h2,h,e5,b]
def QD(ax:Bytes)(a:c≠27)(h:¬(c.toNat<32\/c.toNat=127))(b:bM [] c=([r],[])):Keys.ground ⟨.ground,[],[],ax⟩ c=(⟨.ground,[],[],ax⟩,[if valid [c]=true then eb r else dc [c]]):=by by_cases d:valid [c]=true<;>simp [Keys.ground,a,h2,h,e5,b,at',d,tell]
def GM(c:UInt8):bM [] c=([],[c])\/ ∃r,bM [] c=([r],[]):=by
 rcases gR c.toNat with h|h|h|h|h
 .exact .inr ⟨_,jq c h⟩
 .exact .inr ⟨_,jr c h⟩
 .exact .inl (dT c 0 h)
 .exact .inl (dT c 1 h)
 .exact .inl (dT c 2 h)
def GN(j0 j1 j2 j3:Int)(c:UInt8):bX j0 j1 j2 j3 0 c.toNat=bM [] c:=by unfold bX k7;rw [rm];rfl
def GO(j0 j1 j2 j3:Int)(c:UInt8):gE j0 j1 j2 j3 0 c.toNat :=
 ⟨A,A,A,A,by have:=c.toNat_lt;omega,.inl rfl⟩
def GP:1<1099511627776:= aC
def lW(c:UInt8):UInt8.ofNat (Int.toNat (c.toNat:Int))=c:= au
def QE{f:Nat}{ov:J}{K P O:aa}{a:b3}{ax:Bytes}{es:List aP}(gs:dr (T.of [bJ 0 f 1 (.slice none 0 0) pv false ov ty,bT [] j0 j1 j2 j3 uty,K,P,O]) 0 a f false .nil [] [] ax es)
 (g:a.u=1/\(a.k=0\/a.k=2)/\(a.p=0\/a.p=3)/\(a.o=0\/a.o=4)) (c:UInt8) (d:c≠27) (w:es.length<2^30) :
 ∃Z,be 60 [.ptr (some ⟨0,0,0,0,6⟩),.ac c.toNat] (T.of [bJ 0 f 1 (.slice none 0 0) pv false ov ty,bT [] j0 j1 j2 j3 uty,K,P,O]) (.tuple []) Z /\
  ∃aH,b1 Z 0 aH (Keys.ground ⟨.ground,[],[],ax⟩ c).1 (es++(Keys.ground ⟨.ground,[],[],ax⟩ c).2)/\Fr (T.of [bJ 0 f 1 (.slice none 0 0) pv false ov ty,bT [] j0 j1 j2 j3 uty,K,P,O]) Z 0 a aH:=by
 obtain⟨N,ae,i⟩:=kw gs;have aj:=c.toNat_lt;have aw:=GL d
 obtain ⟨v,Z,G,rfl,q⟩:=Qz f pv ov ty uty K P O j0 j1 j2 j3 0 c.toNat (λv Z=>v=.tuple []/\∃aH,b1 Z 0 aH (Keys.ground ⟨.ground,[],[],ax⟩ c).1 (es++(Keys.ground ⟨.ground,[],[],ax⟩ c).2)/\Fr (T.of [bJ 0 f 1 (.slice none 0 0) pv false ov ty,bT [] j0 j1 j2 j3 uty,K,P,O]) Z 0 a aH) (by
  delta la w1 tv rp cx iT pP tq GD GC oo h4 tu tt hx tr A7 rq tp pQ A5 oq A6 dy
  have y:(c.toNat<32\/c.toNat=127)-> ∀Z aH,dr Z 0 aH (b9 .ground) false .nil [] [] ax (es++[control c.toNat])->Fr (T.of [bJ 0 f 1 (.slice none 0 0) pv false ov ty,bT [] j0 j1 j2 j3 uty,K,P,O]) Z 0 a aH->J.tuple []=.tuple []/\∃aH,b1 Z 0 aH (Keys.ground ⟨.ground,[],[],ax⟩ c).1 (es++(Keys.ground ⟨.ground,[],[],ax⟩ c).2)/\Fr (T.of [bJ 0 f 1 (.slice none 0 0) pv false ov ty,bT [] j0 j1 j2 j3 uty,K,P,O]) Z 0 a aH :=
   λF Z aH t j=>⟨rfl,aH,by rw [QB ax d F];exact tE t,j⟩
  refine⟨λY=>⟨A,A,?_⟩,λY=>⟨λag=>⟨A,A,?_⟩,λag=> ?_⟩⟩
  .exact pS (n:=24) (e:=control c.toNat) (I:=⟨1,0,a.p,a.o⟩) (f:=f) (pas:=false) (ks:= .nil) (ak:=[]) (ay:=[]) rfl aC (gG (n:=24) (j0:=j0) (j1:=j1) (j2:=j2) (j3:=j3) (kv:= .slice none 0 0) (pv:=pv) (ov:=ov) (ty:=ty) (uty:=uty) rfl aC ao ao (.inl ao) ao ao (w0 _) aC ae i g (.inl rfl)) (by rw [fS];rfl) w aC (y A)
  .exact pS (n:=24) (e:=control c.toNat) (I:=⟨1,0,a.p,a.o⟩) (f:=f) (pas:=false) (ks:= .nil) (ak:=[]) (ay:=[]) rfl aC (gG (n:=24) (j0:=j0) (j1:=j1) (j2:=j2) (j3:=j3) (kv:= .slice none 0 0) (pv:=pv) (ov:=ov) (ty:=ty) (uty:=uty) rfl aC ao ao (.inl ao) ao ao (w0 _) aC ae i g (.inl rfl)) (by rw [fS];rfl) w aC (y A)
  .have z:¬(c.toNat<32\/c.toNat=127):= A;rw [GN,lW];have pre:=GO j0 j1 j2 j3 c;rcases GM c with b|⟨r,b⟩
   .rw [b];refine⟨λ_=>⟨pre,λ_=>⟨rfl,?_⟩,λe=>absurd au e⟩,λe=>absurd rfl e⟩;rw [QC ax d z b,gy]
    exact lV (s:=⟨.cp,[c],[c],ax⟩) (gG (n:=75) (k:=71) (j0:=j0) (j1:=j1) (j2:=j2) (j3:=j3) (kv:= .aB 71 0 0 1 1) (pv:=pv) (ov:=ov) (ty:=ty) (uty:=uty) rfl aC ao ao (.inl ao) ao ao
     (k9 (es:=[.ac c.toNat]) (ad:=0) (m:=0) (f:=0) aC rfl rfl ao) aC ae i g (.inr (.inl aC))) (by simp [mQ])
   .rw [b]
    have one:∀(n:Nat)(h:T)(ca:J)(e:aP),h.M=n->75<=n->h.get 0=some (bJ 0 90 1 (.aB 98 0 0 1 1) pv false ov ty)->h.get 1=some (bT [] j0 j1 j2 j3 uty)->h.get 2=some K->h.get 3=some P->h.get 4=some O->h.get 98=some (aa.an [.ac c.toNat] 1 false b')->98<n->ca=bp e ->
     (if valid [c]=true then eb r else dc [c])=e ->
     cJ h ⟨0,0,0,0,6⟩ ca/\∀Z,cK h ⟨0,0,0,0,6⟩ ca Z->_root_.cond (Nat.ble 20 Z.M) (_root_.cond (Nat.ble 5 Z.M) (J.tuple []=.tuple []/\∃aH,b1 Z 0 aH (Keys.ground ⟨.ground,[],[],ax⟩ c).1 (es++(Keys.ground ⟨.ground,[],[],ax⟩ c).2)/\Fr (T.of [bJ 0 f 1 (.slice none 0 0) pv false ov ty,bT [] j0 j1 j2 j3 uty,K,P,O]) Z 0 a aH) False) False:=by
     intro n h ca e aw L e0 aQ aZ B C D E he H;rw [QD ax d z b,H];exact GK aw A A (gG (k:=98) aw A e0 aQ (.inl aZ) B C (k9 (l:=[c]) aC rfl rfl D) E ae i g (.inr (.inl aC))) he w aC λZ aH t j=>⟨rfl,lV (s:=⟨.ground,[],[],ax⟩) ⟨t,j⟩ trivial⟩
    refine⟨λe=>absurd e au,λ_=>⟨λ_=>⟨pre,λe=>absurd e au,λ_=>⟨GP,λx=> ?_,λx=> ?_⟩⟩,λe=>absurd rfl e⟩⟩
    .exact one 119 _ _ (eb r) rfl aC ao ao ao ao ao ao aC rfl (by rw [az x])
    .exact one 120 _ _ (dc [c]) rfl aC ao ao ao ao ao ao aC rfl (by rw [ai (by rw [x];decide)]))
 exact⟨Z,G,q⟩
def pT(e:aP):aP:= {e with cI:=e.cI+2}
def QF(n:Nat):(control n).cI=0\/(control n).cI=4:=by
 unfold Keys.control
 repeat' split
 all_goals simp [dp,eb]
def GQ(n:Nat):J.agg [.bA (control n).kind,.av (control n).code,.ac (bP .u8 (control n).cI 2),.V (control n).x,.V (control n).y,.str (control n).text]=bp (pT (control n)):=by unfold bp pT;rcases QF n with h|h<;>rw [h]<;>rfl
def QG(ax:Bytes)(h:c.toNat<32\/c.toNat=127):Keys.plain ⟨.cQ,[27],[],ax⟩ c=(⟨.ground,[],[],ax⟩,[pT (control c.toNat)]):=by simp [Keys.plain,h2,h,tell,pT]
def QH(ax:Bytes)(h:¬(c.toNat<32\/c.toNat=127))(a:bM [] c=([],[c])):Keys.plain ⟨.cQ,[27],[],ax⟩ c=(⟨.cp,[27,c],[c],ax⟩,[]):=by simp [Keys.plain,h2,h,e5,a]
def QI(ax:Bytes)(h:¬(c.toNat<32\/c.toNat=127))(a:bM [] c=([r],[])):Keys.plain ⟨.cQ,[27],[],ax⟩ c=(⟨.ground,[],[],ax⟩,[if valid [c]=true then eb r 2 else dc [27,c]]):=by by_cases b:valid [c]=true<;>simp [Keys.plain,h2,h,e5,a,at',b,tell]
def QJ{f:Nat}{ov:J}{P O:aa}{a:b3}{ax:Bytes}{es:List aP}(gs:dr (T.of [bJ 0 f 1 (.aB 2 0 0 1 1) pv false ov ty,bT [] j0 j1 j2 j3 uty,aa.an [.ac 27] 1 true,P,O]) 0 a f false .one [27] [] ax es)
 (d:a.u=1/\(a.k=0\/a.k=2)/\(a.p=0\/a.p=3)/\(a.o=0\/a.o=4)) (c:UInt8) (F:c≠27) (t:es.length<2^30) :
 ∃Z,be 60 [.ptr (some ⟨0,0,0,0,6⟩),.ac c.toNat] (T.of [bJ 0 f 1 (.aB 2 0 0 1 1) pv false ov ty,bT [] j0 j1 j2 j3 uty,aa.an [.ac 27] 1 true,P,O]) (.tuple []) Z /\
  ∃aH,b1 Z 0 aH (Keys.plain ⟨.cQ,[27],[],ax⟩ c).1 (es++(Keys.plain ⟨.cQ,[27],[],ax⟩ c).2)/\Fr (T.of [bJ 0 f 1 (.aB 2 0 0 1 1) pv false ov ty,bT [] j0 j1 j2 j3 uty,aa.an [.ac 27] 1 true,P,O]) Z 0 a aH:=by
 obtain⟨L,ae,g⟩:=kw gs;have y:a.k=2:=by have:=L.1;omega
 have aj:=c.toNat_lt;have aw:=GL F
 obtain ⟨v,Z,H,rfl,q⟩:=QA f pv ov ty uty P O j0 j1 j2 j3 0 c.toNat (λv Z=>v=.tuple []/\∃aH,b1 Z 0 aH (Keys.plain ⟨.cQ,[27],[],ax⟩ c).1 (es++(Keys.plain ⟨.cQ,[27],[],ax⟩ c).2)/\Fr (T.of [bJ 0 f 1 (.aB 2 0 0 1 1) pv false ov ty,bT [] j0 j1 j2 j3 uty,aa.an [.ac 27] 1 true,P,O]) Z 0 a aH) (by
  delta lb GG tD rp cx iT pP tw GI GF oo h5 tC tB hx tA A' GJ rr tz GH pQ A5 pR A9 A8 dy
  have x:(c.toNat<32\/c.toNat=127)-> ∀Z aH,dr Z 0 aH (b9 .ground) false .nil [] [] ax (es++[pT (control c.toNat)])->Fr (T.of [bJ 0 f 1 (.aB 2 0 0 1 1) pv false ov ty,bT [] j0 j1 j2 j3 uty,aa.an [.ac 27] 1 true,P,O]) Z 0 a aH->J.tuple []=.tuple []/\∃aH,b1 Z 0 aH (Keys.plain ⟨.cQ,[27],[],ax⟩ c).1 (es++(Keys.plain ⟨.cQ,[27],[],ax⟩ c).2)/\Fr (T.of [bJ 0 f 1 (.aB 2 0 0 1 1) pv false ov ty,bT [] j0 j1 j2 j3 uty,aa.an [.ac 27] 1 true,P,O]) Z 0 a aH :=
   λG Z aH j i=>⟨rfl,aH,by rw [QG ax G];exact tE j,i⟩
  refine⟨λY=>⟨A,A,trivial,?_⟩,λY=>⟨λag=>⟨A,A,trivial,?_⟩,λag=> ?_⟩⟩
  .exact pS (n:=29) (e:=pT (control c.toNat)) (I:=⟨1,2,a.p,a.o⟩) (f:=f) (pas:=false) (ks:= .one) (ak:=[27]) (ay:=[]) rfl aC (gG (n:=29) (j0:=j0) (j1:=j1) (j2:=j2) (j3:=j3) (kv:= .aB 2 0 0 1 1) (pv:=pv) (ov:=ov) (ty:=ty) (uty:=uty) rfl aC ao ao (.inl ao) ao ao ⟨aC,rfl,ao,rfl⟩ aC ae g d (.inr (.inr ⟨rfl,y⟩))) (by rw [fS];exact GQ _) t aC (x A)
  .exact pS (n:=29) (e:=pT (control c.toNat)) (I:=⟨1,2,a.p,a.o⟩) (f:=f) (pas:=false) (ks:= .one) (ak:=[27]) (ay:=[]) rfl aC (gG (n:=29) (j0:=j0) (j1:=j1) (j2:=j2) (j3:=j3) (kv:= .aB 2 0 0 1 1) (pv:=pv) (ov:=ov) (ty:=ty) (uty:=uty) rfl aC ao ao (.inl ao) ao ao ⟨aC,rfl,ao,rfl⟩ aC ae g d (.inr (.inr ⟨rfl,y⟩))) (by rw [fS];exact GQ _) t aC (x A)
  .have z:¬(c.toNat<32\/c.toNat=127):= A;rw [GN,lW];have pre:=GO j0 j1 j2 j3 c;rcases GM c with b|⟨r,b⟩
   .rw [b];refine⟨λ_=>⟨pre,λ_=>⟨rfl,?_⟩,λe=>absurd au e⟩,λe=>absurd rfl e⟩;rw [QH ax z b,gy]
    exact lV (s:=⟨.cp,[27,c],[c],ax⟩) (gG (n:=77) (k:=73) (j0:=j0) (j1:=j1) (j2:=j2) (j3:=j3) (kv:= .aB 73 0 0 2 2) (pv:=pv) (ov:=ov) (ty:=ty) (uty:=uty) rfl aC ao ao (.inl ao) ao ao
     (k9 (es:=[.ac 27,.ac c.toNat]) (ad:=0) (m:=0) (f:=0) aC rfl rfl ao) aC ae g d (.inr (.inl aC))) (by simp [mQ])
   .rw [b]
    have one:∀(n:Nat)(h:T)(ca:J)(e:aP),h.M=n->77<=n->h.get 0=some (bJ 0 90 1 (.aB 100 0 0 2 2) pv false ov ty)->h.get 1=some (bT [] j0 j1 j2 j3 uty)->h.get 2=some (aa.an [.ac 27] 1 true)->h.get 3=some P->h.get 4=some O->h.get 100=some (aa.an [.ac 27,.ac c.toNat] 1 false b')->100<n->ca=bp e ->
     (if valid [c]=true then eb r 2 else dc [27,c])=e ->
     cJ h ⟨0,0,0,0,6⟩ ca/\∀Z,cK h ⟨0,0,0,0,6⟩ ca Z->_root_.cond (Nat.ble 20 Z.M) (_root_.cond (Nat.ble 5 Z.M) (J.tuple []=.tuple []/\∃aH,b1 Z 0 aH (Keys.plain ⟨.cQ,[27],[],ax⟩ c).1 (es++(Keys.plain ⟨.cQ,[27],[],ax⟩ c).2)/\Fr (T.of [bJ 0 f 1 (.aB 2 0 0 1 1) pv false ov ty,bT [] j0 j1 j2 j3 uty,aa.an [.ac 27] 1 true,P,O]) Z 0 a aH) False) False:=by
     intro n h ca e aw N e0 aQ aZ B C D E he K;rw [QI ax z b,K];exact GK aw A A (gG (k:=100) aw A e0 aQ (.inl aZ) B C (k9 (l:=[27,c]) aC rfl rfl D) E ae g d (.inr (.inl aC))) he t aC λZ aH j i=>⟨rfl,lV (s:=⟨.ground,[],[],ax⟩) ⟨j,i⟩ trivial⟩
    refine⟨λe=>absurd e au,λ_=>⟨λ_=>⟨pre,λe=>absurd e au,λ_=>⟨GP,λw=> ?_,λw=> ?_⟩⟩,λe=>absurd rfl e⟩⟩
    .exact one 121 _ _ (eb r 2) rfl aC ao ao ao ao ao ao aC rfl (by rw [az w])
    .exact one 122 _ _ (dc [27,c]) rfl aC ao ao ao ao ao ao aC rfl (by rw [ai (by rw [w];decide)]))
 exact⟨Z,H,q⟩
def b1.lU{Z H':T}{r:Nat->Nat}(e:∀i b,Z.get i=some b->H'.get (r i)=some (b.aO r))(a:∀i j,r i=r j->i=j)(c:∀i,i<Z.M->r i<H'.M){s:bI}{es:List aP}(g:b1 Z d I s es):b1 H' (r d) (I.map r) s es:=by obtain⟨ks,g,hs⟩:=g;exact⟨ks,g.lU e a c,hs⟩
def pU{fn:FuncId}{s f:bI}{es e:List aP}
 (small:∀ks kv pv ov ty uty j0 j1 j2 j3 K P O b,mQ s.nx ks s.ak->dr (T.of [bJ 0 (b9 s.nx) 1 kv pv (decide (s.nx=.cD)) ov ty,bT s.ay j0 j1 j2 j3 uty,K,P,O]) 0 b (b9 s.nx) (decide (s.nx=.cD)) ks s.ak s.ay s.ax es->(b.u=1/\(b.k=0\/b.k=2)/\(b.p=0\/b.p=3)/\(b.o=0\/b.o=4)) ->
  ∃Z,be fn [.ptr (some ⟨0,0,0,0,6⟩),.ac c.toNat] (T.of [bJ 0 (b9 s.nx) 1 kv pv (decide (s.nx=.cD)) ov ty,bT s.ay j0 j1 j2 j3 uty,K,P,O]) (.tuple []) Z/\∃aH,b1 Z 0 aH f e/\Fr (T.of [bJ 0 (b9 s.nx) 1 kv pv (decide (s.nx=.cD)) ov ty,bT s.ay j0 j1 j2 j3 uty,K,P,O]) Z 0 b aH)
 {H:T}   (g:b1 H d I s es):∃H',be fn [.ptr (some ⟨d,0,0,0,6⟩),.ac c.toNat] H (.tuple []) H'/\∃aH,b1 H' d aH f e/\Fr H H' d I aH:=by
 obtain⟨ks,g,hs⟩:=g;exact g.lift (Q:=λh d I=>b1 h d I f e) (λa j=>by rw [cF.1 j];exact b0.int _ _) (b0.of rfl) (λZ H' r d I n l m q=>q.lU n l m) λkv pv ov ty uty j0 j1 j2 j3 K P O b gs i=>small ks kv pv ov ty uty j0 j1 j2 j3 K P O b hs gs i
def ot(s:bI)(c:UInt8):bI×List aP:=match s.nx with|.ground=>Keys.ground s c|_=>Keys.plain s c
def tF(s:bI)(c:UInt8):Prop:=s.ay=[]/\c≠27/\(s.nx=.ground\/s.nx=.cQ)
def QK{H:T}{s:bI}{es:List aP}(g:b1 H d I s es)(h:es.length<2^30)(l:tF s c):∃H',be 60 [.ptr (some ⟨d,0,0,0,6⟩),.ac c.toNat] H (.tuple []) H' /\
 ∃aH,b1 H' d aH (ot s c).1 (es++(ot s c).2)/\Fr H H' d I aH:=by
 refine pU ?_ g;intro ks kv pv ov ty uty j0 j1 j2 j3 K P O i hs gs f;obtain⟨b,ae,m⟩:=kw gs;obtain⟨nx,ak,ay,ax⟩:=s;obtain⟨Y,e,ag⟩:=l;simp only at Y ag hs gs b ae m⊢;subst Y;rcases ag with rfl|rfl
 .cases ks with
  |nil =>
   obtain⟨rfl,rfl,_⟩:=b;exact QE gs f c e h
  |one=>exact hs.elim
  |grown j=>exact hs.elim
 .cases ks with
  |one =>
   obtain⟨n,rfl,a,rfl⟩:=b;have:i.k=2:= A;rw [this,T.dI]at a;simp only [fR,hj,a8]at a;subst a;rw [this]at gs⊢;exact QJ gs f c e h
  |nil=>exact hs.elim
  |grown j=>exact hs.elim
def QL:∀args h a,hN (2^30-4) tF ot args h=some a->a.cG Tryz.prog cz 60 args h:=om λH d I s es c g e f b=>QK g A b
noncomputable def GR:dQ:=A2.add 60 (hN (2^30-4) tF ot)
def GS:dC Tryz.prog cz GR:=wZ.add QL
def QM(j:Nat)(h g:J)(f:bw)(e b d c:aa)(a:Int)(i:aU)(l:(a=27->i .bZ (af 19 [(0,⟨[.agg [.func (.func 59) [J.aT 0] [],.slice (b5 9) 1 1,h,.aJ,.ptr (some ⟨1,0,0,0,5⟩),g]],6,true,false,0,0,0,f⟩),(1,e),(2,b),(3,d),(4,c),(9,aa.an [.ac a] 1 true)]))/\(¬a=27->dA (2^30-4) tF (af 10 [(0,(oq j h g f)),(1,e),(2,b),(3,d),(4,c)]) bH a/\∀(k:T),dB ot (af 10 [(0,(oq j h g f)),(1,e),(2,b),(3,d),(4,c)]) bH a k->cc 5 (k.M) (i .bZ k))) :
 bl 30 [J.aT 0,.ac a] (T.of [bJ 0 j 1 (.slice none 0 0) h false g f,e,b,d,c]) i :=
 bm GS (.al 1 .nil .nil) l
def tG{l h:T}{R:bI->UInt8->Prop}{F:bI->UInt8->bI×List aP}{b:b3}{s:bI}{es:List aP}{aN:Nat}(aw:h.M=n)(k:aN<=n)(a:b1 h 0 I s es/\Fr l h 0 b I)(i:es.length<N)(e:s.ay.length<=4)(j:R s c)
 {Q:T->Prop} (g:∀Z aH,b1 Z 0 aH (F s c).1 (es++(F s c).2)->Fr l Z 0 b aH->Q Z):dA N R h ⟨0,0,0,0,6⟩ c.toNat/\∀Z,dB F h ⟨0,0,0,0,6⟩ c.toNat Z->_root_.cond (Nat.ble aN Z.M) (Q Z) False:=by
 have aj:=c.toNat_lt;refine⟨⟨rfl,⟨I,s,es,a.1,i,e,by rw [rm];exact j⟩,A⟩,λZ t=> ?_⟩;have:=t.M;obtain⟨aH,d,f⟩:=t.all I s es a.1 e;rw [rm]at d;exact jS A (g Z aH d (a.2.trans f))
def w2{l h:T}{a:b3}{s:bI}{es:List aP}(b:dr h 0 I (b9 s.nx) (decide (s.nx=.cD)) ks s.ak s.ay s.ax es/\Fr l h 0 a I)(c:mQ s.nx ks s.ak):b1 h 0 I s es/\Fr l h 0 a I:=⟨⟨ks,b.1,c⟩,b.2⟩
def kx(s:bI)(c:UInt8):Prop:=s.ay=[]/\s.nx=.ground
def QN{H:T}{s:bI}{es:List aP}(g:b1 H d I s es)(t:es.length<2^30-4)(m:kx s c):∃H',be 30 [.ptr (some ⟨d,0,0,0,6⟩),.ac c.toNat] H (.tuple []) H' /\
 ∃aH,b1 H' d aH (Keys.ground s c).1 (es++(Keys.ground s c).2)/\Fr H H' d I aH:=by
 refine pU ?_ g;intro ks kv pv ov ty uty j0 j1 j2 j3 K P O a hs gs f;obtain⟨h,ae,b⟩:=kw gs;obtain⟨nx,ak,ay,ax⟩:=s;obtain⟨Y,ag⟩:=m;simp only at Y ag hs gs h ae b⊢;subst Y ag;cases ks with
 |one=>exact hs.elim
 |grown j=>exact hs.elim
 |nil =>
  obtain⟨rfl,rfl,_⟩:=h
  obtain⟨v,Z,r,rfl,q⟩:=QM (b9 .ground) pv ov ty (bT [] j0 j1 j2 j3 uty) K P O c.toNat (λv Z=>v=.tuple []/\∃aH,b1 Z 0 aH (Keys.ground ⟨.ground,[],[],ax⟩ c).1 (es++(Keys.ground ⟨.ground,[],[],ax⟩ c).2)/\Fr (T.of [bJ 0 (b9 .ground) 1 (.slice none 0 0) pv false ov ty,bT [] j0 j1 j2 j3 uty,K,P,O]) Z 0 a aH) (by
   delta oq A6 dy
   refine⟨λe=>⟨rfl,?_⟩,λe=> ?_⟩
   .have aj:c=27:=fz.1 (by show c.toNat=27;omega);rw [show Keys.ground ⟨.ground,[],[],ax⟩ c=(⟨.cQ,[27],[],ax⟩,[])by simp [Keys.ground,aj],gy]
    exact lV (s:=⟨.cQ,[27],[],ax⟩) (gG (n:=19) (k:=9) (ks:= .one) (j0:=j0) (j1:=j1) (j2:=j2) (j3:=j3) (kv:= .aB 9 0 0 1 1) (pv:=pv) (ov:=ov) (ty:=ty) (uty:=uty) rfl aC ao ao (.inl ao) ao ao
     ⟨aC,rfl,by rw [<-e];kernel_rfl,rfl⟩ aC ae b f (.inr (.inl aC))) trivial
   .have aj:c≠27:=by rintro rfl;exact e rfl
    refine tG (s:=⟨.ground,[],[],ax⟩) (I:=⟨1,0,a.p,a.o⟩) (n:=10) rfl aC (w2 (ks:= .nil) (gG (n:=10) (k:=0) (j0:=j0) (j1:=j1) (j2:=j2) (j3:=j3) (kv:= .slice none 0 0) (pv:=pv) (ov:=ov) (ty:=ty) (uty:=uty) rfl aC ao ao (.inl ao) ao ao (w0 _) aC ae b f (.inl rfl)) trivial) t au ⟨rfl,aj,.inl rfl⟩ λZ aH l i=>⟨rfl,aH,l,i⟩)
  exact⟨Z,r,q⟩
def QO:∀args h a,hN (2^30-4) kx Keys.ground args h=some a->a.cG Tryz.prog cz 30 args h:=om λH d I s es c g e f b=>QN g e b
noncomputable def GU:dQ:=GR.add 30 (hN (2^30-4) kx Keys.ground)
def w3:dC Tryz.prog cz GU:=GS.add QO
abbrev dE(b:List J)(d c a:Nat):aa:=⟨b,1,false,false,d,c,a,some (5,0)⟩
abbrev Ba(a:List J)(b:Nat):J:=J.agg [.bA 7,.av 0,.ac 0,.V 0,.V 0,.str (strOf (a.take b))]
abbrev Bb(c:Nat)(e d:J)(b:bw)(f a:Nat):aa:=⟨[.agg [(dy c),.aB 2 f 0 a a,e,.aJ,.ptr (some ⟨1,0,0,0,5⟩),d]],6,true,false,0,0,0,b⟩
def QP(l:Nat)(o n:J)(k:bw)(i h g:aa)(c:List J)(a f e b:Nat)(j:Int)(p:aU)(r:a=a/\0+b<=c.length/\(∃q,((aa.bg (dE c a f e)).drop (bB.idx ⟨2,a,0,0,1⟩)).take b=aE q)/\cJ (af 13 [(0,(Bb l o n k a b)),(1,i),(2,(dE c a f e)),(3,h),(4,g)]) bH ((Ba c b))/\∀(d:T),cK (af 13 [(0,(Bb l o n k a b)),(1,i),(2,(dE c a f e)),(3,h),(4,g)]) bH ((Ba c b)) d->aY 5 (d.M) (a6 env.D 66 bH (bf d 6)=some (.func (.func 30) [J.aT 0] [])/\dA (2^30-4) kx (bf d 6) bH j/\∀(m:T),dB ground (bf d 6) bH j m->cc 5 (m.M) (p .bZ m))) :
 bl 106 [J.aT 0,.ac j] (T.of [bJ 0 l 1 (.aB 2 a 0 b b) o false n k,i,b4 c 1 a f e b',h,g]) p :=
 bm w3 (ab 5<|ap 1003 (.func (.func 30) [J.aT 0] []) .nil) r
abbrev tH:J:=J.agg [.bA 2,.av 4,.ac 0,.V 0,.V 0,.str []]
def QQ(i:Nat)(g f:J)(e:bw)(d c b:aa)(a:Int)(h:aU)(m:(a=27->cJ (af 11 [(0,(pR i g f e)),(1,d),(2,aa.an [.ac 27] 1 true),(3,c),(4,b)]) bH (tH)/\∀(j:T),cK (af 11 [(0,(pR i g f e)),(1,d),(2,aa.an [.ac 27] 1 true),(3,c),(4,b)]) bH (tH) j->aY 5 (j.M) (dA (2^30-4) kx (bf j 3) bH a/\∀(l:T),dB ground (bf j 3) bH a l->cc 5 (l.M) (h .bZ l)))/\(¬a=27->(a=91->h .bZ (af 27 [(0,⟨[.agg [.func (.func 87) [J.aT 0] [],.slice (b5 17) 2 2,g,.aJ,.ptr (some ⟨1,0,0,0,5⟩),f]],6,true,false,0,0,0,e⟩),(1,d),(2,aa.an [.ac 27] 1 true),(3,c),(4,b),(16,aa.an [.ac a] 1 true),(17,aa.an [.ac 27,.ac a] 1 false (some (5,0)))]))/\(¬a=91->(a=79->h .bZ (af 29 [(0,⟨[.agg [.func (.func 88) [J.aT 0] [],.slice (b5 19) 2 2,g,.aJ,.ptr (some ⟨1,0,0,0,5⟩),f]],6,true,false,0,0,0,e⟩),(1,d),(2,aa.an [.ac 27] 1 true),(3,c),(4,b),(18,aa.an [.ac a] 1 true),(19,aa.an [.ac 27,.ac a] 1 false (some (5,0)))]))/\(¬a=79->dA (2^30-4) tF (af 15 [(0,(pR i g f e)),(1,d),(2,aa.an [.ac 27] 1 true),(3,c),(4,b)]) bH a/\∀(k:T),dB ot (af 15 [(0,(pR i g f e)),(1,d),(2,aa.an [.ac 27] 1 true),(3,c),(4,b)]) bH a k->cc 5 (k.M) (h .bZ k))))) :
 bl 59 [J.aT 0,.ac a] (T.of [bJ 0 i 1 (.slice (b5 2) 1 1) g false f e,d,aa.an [.ac 27] 1 true,c,b]) h :=
 bm w3 (.al 2000 .nil<|.al 5000 .nil<|.al 8000 .nil .nil) m
abbrev w4:J:= .func (.func 30) [J.aT 0] []
abbrev pV:J:=J.agg [.bA 2,.av 1,.ac 0,.V 0,.V 0,.str []]
abbrev tI:J:=J.agg [.bA 1,.av 79,.ac 2,.V 0,.V 0,.str []]
abbrev lc(a:Int):J:=J.agg [.bA 2,.av (ft a),.ac 0,.V 0,.V 0,.str []]
abbrev Bc(a:Int):J:=J.agg [.bA 2,.av (21+(a-80)),.ac 0,.V 0,.V 0,.str []]
abbrev GV(a:Nat)(b d c:J):J:=J.agg [(dy a),b,d,.aJ,.ptr (some ⟨1,0,0,0,5⟩),c]
abbrev rs(b:Nat)(c e d:J)(a:bw):aa:=⟨[(GV b c e d)],6,true,false,0,0,0,a⟩
abbrev pW(f:Nat)(g i h:J)(e:bw)(d a c b:aa):T:=(af 21 [(0,(rs f g i h e)),(1,d),(2,a),(3,c),(4,b)])
abbrev Bd(i:Nat)(j l k:J)(h:bw)(g d f e:aa)(b:Int)(m:aU):Prop:=(¬b=77->cJ (pW i j l k h g d f e) bH (tI)/\∀(a:T),cK (pW i j l k h g d f e) bH (tI) a->bif Nat.ble 5 (a.M)&&true then a6 env.D 66 bH (T.mk (a.M+6) (a.2))=some (w4)/\dA (2^30-4) kx (T.mk (a.M+6) (T.aF a)) bH b/\∀(c:T),dB ground (T.mk (a.M+6) (T.aF a)) bH b c->bif Nat.ble 5 (c.M)then m .bZ c else False else False)
def QR(g:Nat)(h j i:J)(f:bw)(e b d c:aa)(a:Int)(k:aU)(o:(0<ft a->cJ (af 14 [(0,(rs g h j i f)),(1,e),(2,b),(3,d),(4,c)]) bH ((lc a))/\∀(m:T),cK (af 14 [(0,(rs g h j i f)),(1,e),(2,b),(3,d),(4,c)]) bH ((lc a)) m->cc 5 (m.M) (k .bZ m))/\(¬0<ft a->(80<=a->(a<=83->(0<=a-80/\a-80<=255)/\(cf (a-80))/\(cf (21+(a-80)))/\cJ (af 23 [(0,(rs g h j i f)),(1,e),(2,b),(3,d),(4,c)]) bH ((Bc a))/\∀(n:T),cK (af 23 [(0,(rs g h j i f)),(1,e),(2,b),(3,d),(4,c)]) bH ((Bc a)) n->cc 5 (n.M) (k .bZ n))/\(¬a<=83->(a=77->cJ (pW g h j i f e b d c) bH (pV)/\∀(l:T),cK (pW g h j i f e b d c) bH (pV) l->cc 5 (l.M) (k .bZ l))/\(Bd g h j i f e b d c a k)))/\(¬80<=a->(a=77->cJ (pW g h j i f e b d c) bH (pV)/\∀(l:T),cK (pW g h j i f e b d c) bH (pV) l->cc 5 (l.M) (k .bZ l))/\(Bd g h j i f e b d c a k)))) :
 bl 88 [J.aT 0,.ac a] (T.of [bJ 0 g 1 h j false i f,e,b,d,c]) k :=
 bm w3 (.al 1001 .nil<|.al 3001 (.al 3004 (ab 4002<|ab 4003<|ab 4004 .nil)<|.al 5001 .nil<|ap 8003 (w4) .nil)<|.al 5001 .nil<|ap 8003 (w4) .nil) o
def GW{h:T}{f:Nat}{ak ay ax:Bytes}{es:List aP}(g:dr h d I f pas ks ak ay ax es):dr ⟨h.M+k,h.aF⟩ d I f pas ks ak ay ax es where
 ex:=g.ex
 hX:=g.hX
 lt:=by have:=g.lt;show d<h.M+k/\I.u<h.M+k/\I.k<h.M+k/\I.p<h.M+k/\I.o<h.M+k;omega
 ne:=g.ne
def QS{l h:T}{aH:b3}(cd:Fr l h d I aH):Fr l ⟨h.M+k,h.aF⟩ d I aH where
 M:=by have:=cd.M;show l.M<=h.M+k;omega
 get:=cd.get
 ids:=cd.ids
def tJ(x:Bytes):List.take x.length (aE x)=aE x:=by
 have e:x.length=(aE x).length:=by simp [aE]
 rw [e,kj]
def QT{h:T}{ak ay ax:Bytes}{es:List aP}(g:dr h 0 I (b9 .ground) pas ks ak ay ax es):a6 (bi.D env) 66 ⟨0,0,0,0,6⟩ h=some (.func (.func 30) [.ptr (some ⟨0,0,0,0,6⟩)] []):=by
 obtain⟨kv,pv,ov,ty,e,_⟩:=g.ex;unfold a6;rw [e]
 kernel_rfl
def GX{l h:T}{ca:J}{e:aP}{d:b3}{f:Nat}{ak ax:Bytes}{es:List aP}(r:5<=h.M)(b:dr h 0 I f false ks ak [] ax es/\Fr l h 0 d I)(he:ca=bp e)(s:es.length<2^30-8)
 {Q:T->Prop} (q:∀Z aH,b1 Z 0 aH (Keys.ground ⟨.ground,[],[],ax⟩ c).1 (es++(e::(Keys.ground ⟨.ground,[],[],ax⟩ c).2))->Fr l Z 0 d aH->Q Z) :
 cJ h ⟨0,0,0,0,6⟩ ca/\∀a,cK h ⟨0,0,0,0,6⟩ ca a->(_root_.cond (Nat.ble 5 a.M&&true) (dA (2^30-4) kx ⟨a.M+k,a.aF⟩ ⟨0,0,0,0,6⟩ c.toNat /\
  ∀Z,dB Keys.ground ⟨a.M+k,a.aF⟩ ⟨0,0,0,0,6⟩ c.toNat Z->_root_.cond (Nat.ble 5 Z.M) (Q Z) False) False)/\a6 (bi.D env) 66 ⟨0,0,0,0,6⟩ ⟨a.M+k,a.aF⟩=some (.func (.func 30) [.ptr (some ⟨0,0,0,0,6⟩)] []):=by
 refine⟨A4 b.1 he A au,λa t=> ?_⟩;have aw:=t.M;obtain⟨aH,g,m⟩:=A3 t b.1 b.2 he au;have p:b1 ⟨a.M+k,a.aF⟩ 0 aH ⟨.ground,[],[],ax⟩ (es++[e]):=⟨.nil,GW g,trivial⟩
 refine⟨?_,QT (GW g)⟩;rw [Nat.ble_eq.mpr A];refine tG (n:=a.M+k) rfl A ⟨p,QS m⟩ (by simp;omega) au ⟨rfl,rfl⟩ λZ j i o=>q Z j (by rw [jb]at i;exact i) o
def GY{l h:T}{ca:J}{e:aP}{g:b3}{f:Nat}{ak ax:Bytes}{es:List aP}(j:5<=h.M)(i:dr h 0 I f false ks ak [] ax es/\Fr l h 0 g I)(he:ca=bp e)(n:es.length<2^30-8)
 {Q:T->Prop} (m:∀Z aH,b1 Z 0 aH (Keys.ground ⟨.ground,[],[],ax⟩ c).1 (es++(e::(Keys.ground ⟨.ground,[],[],ax⟩ c).2))->Fr l Z 0 g aH->Q Z) :
 cJ h ⟨0,0,0,0,6⟩ ca/\∀d,cK h ⟨0,0,0,0,6⟩ ca d->_root_.cond (Nat.ble 5 d.M&&true) (a6 (bi.D env) 66 ⟨0,0,0,0,6⟩ ⟨d.M+k,d.aF⟩=some (.func (.func 30) [.ptr (some ⟨0,0,0,0,6⟩)] [])/\dA (2^30-4) kx ⟨d.M+k,d.aF⟩ ⟨0,0,0,0,6⟩ c.toNat /\
  ∀Z,dB Keys.ground ⟨d.M+k,d.aF⟩ ⟨0,0,0,0,6⟩ c.toNat Z->_root_.cond (Nat.ble 5 Z.M) (Q Z) False) False:=by
 obtain⟨a,b⟩:=GX (k:=k) j i he n m;refine⟨a,λd t=> ?_⟩;obtain⟨aN,bx⟩:=b d t;have aw:=t.M;rw [Nat.ble_eq.mpr A]at aN⊢;exact⟨bx,aN⟩
def eV(s:bI)(c:UInt8):Prop:=s.ay=[]/\(s.nx=.cp\/s.nx=.sequence)
def QU{H:T}{s:bI}{es:List aP}(g:b1 H d I s es)(D:es.length<2^30-8)(B:eV s c):∃H',be 106 [.ptr (some ⟨d,0,0,0,6⟩),.ac c.toNat] H (.tuple []) H' /\
 ∃aH,b1 H' d aH (Keys.bad s c).1 (es++(Keys.bad s c).2)/\Fr H H' d I aH:=by
 refine pU ?_ g;intro ks kv pv ov ty uty j0 j1 j2 j3 K P O p hs gs y;obtain⟨r,ae,i⟩:=kw gs;obtain⟨nx,ak,ay,ax⟩:=s;obtain⟨Y,ag⟩:=B;simp only at Y ag hs gs r ae i⊢;subst Y
 have E:ks=.grown []/\decide (nx=h1.cD)=false:=by
  rcases ag with rfl|rfl
  .cases ks with
   |grown j=>cases j with
    |nil=>exact⟨rfl,rfl⟩
    |cons a b=>exact hs.elim
   |_=>exact hs.elim
  .cases ks with
   |grown j=>cases j with
    |nil=>exact⟨rfl,rfl⟩
    |cons a b=>exact hs.elim
   |_=>exact hs.elim
 obtain⟨rfl,t⟩:=E;rw [t]at gs⊢;obtain⟨F,ad,m,l,rfl,o⟩:=r;have h:p.k=2:= A;rw [h,T.dI]at o;simp only [fR,hj,a8,eQ]at o;simp only [cq]at ae i⊢;subst o;rw [h,t]at ae i;rw [h];have z:∀x:List UInt8,List.take x.length (List.drop 0 (aE x))=aE x:=λx=>tJ x
 obtain⟨v,Z,C,rfl,q⟩:=QP (b9 nx) pv ov ty (bT [] j0 j1 j2 j3 uty) P O (aE ak) ad m l ak.length c.toNat (λv Z=>v=.tuple []/\∃aH,b1 Z 0 aH (Keys.bad ⟨nx,ak,[],ax⟩ c).1 (es++(Keys.bad ⟨nx,ak,[],ax⟩ c).2)/\Fr (T.of [bJ 0 (b9 nx) 1 (.aB 2 ad 0 ak.length ak.length) pv false ov ty,bT [] j0 j1 j2 j3 uty,b4 (aE ak) 1 ad m l b',P,O]) Z 0 p aH) (by
  delta Ba dE Bb dy
  refine⟨rfl,by simp [aE];try omega,⟨ak,z ak⟩,?_⟩
  exact GY (k:=6) (e:=dc ak) (by show 5<=13;decide) (gG (n:=13) (f:=b9 nx) (pas:=false) (ks:= .grown []) (ak:=ak) (ay:=[]) (k:=2) (j0:=j0) (j1:=j1) (j2:=j2) (j3:=j3) (kv:= .aB 2 ad 0 ak.length ak.length) (pv:=pv) (ov:=ov) (ty:=ty) (uty:=uty) rfl aC ao ao (.inr h) ao ao
   (k9 (es:=aE ak) (ad:=ad) (m:=m) (f:=l) aC rfl rfl ao) aC ae i y (.inr (.inr ⟨rfl,h⟩))) (by rw [tJ,gY];rfl) D λZ aH w u=>⟨rfl,aH,w,u⟩)
 exact⟨Z,C,q⟩
def QV:∀args h a,hN (2^30-8) eV Keys.bad args h=some a->a.cG Tryz.prog cz 106 args h:=om λH d I s es c g e f b=>QU g A b
noncomputable def GZ:dQ:=GU.add 106 (hN (2^30-8) eV Keys.bad)
def QW:dC Tryz.prog cz GZ:=w3.add QV
def QX{l h:T}{ca:J}{e:aP}{g:b3}{f:Nat}{ak ax:Bytes}{es:List aP}(j:5<=h.M)(i:dr h 0 I f false ks ak [] ax es/\Fr l h 0 g I)(he:ca=bp e)(n:es.length<2^30-8)
 {Q:T->Prop} (m:∀Z aH,b1 Z 0 aH (Keys.ground ⟨.ground,[],[],ax⟩ c).1 (es++(e::(Keys.ground ⟨.ground,[],[],ax⟩ c).2))->Fr l Z 0 g aH->Q Z) :
 cJ h ⟨0,0,0,0,6⟩ ca/\∀d,cK h ⟨0,0,0,0,6⟩ ca d->_root_.cond (Nat.ble 5 d.M&&true) (dA (2^30-4) kx ⟨d.M+k,d.aF⟩ ⟨0,0,0,0,6⟩ c.toNat /\
  ∀Z,dB Keys.ground ⟨d.M+k,d.aF⟩ ⟨0,0,0,0,6⟩ c.toNat Z->_root_.cond (Nat.ble 5 Z.M) (Q Z) False) False:=by
 obtain⟨a,b⟩:=GX (k:=k) j i he n m;exact⟨a,λd t=>(b d t).1⟩
def G0{h:T}{l:Bytes}{es:List J}(a:k≠0)(aw:n=l.length)(he:es=aE l)(e:h.get k=some (aa.an es 1 false b')):ht h 0 k (.aB k 0 0 n n) (.grown []) l:=k9 (ad:=0) (m:=0) (f:=0) a aw he e
def tK(s:bI)(c:UInt8):Prop:=s.ay=[]/\s.nx=.cQ
def QY{H:T}{s:bI}{es:List aP}(g:b1 H d I s es)(y:es.length<2^30-8)(t:tK s c):∃H',be 59 [.ptr (some ⟨d,0,0,0,6⟩),.ac c.toNat] H (.tuple []) H' /\
 ∃aH,b1 H' d aH (Keys.cQ s c).1 (es++(Keys.cQ s c).2)/\Fr H H' d I aH:=by
 refine pU ?_ g;intro ks kv pv ov ty uty j0 j1 j2 j3 K P O o hs gs h;obtain⟨r,ae,b⟩:=kw gs;obtain⟨nx,ak,ay,ax⟩:=s;obtain⟨Y,ag⟩:=t;simp only at Y ag hs gs r ae b⊢;subst Y ag;cases ks with
 |nil=>exact hs.elim
 |grown j=>exact hs.elim
 |one =>
  obtain⟨z,rfl,m,rfl⟩:=r;have a:o.k=2:= A;rw [a,T.dI]at m;simp only [fR,hj,a8]at m;subst m;rw [a]at gs ae b⊢
  obtain⟨v,Z,x,rfl,q⟩:=QQ (b9 .cQ) pv ov ty (bT [] j0 j1 j2 j3 uty) P O c.toNat (λv Z=>v=.tuple []/\∃aH,b1 Z 0 aH (Keys.cQ ⟨.cQ,[27],[],ax⟩ c).1 (es++(Keys.cQ ⟨.cQ,[27],[],ax⟩ c).2)/\Fr (T.of [bJ 0 (b9 .cQ) 1 (.aB 2 0 0 1 1) pv false ov ty,bT [] j0 j1 j2 j3 uty,aa.an [.ac 27] 1 true,P,O]) Z 0 o aH) (by
   delta pR A9 A8 dy tH
   refine⟨λe=> ?_,λe=>⟨λaZ=>⟨rfl,?_⟩,λaZ=>⟨λp=>⟨rfl,?_⟩,λp=> ?_⟩⟩⟩
   .have aj:c=27:=fz.1 (by show c.toNat=27;omega);rw [show Keys.cQ ⟨.cQ,[27],[],ax⟩ c=((Keys.ground ⟨.ground,[],[],ax⟩ c).1,dp 4::(Keys.ground ⟨.ground,[],[],ax⟩ c).2)by simp [Keys.cQ,aj,tell]]
    exact QX (k:=3) (e:=dp 4) (by show 5<=11;decide) (gG (n:=11) (f:=b9 .cQ) (pas:=false) (ks:= .one) (ak:=[27]) (ay:=[]) (k:=2) (j0:=j0) (j1:=j1) (j2:=j2) (j3:=j3) (kv:= .aB 2 0 0 1 1) (pv:=pv) (ov:=ov) (ty:=ty) (uty:=uty) rfl aC ao ao (.inr a) ao ao
     ⟨aC,rfl,ao,rfl⟩ aC ae b h (.inr (.inr ⟨rfl,a⟩))) rfl y λZ aH l i=>⟨rfl,aH,l,i⟩
   .have aj:c=91:=fz.1 (by show c.toNat=91;omega);rw [show Keys.cQ ⟨.cQ,[27],[],ax⟩ c=(⟨.sequence,[27,c],[],ax⟩,[])by simp [Keys.cQ,aj],gy]
    exact lV (s:=⟨.sequence,[27,c],[],ax⟩) (gG (n:=27) (k:=17) (ks:= .grown []) (j0:=j0) (j1:=j1) (j2:=j2) (j3:=j3) (kv:= .aB 17 0 0 2 2) (pv:=pv) (ov:=ov) (ty:=ty) (uty:=uty) rfl aC ao ao (.inr a) ao ao
     (G0 (es:=[.ac 27,.ac c.toNat]) aC rfl rfl ao) aC ae b h (.inr (.inl aC))) (by simp [mQ])
   .have aj:c=79:=fz.1 (by show c.toNat=79;omega);rw [show Keys.cQ ⟨.cQ,[27],[],ax⟩ c=(⟨.single,[27,c],[],ax⟩,[])by simp [Keys.cQ,aj],gy]
    exact lV (s:=⟨.single,[27,c],[],ax⟩) (gG (n:=29) (k:=19) (ks:= .grown []) (j0:=j0) (j1:=j1) (j2:=j2) (j3:=j3) (kv:= .aB 19 0 0 2 2) (pv:=pv) (ov:=ov) (ty:=ty) (uty:=uty) rfl aC ao ao (.inr a) ao ao
     (G0 (es:=[.ac 27,.ac c.toNat]) aC rfl rfl ao) aC ae b h (.inr (.inl aC))) (by simp [mQ])
   .have aj:c≠27:=by rintro rfl;exact e rfl
    have u:c≠91:=by rintro rfl;exact aZ rfl
    have w:c≠79:=by rintro rfl;exact p rfl
    rw [show Keys.cQ ⟨.cQ,[27],[],ax⟩ c=ot ⟨.cQ,[27],[],ax⟩ c by simp [Keys.cQ,aj,u,w,ot]]
    exact tG (s:=⟨.cQ,[27],[],ax⟩) (n:=15) rfl aC (w2 (gG (n:=15) (f:=b9 .cQ) (pas:=false) (ks:= .one) (ak:=[27]) (ay:=[]) (k:=2) (j0:=j0) (j1:=j1) (j2:=j2) (j3:=j3) (kv:= .aB 2 0 0 1 1) (pv:=pv) (ov:=ov) (ty:=ty) (uty:=uty) rfl aC ao ao (.inr a) ao ao
     ⟨aC,rfl,ao,rfl⟩ aC ae b h (.inr (.inr ⟨rfl,a⟩))) trivial) A au ⟨rfl,aj,.inr rfl⟩ λZ aH l i=>⟨rfl,aH,l,i⟩)
  exact⟨Z,x,q⟩
def QZ:∀args h a,hN (2^30-8) tK Keys.cQ args h=some a->a.cG Tryz.prog cz 59 args h:=om λH d I s es c g e f b=>QY g e b
def tL(c:Nat):ft (c:Int)=dJ c:=by
 unfold ft dJ;by_cases Y:65<=c/\c<=68
 .have ag:(65:Int)<=c/\(c:Int)<=68:= A;rw [az Y,az ag]
 .have ag:¬((65:Int)<=c/\(c:Int)<=68):= A;rw [ai Y,ai ag];by_cases d:c=72
  .have a:(c:Int)=72:= A;rw [az d,az a]
  .have a:¬(c:Int)=72:= A;rw [ai d,ai a];by_cases e:c=70
   .have b:(c:Int)=70:= A;rw [az e,az b]
   .have b:¬(c:Int)=70:= A;rw [ai e,ai b]
def singleR(s:bI)(c:UInt8):Prop:=s.ay=[]/\s.nx=.single
def Q0{H:T}{s:bI}{es:List aP}(g:b1 H d I s es)(N:es.length<2^30-8)(G:singleR s c):∃H',be 88 [.ptr (some ⟨d,0,0,0,6⟩),.ac c.toNat] H (.tuple []) H' /\
 ∃aH,b1 H' d aH (Keys.single s c).1 (es++(Keys.single s c).2)/\Fr H H' d I aH:=by
 refine pU ?_ g;intro ks kv pv ov ty uty j0 j1 j2 j3 K P O f hs gs F;obtain⟨x,ae,B⟩:=kw gs;obtain⟨nx,ak,ay,ax⟩:=s;obtain⟨Y,ag⟩:=G;simp only at Y ag hs gs x ae B⊢;subst Y ag
 have R:ks=.grown []:=by
  cases ks with
  |grown j=>cases j with
   |nil=>rfl
   |cons a b=>exact hs.elim
  |_=>exact hs.elim
 subst R;have aj:=c.toNat_lt;have y:f.k=2:=by have:=x.1;omega
 have Q:∀h:T,h.get 2=some K->ht h 0 2 kv (.grown []) ak:=λh e=>by obtain⟨U,ad,m,E,C,z⟩:=x;rw [y]at C z;refine⟨aC,ad,m,E,C,?_⟩;rw [e,<-z,T.dI];rfl
 have mk:∀{h:T}{n:Nat},h.M=n->5<=n->h.get 0=some (bJ 0 (b9 .single) 1 kv pv false ov ty)->h.get 1=some (bT [] j0 j1 j2 j3 uty)->h.get 2=some K->h.get 3=some P->h.get 4=some O ->
  dr h 0 ⟨1,2,f.p,f.o⟩ (b9 .single) false (.grown []) ak [] ax es/\Fr (T.of [bJ 0 (b9 .single) 1 kv pv false ov ty,bT [] j0 j1 j2 j3 uty,K,P,O]) h 0 f ⟨1,2,f.p,f.o⟩:=λaw t e0 aQ aZ r i =>
  gG aw t e0 aQ (.inr y) r i (Q _ aZ) A ae B F (.inr (.inr ⟨rfl,y⟩))
 have t1:∀{h:T}{n:Nat}{ca:J}(e:aP),h.M=n->5<=n->h.get 0=some (bJ 0 (b9 .single) 1 kv pv false ov ty)->h.get 1=some (bT [] j0 j1 j2 j3 uty)->h.get 2=some K->h.get 3=some P->h.get 4=some O->ca=bp e->Keys.single ⟨.single,ak,[],ax⟩ c=tell ⟨.single,ak,[],ax⟩ e ->
  cJ h ⟨0,0,0,0,6⟩ ca/\∀Z,cK h ⟨0,0,0,0,6⟩ ca Z->_root_.cond (Nat.ble 5 Z.M) (J.tuple []=J.tuple []/\∃aH,b1 Z 0 aH (Keys.single ⟨.single,ak,[],ax⟩ c).1 (es++(Keys.single ⟨.single,ak,[],ax⟩ c).2)/\Fr (T.of [bJ 0 (b9 .single) 1 kv pv false ov ty,bT [] j0 j1 j2 j3 uty,K,P,O]) Z 0 f aH) False:=λ{h n ca} e aw t e0 aQ aZ r i he hm=>by
  rw [hm];exact pS (n:=n) aw t (mk aw t e0 aQ aZ r i) he A au λZ aH w u=>⟨rfl,aH,tE w,u⟩
 have t2:∀{h:T}{n:Nat}{ca:J}(e:aP),h.M=n->5<=n->h.get 0=some (bJ 0 (b9 .single) 1 kv pv false ov ty)->h.get 1=some (bT [] j0 j1 j2 j3 uty)->h.get 2=some K->h.get 3=some P->h.get 4=some O->ca=bp e->Keys.single ⟨.single,ak,[],ax⟩ c=((Keys.ground ⟨.ground,[],[],ax⟩ c).1,e::(Keys.ground ⟨.ground,[],[],ax⟩ c).2) ->
  cJ h ⟨0,0,0,0,6⟩ ca/\∀l,cK h ⟨0,0,0,0,6⟩ ca l->_root_.cond (Nat.ble 5 l.M&&true) (a6 (bi.D env) 66 ⟨0,0,0,0,6⟩ ⟨l.M+6,l.aF⟩=some (.func (.func 30) [.ptr (some ⟨0,0,0,0,6⟩)] [])/\dA (2^30-4) kx ⟨l.M+6,l.aF⟩ ⟨0,0,0,0,6⟩ c.toNat /\
  ∀Z,dB Keys.ground ⟨l.M+6,l.aF⟩ ⟨0,0,0,0,6⟩ c.toNat Z->_root_.cond (Nat.ble 5 Z.M) (J.tuple []=J.tuple []/\∃aH,b1 Z 0 aH (Keys.single ⟨.single,ak,[],ax⟩ c).1 (es++(Keys.single ⟨.single,ak,[],ax⟩ c).2)/\Fr (T.of [bJ 0 (b9 .single) 1 kv pv false ov ty,bT [] j0 j1 j2 j3 uty,K,P,O]) Z 0 f aH) False) False:=λ{h n ca} e aw t e0 aQ aZ r i he hm=>by
  rw [hm];exact GY (k:=6) A (mk aw t e0 aQ aZ r i) he N λZ aH w u=>⟨rfl,aH,w,u⟩
 obtain⟨v,Z,L,rfl,q⟩:=QR (b9 .single) kv pv ov ty (bT [] j0 j1 j2 j3 uty) K P O c.toNat (λv Z=>v=.tuple []/\∃aH,b1 Z 0 aH (Keys.single ⟨.single,ak,[],ax⟩ c).1 (es++(Keys.single ⟨.single,ak,[],ax⟩ c).2)/\Fr (T.of [bJ 0 (b9 .single) 1 kv pv false ov ty,bT [] j0 j1 j2 j3 uty,K,P,O]) Z 0 f aH) (by
  delta Bd w4 tI pW rs GV dy pV Bc lc
  rw [tL];have S:0<dJ c.toNat\/ ¬0<dJ c.toNat:= A;refine⟨λe=> ?_,λe=>⟨λaZ=>⟨λr=>⟨A,A,A,?_⟩,λr=>⟨λi=> ?_,λi=> ?_⟩⟩,λaZ=>⟨λi=> ?_,λi=> ?_⟩⟩⟩
  .exact t1 (n:=14) (dp (dJ c.toNat)) rfl aC ao ao ao ao ao rfl (by simp only [Keys.single];rw [az e])
  .exact t1 (n:=23) (dp (21+(c.toNat-80))) rfl aC ao ao ao ao ao rfl (by simp only [Keys.single];rw [ai e,az A])
  .omega
  .exact t2 (n:=21) (eb 79 2) rfl aC ao ao ao ao ao rfl (by simp only [Keys.single];rw [ai e,ai A,ai A];rfl)
  .exact t1 (n:=21) (dp 1) rfl aC ao ao ao ao ao rfl (by simp only [Keys.single];rw [ai e,ai A,az A])
  .exact t2 (n:=21) (eb 79 2) rfl aC ao ao ao ao ao rfl (by simp only [Keys.single];rw [ai e,ai A,ai A];rfl))
 exact⟨Z,L,q⟩
def Q1:∀args h a,hN (2^30-8) singleR Keys.single args h=some a->a.cG Tryz.prog cz 88 args h:=om λH d I s es c g e f b=>Q0 g e b
noncomputable def tM:dQ:=(GZ.add 59 (hN (2^30-8) tK Keys.cQ)).add 88 (hN (2^30-8) singleR Keys.single)
def w5:dC Tryz.prog cz tM:=(QW.add QZ).add Q1
def dx.pick(k:Nat):dx->Option dx
 |.or p (.one v1 Y c) (.or a (.one v2 ag d) (.one v3 b e)) =>
  match k with
  |0=>some (.one v1 Y (p::c))
  |1=>some (.one v2 ag ((¬p)::a::d))
  |_=>some (.one v3 b ((¬p)::(¬a)::e))
 |_=>none
noncomputable def tN(k:Nat):List J->T->Option dx:=λargs h=>(tm args h).bind (dx.pick k)
def Q2{f:FuncId}{args:List J}{h:T} :∀{a b:dx},a.cG Tryz.prog cz f args h->dx.pick k a=some b->b.cG Tryz.prog cz f args h:=by
 intro a b e c;unfold dx.pick at c;split at c<;>first|(cases c;done)|skip
 split at c<;>simp only [a8]at c<;>subst c<;>intro ae
 .exact e.1 (ae _ kQ) (λx d=>ae x (kh _ d))
 .exact(e.2 (ae _ kQ)).1 (ae _ (kh _ kQ)) (λx d=>ae x (kh _ (kh _ d)))
 .exact(e.2 (ae _ kQ)).2 (ae _ (kh _ kQ)) (λx d=>ae x (kh _ (kh _ d)))
def Be(k:Nat):∀args h a,tN k args h=some a->a.cG Tryz.prog cz 107 args h:=by
 intro args h a e;unfold tN at e;cases hs:tm args h with
 |none=>rw [hs]at e;cases e
 |some b=>rw [hs]at e;exact Q2 (Gv args h b hs) e
noncomputable def Q3:dQ:=tM.add 107 (tN 0)
def Q4:dC Tryz.prog cz Q3:=w5.add (Be 0)
noncomputable def Q5:dQ:=tM.add 107 (tN 1)
def Q6:dC Tryz.prog cz Q5:=w5.add (Be 1)
noncomputable def Q7:dQ:=tM.add 107 (tN 2)
def Q8:dC Tryz.prog cz Q7:=w5.add (Be 2)
abbrev ru(b a:Nat):J:=J.aB 2 b 0 a a
abbrev tO(b a:Nat):J:=J.aB 2 (b+1) 0 (a+1) (a+1)
abbrev Q9:b7:=(.al 6024 (ab 7007<|ab 8006<|.al 9001 .nil<|ab 11005 .nil)<|he 12004<|.al 1007 .nil .nil)
abbrev dK(a:List J)(c b e:Nat)(d:Int):aa:=⟨a++[.ac d],1,false,false,c+1,b,if b=c then a.length else min e (a.length),some (5,0)⟩
abbrev gH(b:List J)(c:Nat)(a:Int):J:=J.agg [.bA 7,.av 0,.ac 0,.V 0,.V 0,.str (strOf (((b.append [.ac a]).drop 0).take (c+1)))]
abbrev w6(a b c d f e:Int):J:=J.agg [.ac (bS ((bX a b c d f e).2) 0 a),.ac (bS ((bX a b c d f e).2) 1 b),.ac (bS ((bX a b c d f e).2) 2 c),.ac (bS ((bX a b c d f e).2) 3 d),.V 0]
abbrev rv(a:Nat)(d c:J)(e b:Nat):J:=J.agg [(dy a),(ru e b),d,.aJ,.ptr (some ⟨1,0,0,0,5⟩),c]
abbrev tP(a:Nat)(d c:J)(e b:Nat):J:=J.agg [(dy a),(tO e b),d,.aJ,.ptr (some ⟨1,0,0,0,5⟩),c]
abbrev G1:b7:=(he 4004<|.al 4005 (ab 5007 .nil)<|ab 6019<|ab 6023 Q9)
abbrev lX(g:bw)(h:Nat)(a b c d f e:Int):aa:=⟨[(w6 a b c d f e)],5,true,false,0,0,0,g⟩
abbrev fi(g:bw)(h:Nat)(a b c d f e:Int):aa:=⟨[(pP a b c d f e)],5,true,false,0,0,0,g⟩
abbrev ga(b:Nat)(e d:J)(a:bw)(f c:Nat):aa:=⟨[(rv b e d f c)],6,true,false,0,0,0,a⟩
abbrev fC(b:Nat)(e d:J)(a:bw)(f c:Nat):aa:=⟨[(tP b e d f c)],6,true,false,0,0,0,a⟩
abbrev Bf(j:Nat)(q p:J)(i r:bw)(d c:aa)(l:List J)(b n k m:Nat)(e f g h o a:Int):T:=(af 94 [(0,(ga j q p i b m)),(1,(fi r b e f g h o a)),(2,(dE l b n k)),(3,d),(4,c),(27,(cx a)),(70,aa.an [.ac a] 1 true)])
abbrev Bg(j:Nat)(q p:J)(i r:bw)(d c:aa)(l:List J)(b n k m:Nat)(e f g h o a:Int):T:=(af 104 [(0,(fC j q p i b m)),(1,(fi r b e f g h o a)),(2,(dK l b n k a)),(3,d),(4,c),(27,(cx a)),(70,aa.an [.ac a] 1 true),(81,aa.an [.ac a] 1 true)])
abbrev Bh(j:Nat)(q p:J)(i r:bw)(d c:aa)(l:List J)(b n k m:Nat)(e f g h o a:Int):T:=(af 99 [(0,(ga j q p i b m)),(1,(lX r b e f g h o a)),(2,(dE l b n k)),(3,d),(4,c),(27,(cx a)),(70,aa.an [.ac a] 1 true),(94,aa.an [.av 65533] 1 true)])
abbrev Bi(m:Nat)(q p:J)(l r:bw)(k j:aa)(h:List J)(s o n i:Nat)(c d e f g a:Int)(t:aU):Prop:=(valid (strOf (h.take (i-0))++[UInt8.ofNat (a.toNat)])=false->((↑(((bX c d e f g a).2).length):Int)=0->dA (2^30-8) eV (Bf m q p l r k j h s o n i c d e f g a) bH a/\∀(b:T),dB bad (Bf m q p l r k j h s o n i c d e f g a) bH a b->bif Nat.ble 5 (b.M)then t .bZ b else False)/\(¬(↑(((bX c d e f g a).2).length):Int)=0->dA (2^30-8) eV (Bh m q p l r k j h s o n i c d e f g a) bH a/\∀(b:T),dB bad (Bh m q p l r k j h s o n i c d e f g a) bH a b->bif Nat.ble 5 (b.M)then t .bZ b else False))
abbrev Bj(p:Nat)(s r:J)(o t:bw)(j i:aa)(b:List J)(d f e a:Nat)(k l m n q c:Int)(u:aU):Prop:=(valid (strOf (b.take (a-0))++[UInt8.ofNat (c.toNat)])=true->(d=d/\0+a=b.length/\a<a+1/\(a+1+(a+1)/4+512)*1<=281474976710656/\a+1<4611686018427387904)/\d+1=d+1/\0+(a+1-0)<=List.length (b++[.ac c])/\(∃h,((aa.bg (dK b d f e c)).drop (bB.idx ⟨2,d+1,0,0,1⟩)).take (a+1-0)=aE h)/\(strOf (((b.append [.ac c]).drop 0).take (a+1-0))).length<1099511627776/\(valid (strOf (((b.append [.ac c]).drop 0).take (a+1-0)))=true->False)/\(valid (strOf (((b.append [.ac c]).drop 0).take (a+1-0)))=false->d+1=d+1/\0+(a+1)<=List.length (b++[.ac c])/\(∃h,((aa.bg (dK b d f e c)).drop (bB.idx ⟨2,d+1,0,0,1⟩)).take (a+1)=aE h)/\cJ (Bg p s r o t j i b d f e a k l m n q c) bH ((gH b a c))/\∀(g:T),cK (Bg p s r o t j i b d f e a k l m n q c) bH ((gH b a c)) g->bif Nat.ble 5 (g.M)then u .bZ g else False))
def Q'(o:Nat)(q p:J)(n r:bw)(m l:aa)(d:List J)(c k j b:Nat)(e f g h i a:Int)(s:aU)(w:(0<(b:Int)->(fL 0 b)/\c=c/\d[0]? =some (.ac (aS d 0))/\(aS d 0=27->(bX e f g h i a).1=[]/\gE e f g h i a/\(0<(↑(((bX e f g h i a).2).length):Int)->(c=c/\0+b=d.length/\b<b+1/\(b+1+(b+1)/4+512)*1<=281474976710656/\b+1<4611686018427387904)/\s .bZ (af 62 [(0,(fC o q p n c b)),(1,(fi r c e f g h i a)),(2,(dK d c k j a)),(3,m),(4,l),(29,(cx a)),(57,aa.an [.ac a] 1 true)]))/\(¬0<(↑(((bX e f g h i a).2).length):Int)->((0:Int)<=1/\1<=(b:Int)/\b<=b)/\c=c/\1+(b-1)<=d.length/\(∃t,((aa.bg (dE d c k j)).drop (bB.idx ⟨2,c,1,0,1⟩)).take (b-1)=aE t)/\bY ((strOf ((d.drop 1).take (b-1))).length+List.length [UInt8.ofNat (a.toNat)])/\(strOf ((d.drop 1).take (b-1))++[UInt8.ofNat (a.toNat)]).length<1099511627776/\(valid (strOf ((d.drop 1).take (b-1))++[UInt8.ofNat (a.toNat)])=true->(c=c/\0+b=d.length/\b<b+1/\(b+1+(b+1)/4+512)*1<=281474976710656/\b+1<4611686018427387904)/\((0:Int)<=1/\1<=(↑(b+1):Int)/\b+1<=b+1)/\c+1=c+1/\1+(b+1-1)<=List.length (d++[.ac a])/\(∃t,((aa.bg (dK d c k j a)).drop (bB.idx ⟨2,c+1,1,0,1⟩)).take (b+1-1)=aE t)/\(strOf (((d.append [.ac a]).drop 1).take (b+1-1))).length<1099511627776/\(valid (strOf (((d.append [.ac a]).drop 1).take (b+1-1)))=true->False)/\(valid (strOf (((d.append [.ac a]).drop 1).take (b+1-1)))=false->c+1=c+1/\0+(b+1)<=List.length (d++[.ac a])/\(∃t,((aa.bg (dK d c k j a)).drop (bB.idx ⟨2,c+1,0,0,1⟩)).take (b+1)=aE t)/\cJ (af 106 [(0,(fC o q p n c b)),(1,(fi r c e f g h i a)),(2,(dK d c k j a)),(3,m),(4,l),(29,(cx a)),(72,aa.an [.ac a] 1 true),(83,aa.an [.ac a] 1 true)]) bH ((gH d b a))/\∀(v:T),cK (af 106 [(0,(fC o q p n c b)),(1,(fi r c e f g h i a)),(2,(dK d c k j a)),(3,m),(4,l),(29,(cx a)),(72,aa.an [.ac a] 1 true),(83,aa.an [.ac a] 1 true)]) bH ((gH d b a)) v->cc 5 (v.M) (s .bZ v)))/\(valid (strOf ((d.drop 1).take (b-1))++[UInt8.ofNat (a.toNat)])=false->((↑(((bX e f g h i a).2).length):Int)=0->dA (2^30-8) eV (af 96 [(0,(ga o q p n c b)),(1,(fi r c e f g h i a)),(2,(dE d c k j)),(3,m),(4,l),(29,(cx a)),(72,aa.an [.ac a] 1 true)]) bH a/\∀(u:T),dB bad (af 96 [(0,(ga o q p n c b)),(1,(fi r c e f g h i a)),(2,(dE d c k j)),(3,m),(4,l),(29,(cx a)),(72,aa.an [.ac a] 1 true)]) bH a u->cc 5 (u.M) (s .bZ u))/\(¬(↑(((bX e f g h i a).2).length):Int)=0->dA (2^30-8) eV (af 101 [(0,(ga o q p n c b)),(1,(lX r c e f g h i a)),(2,(dE d c k j)),(3,m),(4,l),(29,(cx a)),(72,aa.an [.ac a] 1 true),(96,aa.an [.av 65533] 1 true)]) bH a/\∀(u:T),dB bad (af 101 [(0,(ga o q p n c b)),(1,(lX r c e f g h i a)),(2,(dE d c k j)),(3,m),(4,l),(29,(cx a)),(72,aa.an [.ac a] 1 true),(96,aa.an [.av 65533] 1 true)]) bH a u->cc 5 (u.M) (s .bZ u)))))/\(¬aS d 0=27->(bX e f g h i a).1=[]/\gE e f g h i a/\(0<(↑(((bX e f g h i a).2).length):Int)->(c=c/\0+b=d.length/\b<b+1/\(b+1+(b+1)/4+512)*1<=281474976710656/\b+1<4611686018427387904)/\s .bZ (af 60 [(0,(fC o q p n c b)),(1,(fi r c e f g h i a)),(2,(dK d c k j a)),(3,m),(4,l),(27,(cx a)),(55,aa.an [.ac a] 1 true)]))/\(¬0<(↑(((bX e f g h i a).2).length):Int)->c=c/\0+(b-0)<=d.length/\(∃t,((aa.bg (dE d c k j)).drop (bB.idx ⟨2,c,0,0,1⟩)).take (b-0)=aE t)/\bY ((strOf (d.take (b-0))).length+List.length [UInt8.ofNat (a.toNat)])/\(strOf (d.take (b-0))++[UInt8.ofNat (a.toNat)]).length<1099511627776/\(Bj o q p n r m l d c k j b e f g h i a s)/\(Bi o q p n r m l d c k j b e f g h i a s))))/\(¬0<(b:Int)->(bX e f g h i a).1=[]/\gE e f g h i a/\(0<(↑(((bX e f g h i a).2).length):Int)->(c=c/\0+b=d.length/\b<b+1/\(b+1+(b+1)/4+512)*1<=281474976710656/\b+1<4611686018427387904)/\s .bZ (af 60 [(0,(fC o q p n c b)),(1,(fi r c e f g h i a)),(2,(dK d c k j a)),(3,m),(4,l),(27,(cx a)),(55,aa.an [.ac a] 1 true)]))/\(¬0<(↑(((bX e f g h i a).2).length):Int)->c=c/\0+(b-0)<=d.length/\(∃t,((aa.bg (dE d c k j)).drop (bB.idx ⟨2,c,0,0,1⟩)).take (b-0)=aE t)/\bY ((strOf (d.take (b-0))).length+List.length [UInt8.ofNat (a.toNat)])/\(strOf (d.take (b-0))++[UInt8.ofNat (a.toNat)]).length<1099511627776/\(Bj o q p n r m l d c k j b e f g h i a s)/\(Bi o q p n r m l d c k j b e f g h i a s)))) :
 bl 90 [J.aT 0,.ac a] (T.of [bJ 0 o 1 (.aB 2 c 0 b b) q false p n,fN e f g h i r,b4 d 1 c k j b',m,l]) s :=
 bm Q4 (.al 1005 (ab 1011 (ab 1012 (.al 1013 (he 4004 (.al 4005 (ab 5007 .nil) (ab 6018 (ab 6019 (ab 6023 (.al 6024 (ab 7007 (ab 8005 (ab 8006 (.al 9001 .nil (ab 11005 .nil))))) (he 12004 (.al 1007 .nil .nil)))))))) G1))) G1) w
abbrev G2:b7:=(ab 7007<|ab 8006<|.al 9001 .nil<|ab 11005 .nil)
abbrev Bk:b7:=(ab 8005<|ab 8006<|.al 9001 .nil<|ab 11005 .nil)
abbrev Bl:b7:=(.al 6024 G2<|he 12004<|.al 1007 .nil .nil)
abbrev w7:b7:=(ab 6023<|.al 6024 (ab 7007 Bk)<|he 12004<|.al 1007 .nil .nil)
abbrev w8:b7:=(.al 6010 G2<|ab 6019<|ab 6023 Bl)
abbrev Bm(k:Nat)(q p:J)(j r:bw)(i h:aa)(m:List J)(b o l n:Nat)(c d e f g a:Int):T:=(af 95 [(0,(ga k q p j b n)),(1,(fi r b c d e f g a)),(2,(dE m b o l)),(3,i),(4,h),(27,(cx a)),(30,(hx c d e f g a)),(71,aa.an [.ac a] 1 true)])
abbrev Bn(k:Nat)(q p:J)(j r:bw)(i h:aa)(m:List J)(b o l n:Nat)(c d e f g a:Int):T:=(af 97 [(0,(ga k q p j b n)),(1,(fi r b c d e f g a)),(2,(dE m b o l)),(3,i),(4,h),(29,(cx a)),(32,(hx c d e f g a)),(73,aa.an [.ac a] 1 true)])
abbrev Bo(k:Nat)(q p:J)(j r:bw)(i h:aa)(m:List J)(b o l n:Nat)(c d e f g a:Int):T:=(af 104 [(0,(fC k q p j b n)),(1,(fi r b c d e f g a)),(2,(dK m b o l a)),(3,i),(4,h),(27,(cx a)),(30,(hx c d e f g a)),(82,aa.an [.ac a] 1 true)])
abbrev Bp(k:Nat)(q p:J)(j r:bw)(i h:aa)(m:List J)(b o l n:Nat)(c d e f g a:Int):T:=(af 105 [(0,(fC k q p j b n)),(1,(fi r b c d e f g a)),(2,(dK m b o l a)),(3,i),(4,h),(27,(cx a)),(30,(hx c d e f g a)),(82,aa.an [.ac a] 1 true)])
abbrev Bq(k:Nat)(q p:J)(j r:bw)(i h:aa)(m:List J)(b o l n:Nat)(c d e f g a:Int):T:=(af 106 [(0,(fC k q p j b n)),(1,(fi r b c d e f g a)),(2,(dK m b o l a)),(3,i),(4,h),(29,(cx a)),(32,(hx c d e f g a)),(84,aa.an [.ac a] 1 true)])
abbrev Br(k:Nat)(q p:J)(j r:bw)(i h:aa)(m:List J)(b o l n:Nat)(c d e f g a:Int):T:=(af 107 [(0,(fC k q p j b n)),(1,(fi r b c d e f g a)),(2,(dK m b o l a)),(3,i),(4,h),(29,(cx a)),(32,(hx c d e f g a)),(84,aa.an [.ac a] 1 true)])
abbrev Bs(k:Nat)(q p:J)(j r:bw)(i h:aa)(m:List J)(b o l n:Nat)(c d e f g a:Int):T:=(af 104 [(0,(fC k q p j b n)),(1,(fi r b c d e f g a)),(2,(dK m b o l a)),(3,i),(4,h),(27,(cx a)),(30,(hx c d e f g a)),(71,aa.an [.ac a] 1 true),(82,aa.an [.ac a] 1 true)])
abbrev Bt(k:Nat)(q p:J)(j r:bw)(i h:aa)(m:List J)(b o l n:Nat)(c d e f g a:Int):T:=(af 105 [(0,(fC k q p j b n)),(1,(fi r b c d e f g a)),(2,(dK m b o l a)),(3,i),(4,h),(27,(cx a)),(30,(hx c d e f g a)),(71,aa.an [.ac a] 1 true),(82,aa.an [.ac a] 1 true)])
abbrev Bu(k:Nat)(q p:J)(j r:bw)(i h:aa)(m:List J)(b o l n:Nat)(c d e f g a:Int):T:=(af 106 [(0,(fC k q p j b n)),(1,(fi r b c d e f g a)),(2,(dK m b o l a)),(3,i),(4,h),(29,(cx a)),(32,(hx c d e f g a)),(73,aa.an [.ac a] 1 true),(84,aa.an [.ac a] 1 true)])
abbrev Bv(k:Nat)(q p:J)(j r:bw)(i h:aa)(m:List J)(b o l n:Nat)(c d e f g a:Int):T:=(af 107 [(0,(fC k q p j b n)),(1,(fi r b c d e f g a)),(2,(dK m b o l a)),(3,i),(4,h),(29,(cx a)),(32,(hx c d e f g a)),(73,aa.an [.ac a] 1 true),(84,aa.an [.ac a] 1 true)])
abbrev Bw(k:Nat)(q p:J)(j r:bw)(i h:aa)(m:List J)(b o l n:Nat)(c d e f g a:Int):T:=(af 100 [(0,(ga k q p j b n)),(1,(lX r b c d e f g a)),(2,(dE m b o l)),(3,i),(4,h),(27,(cx a)),(30,(hx c d e f g a)),(71,aa.an [.ac a] 1 true),(95,aa.an [.av 65533] 1 true)])
abbrev Bx(k:Nat)(q p:J)(j r:bw)(i h:aa)(m:List J)(b o l n:Nat)(c d e f g a:Int):T:=(af 102 [(0,(ga k q p j b n)),(1,(lX r b c d e f g a)),(2,(dE m b o l)),(3,i),(4,h),(29,(cx a)),(32,(hx c d e f g a)),(73,aa.an [.ac a] 1 true),(97,aa.an [.av 65533] 1 true)])
abbrev tQ(m:Nat)(q p:J)(l r:bw)(k j:aa)(h:List J)(s o n i:Nat)(c d e f g a:Int)(t:aU):Prop:=(valid (strOf (h.take (i-0))++[UInt8.ofNat (a.toNat)])=false->((↑(((bX c d e f g a).2).length):Int)=0->dA (2^30-8) eV (Bm m q p l r k j h s o n i c d e f g a) bH a/\∀(b:T),dB bad (Bm m q p l r k j h s o n i c d e f g a) bH a b->bif Nat.ble 5 (b.M)then t .bZ b else False)/\(¬(↑(((bX c d e f g a).2).length):Int)=0->dA (2^30-8) eV (Bw m q p l r k j h s o n i c d e f g a) bH a/\∀(b:T),dB bad (Bw m q p l r k j h s o n i c d e f g a) bH a b->bif Nat.ble 5 (b.M)then t .bZ b else False))
abbrev By(m:Nat)(q p:J)(l r:bw)(k j:aa)(h:List J)(s o n i:Nat)(c d e f g a:Int)(t:aU):Prop:=(valid (strOf ((h.drop 1).take (i-1))++[UInt8.ofNat (a.toNat)])=false->((↑(((bX c d e f g a).2).length):Int)=0->dA (2^30-8) eV (Bn m q p l r k j h s o n i c d e f g a) bH a/\∀(b:T),dB bad (Bn m q p l r k j h s o n i c d e f g a) bH a b->bif Nat.ble 5 (b.M)then t .bZ b else False)/\(¬(↑(((bX c d e f g a).2).length):Int)=0->dA (2^30-8) eV (Bx m q p l r k j h s o n i c d e f g a) bH a/\∀(b:T),dB bad (Bx m q p l r k j h s o n i c d e f g a) bH a b->bif Nat.ble 5 (b.M)then t .bZ b else False))
abbrev tR(o:Nat)(q p:J)(n r:bw)(m l:aa)(c:List J)(d j i a:Nat)(e f g h k b:Int)(v:aU):Prop:=((a:Int)=0->(d=d/\0+a=c.length/\a<a+1/\(a+1+(a+1)/4+512)*1<=281474976710656/\a+1<4611686018427387904)/\d+1=d+1/\0+(a+1-0)<=List.length (c++[.ac b])/\(∃u,((aa.bg (dK c d j i b)).drop (bB.idx ⟨2,d+1,0,0,1⟩)).take (a+1-0)=aE u)/\(strOf (((c.append [.ac b]).drop 0).take (a+1-0))).length<1099511627776/\(valid (strOf (((c.append [.ac b]).drop 0).take (a+1-0)))=true->cJ (Bo o q p n r m l c d j i a e f g h k b) bH ((h4 e f g h k b))/\∀(s:T),cK (Bo o q p n r m l c d j i a e f g h k b) bH ((h4 e f g h k b)) s->bif Nat.ble 5 (s.M)then v .bZ s else False)/\(valid (strOf (((c.append [.ac b]).drop 0).take (a+1-0)))=false->d+1=d+1/\0+(a+1)<=List.length (c++[.ac b])/\(∃u,((aa.bg (dK c d j i b)).drop (bB.idx ⟨2,d+1,0,0,1⟩)).take (a+1)=aE u)/\cJ (Bp o q p n r m l c d j i a e f g h k b) bH ((gH c a b))/\∀(t:T),cK (Bp o q p n r m l c d j i a e f g h k b) bH ((gH c a b)) t->bif Nat.ble 5 (t.M)then v .bZ t else False))
abbrev tS(o:Nat)(q p:J)(n r:bw)(m l:aa)(c:List J)(d j i a:Nat)(e f g h k b:Int)(v:aU):Prop:=(valid (strOf (c.take (a-0))++[UInt8.ofNat (b.toNat)])=true->(d=d/\0+a=c.length/\a<a+1/\(a+1+(a+1)/4+512)*1<=281474976710656/\a+1<4611686018427387904)/\d+1=d+1/\0+(a+1-0)<=List.length (c++[.ac b])/\(∃u,((aa.bg (dK c d j i b)).drop (bB.idx ⟨2,d+1,0,0,1⟩)).take (a+1-0)=aE u)/\(strOf (((c.append [.ac b]).drop 0).take (a+1-0))).length<1099511627776/\(valid (strOf (((c.append [.ac b]).drop 0).take (a+1-0)))=true->cJ (Bs o q p n r m l c d j i a e f g h k b) bH ((h4 e f g h k b))/\∀(s:T),cK (Bs o q p n r m l c d j i a e f g h k b) bH ((h4 e f g h k b)) s->bif Nat.ble 5 (s.M)then v .bZ s else False)/\(valid (strOf (((c.append [.ac b]).drop 0).take (a+1-0)))=false->d+1=d+1/\0+(a+1)<=List.length (c++[.ac b])/\(∃u,((aa.bg (dK c d j i b)).drop (bB.idx ⟨2,d+1,0,0,1⟩)).take (a+1)=aE u)/\cJ (Bt o q p n r m l c d j i a e f g h k b) bH ((gH c a b))/\∀(t:T),cK (Bt o q p n r m l c d j i a e f g h k b) bH ((gH c a b)) t->bif Nat.ble 5 (t.M)then v .bZ t else False))
abbrev Bz(o:Nat)(q p:J)(n r:bw)(m l:aa)(c:List J)(d j i a:Nat)(e f g h k b:Int)(v:aU):Prop:=((a:Int)=1->(d=d/\0+a=c.length/\a<a+1/\(a+1+(a+1)/4+512)*1<=281474976710656/\a+1<4611686018427387904)/\((0:Int)<=1/\1<=(↑(a+1):Int)/\a+1<=a+1)/\d+1=d+1/\1+(a+1-1)<=List.length (c++[.ac b])/\(∃u,((aa.bg (dK c d j i b)).drop (bB.idx ⟨2,d+1,1,0,1⟩)).take (a+1-1)=aE u)/\(strOf (((c.append [.ac b]).drop 1).take (a+1-1))).length<1099511627776/\(valid (strOf (((c.append [.ac b]).drop 1).take (a+1-1)))=true->cJ (Bq o q p n r m l c d j i a e f g h k b) bH ((h5 e f g h k b))/\∀(s:T),cK (Bq o q p n r m l c d j i a e f g h k b) bH ((h5 e f g h k b)) s->bif Nat.ble 5 (s.M)then v .bZ s else False)/\(valid (strOf (((c.append [.ac b]).drop 1).take (a+1-1)))=false->d+1=d+1/\0+(a+1)<=List.length (c++[.ac b])/\(∃u,((aa.bg (dK c d j i b)).drop (bB.idx ⟨2,d+1,0,0,1⟩)).take (a+1)=aE u)/\cJ (Br o q p n r m l c d j i a e f g h k b) bH ((gH c a b))/\∀(t:T),cK (Br o q p n r m l c d j i a e f g h k b) bH ((gH c a b)) t->bif Nat.ble 5 (t.M)then v .bZ t else False))
abbrev BA(o:Nat)(q p:J)(n r:bw)(m l:aa)(c:List J)(d j i a:Nat)(e f g h k b:Int)(v:aU):Prop:=(valid (strOf ((c.drop 1).take (a-1))++[UInt8.ofNat (b.toNat)])=true->(d=d/\0+a=c.length/\a<a+1/\(a+1+(a+1)/4+512)*1<=281474976710656/\a+1<4611686018427387904)/\((0:Int)<=1/\1<=(↑(a+1):Int)/\a+1<=a+1)/\d+1=d+1/\1+(a+1-1)<=List.length (c++[.ac b])/\(∃u,((aa.bg (dK c d j i b)).drop (bB.idx ⟨2,d+1,1,0,1⟩)).take (a+1-1)=aE u)/\(strOf (((c.append [.ac b]).drop 1).take (a+1-1))).length<1099511627776/\(valid (strOf (((c.append [.ac b]).drop 1).take (a+1-1)))=true->cJ (Bu o q p n r m l c d j i a e f g h k b) bH ((h5 e f g h k b))/\∀(s:T),cK (Bu o q p n r m l c d j i a e f g h k b) bH ((h5 e f g h k b)) s->bif Nat.ble 5 (s.M)then v .bZ s else False)/\(valid (strOf (((c.append [.ac b]).drop 1).take (a+1-1)))=false->d+1=d+1/\0+(a+1)<=List.length (c++[.ac b])/\(∃u,((aa.bg (dK c d j i b)).drop (bB.idx ⟨2,d+1,0,0,1⟩)).take (a+1)=aE u)/\cJ (Bv o q p n r m l c d j i a e f g h k b) bH ((gH c a b))/\∀(t:T),cK (Bv o q p n r m l c d j i a e f g h k b) bH ((gH c a b)) t->bif Nat.ble 5 (t.M)then v .bZ t else False))
def Ra(p:Nat)(r q:J)(o s:bw)(n m:aa)(b:List J)(d k j a:Nat)(e f g h i c:Int)(l:aU)(u:(0<(a:Int)->(fL 0 a)/\d=d/\b[0]? =some (.ac (aS b 0))/\(aS b 0=27-> ¬(bX e f g h i c).1=[]/\((bX e f g h i c).1).length=1/\gE e f g h i c/\(0<(↑(((bX e f g h i c).2).length):Int)->(Bz p r q o s n m b d k j a e f g h i c l)/\(¬(a:Int)=1->((0:Int)<=1/\1<=(a:Int)/\a<=a)/\d=d/\1+(a-1)<=b.length/\(∃t,((aa.bg (dE b d k j)).drop (bB.idx ⟨2,d,1,0,1⟩)).take (a-1)=aE t)/\bY ((strOf ((b.drop 1).take (a-1))).length+List.length [UInt8.ofNat (c.toNat)])/\(strOf ((b.drop 1).take (a-1))++[UInt8.ofNat (c.toNat)]).length<1099511627776/\(BA p r q o s n m b d k j a e f g h i c l)/\(By p r q o s n m b d k j a e f g h i c l)))/\(¬0<(↑(((bX e f g h i c).2).length):Int)->(Bz p r q o s n m b d k j a e f g h i c l)/\(¬(a:Int)=1->((0:Int)<=1/\1<=(a:Int)/\a<=a)/\d=d/\1+(a-1)<=b.length/\(∃t,((aa.bg (dE b d k j)).drop (bB.idx ⟨2,d,1,0,1⟩)).take (a-1)=aE t)/\bY ((strOf ((b.drop 1).take (a-1))).length+List.length [UInt8.ofNat (c.toNat)])/\(strOf ((b.drop 1).take (a-1))++[UInt8.ofNat (c.toNat)]).length<1099511627776/\(BA p r q o s n m b d k j a e f g h i c l)/\(By p r q o s n m b d k j a e f g h i c l))))/\(¬aS b 0=27-> ¬(bX e f g h i c).1=[]/\((bX e f g h i c).1).length=1/\gE e f g h i c/\(0<(↑(((bX e f g h i c).2).length):Int)->(tR p r q o s n m b d k j a e f g h i c l)/\(¬(a:Int)=0->d=d/\0+(a-0)<=b.length/\(∃t,((aa.bg (dE b d k j)).drop (bB.idx ⟨2,d,0,0,1⟩)).take (a-0)=aE t)/\bY ((strOf (b.take (a-0))).length+List.length [UInt8.ofNat (c.toNat)])/\(strOf (b.take (a-0))++[UInt8.ofNat (c.toNat)]).length<1099511627776/\(tS p r q o s n m b d k j a e f g h i c l)/\(tQ p r q o s n m b d k j a e f g h i c l)))/\(¬0<(↑(((bX e f g h i c).2).length):Int)->(tR p r q o s n m b d k j a e f g h i c l)/\(¬(a:Int)=0->d=d/\0+(a-0)<=b.length/\(∃t,((aa.bg (dE b d k j)).drop (bB.idx ⟨2,d,0,0,1⟩)).take (a-0)=aE t)/\bY ((strOf (b.take (a-0))).length+List.length [UInt8.ofNat (c.toNat)])/\(strOf (b.take (a-0))++[UInt8.ofNat (c.toNat)]).length<1099511627776/\(tS p r q o s n m b d k j a e f g h i c l)/\(tQ p r q o s n m b d k j a e f g h i c l)))))/\(¬0<(a:Int)-> ¬(bX e f g h i c).1=[]/\((bX e f g h i c).1).length=1/\gE e f g h i c/\(0<(↑(((bX e f g h i c).2).length):Int)->(tR p r q o s n m b d k j a e f g h i c l)/\(¬(a:Int)=0->d=d/\0+(a-0)<=b.length/\(∃t,((aa.bg (dE b d k j)).drop (bB.idx ⟨2,d,0,0,1⟩)).take (a-0)=aE t)/\bY ((strOf (b.take (a-0))).length+List.length [UInt8.ofNat (c.toNat)])/\(strOf (b.take (a-0))++[UInt8.ofNat (c.toNat)]).length<1099511627776/\(tS p r q o s n m b d k j a e f g h i c l)/\(tQ p r q o s n m b d k j a e f g h i c l)))/\(¬0<(↑(((bX e f g h i c).2).length):Int)->(tR p r q o s n m b d k j a e f g h i c l)/\(¬(a:Int)=0->d=d/\0+(a-0)<=b.length/\(∃t,((aa.bg (dE b d k j)).drop (bB.idx ⟨2,d,0,0,1⟩)).take (a-0)=aE t)/\bY ((strOf (b.take (a-0))).length+List.length [UInt8.ofNat (c.toNat)])/\(strOf (b.take (a-0))++[UInt8.ofNat (c.toNat)]).length<1099511627776/\(tS p r q o s n m b d k j a e f g h i c l)/\(tQ p r q o s n m b d k j a e f g h i c l))))) :
 bl 90 [J.aT 0,.ac c] (T.of [bJ 0 p 1 (.aB 2 d 0 a a) r false q o,fN e f g h i s,b4 b 1 d k j b',n,m]) l :=
 bm Q6 (.al 1005 (ab 1011<|ab 1012<|.al 1013 (he 4004<|.al 4005 (.al 6010 (ab 7007 Bk)<|ab 6018<|ab 6019 w7)<|.al 6010 (ab 7007 Bk)<|ab 6018<|ab 6019 w7)<|he 4004<|.al 4005 w8 w8)<|he 4004<|.al 4005 w8 w8) u
abbrev mR(g:Nat)(a b c d f e:Int):aa:=⟨[.av (↑(List.getD ((bX a b c d f e).1) 0 0):Int),.av (↑(List.getD ((bX a b c d f e).1) 1 0):Int)],1,false,false,1,0,1,some (21,0)⟩
abbrev G3:b7:=(.al 4005 (ab 6019<|ab 6023 Bl)<|ab 6019<|ab 6023 Bl)
abbrev BB(k:Nat)(q p:J)(j r:bw)(i h:aa)(m:List J)(b o l n:Nat)(c d e f g a:Int):T:=(af 95 [(0,(ga k q p j b n)),(1,(fi r b c d e f g a)),(2,(dE m b o l)),(3,i),(4,h),(27,(cx a)),(30,(mR b c d e f g a)),(71,aa.an [.ac a] 1 true)])
abbrev BC(k:Nat)(q p:J)(j r:bw)(i h:aa)(m:List J)(b o l n:Nat)(c d e f g a:Int):T:=(af 97 [(0,(ga k q p j b n)),(1,(fi r b c d e f g a)),(2,(dE m b o l)),(3,i),(4,h),(29,(cx a)),(32,(mR b c d e f g a)),(73,aa.an [.ac a] 1 true)])
abbrev BD(k:Nat)(q p:J)(j r:bw)(i h:aa)(m:List J)(b o l n:Nat)(c d e f g a:Int):T:=(af 104 [(0,(fC k q p j b n)),(1,(fi r b c d e f g a)),(2,(dK m b o l a)),(3,i),(4,h),(27,(cx a)),(30,(mR b c d e f g a)),(71,aa.an [.ac a] 1 true),(82,aa.an [.ac a] 1 true)])
abbrev BE(k:Nat)(q p:J)(j r:bw)(i h:aa)(m:List J)(b o l n:Nat)(c d e f g a:Int):T:=(af 105 [(0,(fC k q p j b n)),(1,(fi r b c d e f g a)),(2,(dK m b o l a)),(3,i),(4,h),(27,(cx a)),(30,(mR b c d e f g a)),(71,aa.an [.ac a] 1 true),(82,aa.an [.ac a] 1 true)])
abbrev BF(k:Nat)(q p:J)(j r:bw)(i h:aa)(m:List J)(b o l n:Nat)(c d e f g a:Int):T:=(af 106 [(0,(fC k q p j b n)),(1,(fi r b c d e f g a)),(2,(dK m b o l a)),(3,i),(4,h),(29,(cx a)),(32,(mR b c d e f g a)),(73,aa.an [.ac a] 1 true),(84,aa.an [.ac a] 1 true)])
abbrev BG(k:Nat)(q p:J)(j r:bw)(i h:aa)(m:List J)(b o l n:Nat)(c d e f g a:Int):T:=(af 107 [(0,(fC k q p j b n)),(1,(fi r b c d e f g a)),(2,(dK m b o l a)),(3,i),(4,h),(29,(cx a)),(32,(mR b c d e f g a)),(73,aa.an [.ac a] 1 true),(84,aa.an [.ac a] 1 true)])
abbrev BH(k:Nat)(q p:J)(j r:bw)(i h:aa)(m:List J)(b o l n:Nat)(c d e f g a:Int):T:=(af 100 [(0,(ga k q p j b n)),(1,(lX r b c d e f g a)),(2,(dE m b o l)),(3,i),(4,h),(27,(cx a)),(30,(mR b c d e f g a)),(71,aa.an [.ac a] 1 true),(95,aa.an [.av 65533] 1 true)])
abbrev BI(k:Nat)(q p:J)(j r:bw)(i h:aa)(m:List J)(b o l n:Nat)(c d e f g a:Int):T:=(af 102 [(0,(ga k q p j b n)),(1,(lX r b c d e f g a)),(2,(dE m b o l)),(3,i),(4,h),(29,(cx a)),(32,(mR b c d e f g a)),(73,aa.an [.ac a] 1 true),(97,aa.an [.av 65533] 1 true)])
abbrev tT(m:Nat)(q p:J)(l r:bw)(k j:aa)(h:List J)(s o n i:Nat)(c d e f g a:Int)(t:aU):Prop:=(valid (strOf (h.take (i-0))++[UInt8.ofNat (a.toNat)])=false->((↑(((bX c d e f g a).2).length):Int)=0->dA (2^30-8) eV (BB m q p l r k j h s o n i c d e f g a) bH a/\∀(b:T),dB bad (BB m q p l r k j h s o n i c d e f g a) bH a b->bif Nat.ble 5 (b.M)then t .bZ b else False)/\(¬(↑(((bX c d e f g a).2).length):Int)=0->dA (2^30-8) eV (BH m q p l r k j h s o n i c d e f g a) bH a/\∀(b:T),dB bad (BH m q p l r k j h s o n i c d e f g a) bH a b->bif Nat.ble 5 (b.M)then t .bZ b else False))
abbrev BJ(m:Nat)(q p:J)(l r:bw)(k j:aa)(h:List J)(s o n i:Nat)(c d e f g a:Int)(t:aU):Prop:=(valid (strOf ((h.drop 1).take (i-1))++[UInt8.ofNat (a.toNat)])=false->((↑(((bX c d e f g a).2).length):Int)=0->dA (2^30-8) eV (BC m q p l r k j h s o n i c d e f g a) bH a/\∀(b:T),dB bad (BC m q p l r k j h s o n i c d e f g a) bH a b->bif Nat.ble 5 (b.M)then t .bZ b else False)/\(¬(↑(((bX c d e f g a).2).length):Int)=0->dA (2^30-8) eV (BI m q p l r k j h s o n i c d e f g a) bH a/\∀(b:T),dB bad (BI m q p l r k j h s o n i c d e f g a) bH a b->bif Nat.ble 5 (b.M)then t .bZ b else False))
abbrev tU(o:Nat)(q p:J)(n r:bw)(m l:aa)(c:List J)(d j i a:Nat)(e f g h k b:Int)(v:aU):Prop:=(valid (strOf (c.take (a-0))++[UInt8.ofNat (b.toNat)])=true->(d=d/\0+a=c.length/\a<a+1/\(a+1+(a+1)/4+512)*1<=281474976710656/\a+1<4611686018427387904)/\d+1=d+1/\0+(a+1-0)<=List.length (c++[.ac b])/\(∃u,((aa.bg (dK c d j i b)).drop (bB.idx ⟨2,d+1,0,0,1⟩)).take (a+1-0)=aE u)/\(strOf (((c.append [.ac b]).drop 0).take (a+1-0))).length<1099511627776/\(valid (strOf (((c.append [.ac b]).drop 0).take (a+1-0)))=true->cJ (BD o q p n r m l c d j i a e f g h k b) bH ((h4 e f g h k b))/\∀(s:T),cK (BD o q p n r m l c d j i a e f g h k b) bH ((h4 e f g h k b)) s->bif Nat.ble 5 (s.M)then v .bZ s else False)/\(valid (strOf (((c.append [.ac b]).drop 0).take (a+1-0)))=false->d+1=d+1/\0+(a+1)<=List.length (c++[.ac b])/\(∃u,((aa.bg (dK c d j i b)).drop (bB.idx ⟨2,d+1,0,0,1⟩)).take (a+1)=aE u)/\cJ (BE o q p n r m l c d j i a e f g h k b) bH ((gH c a b))/\∀(t:T),cK (BE o q p n r m l c d j i a e f g h k b) bH ((gH c a b)) t->bif Nat.ble 5 (t.M)then v .bZ t else False))
abbrev BK(o:Nat)(q p:J)(n r:bw)(m l:aa)(c:List J)(d j i a:Nat)(e f g h k b:Int)(v:aU):Prop:=(valid (strOf ((c.drop 1).take (a-1))++[UInt8.ofNat (b.toNat)])=true->(d=d/\0+a=c.length/\a<a+1/\(a+1+(a+1)/4+512)*1<=281474976710656/\a+1<4611686018427387904)/\((0:Int)<=1/\1<=(↑(a+1):Int)/\a+1<=a+1)/\d+1=d+1/\1+(a+1-1)<=List.length (c++[.ac b])/\(∃u,((aa.bg (dK c d j i b)).drop (bB.idx ⟨2,d+1,1,0,1⟩)).take (a+1-1)=aE u)/\(strOf (((c.append [.ac b]).drop 1).take (a+1-1))).length<1099511627776/\(valid (strOf (((c.append [.ac b]).drop 1).take (a+1-1)))=true->cJ (BF o q p n r m l c d j i a e f g h k b) bH ((h5 e f g h k b))/\∀(s:T),cK (BF o q p n r m l c d j i a e f g h k b) bH ((h5 e f g h k b)) s->bif Nat.ble 5 (s.M)then v .bZ s else False)/\(valid (strOf (((c.append [.ac b]).drop 1).take (a+1-1)))=false->d+1=d+1/\0+(a+1)<=List.length (c++[.ac b])/\(∃u,((aa.bg (dK c d j i b)).drop (bB.idx ⟨2,d+1,0,0,1⟩)).take (a+1)=aE u)/\cJ (BG o q p n r m l c d j i a e f g h k b) bH ((gH c a b))/\∀(t:T),cK (BG o q p n r m l c d j i a e f g h k b) bH ((gH c a b)) t->bif Nat.ble 5 (t.M)then v .bZ t else False))
def Rb(p:Nat)(r q:J)(o s:bw)(n m:aa)(b:List J)(d k j a:Nat)(e f g h i c:Int)(l:aU)(u:(0<(a:Int)->(fL 0 a)/\d=d/\b[0]? =some (.ac (aS b 0))/\(aS b 0=27-> ¬(bX e f g h i c).1=[]/\¬((bX e f g h i c).1).length=1/\gE e f g h i c/\(0<(↑(((bX e f g h i c).2).length):Int)->((0:Int)<=1/\1<=(a:Int)/\a<=a)/\d=d/\1+(a-1)<=b.length/\(∃t,((aa.bg (dE b d k j)).drop (bB.idx ⟨2,d,1,0,1⟩)).take (a-1)=aE t)/\bY ((strOf ((b.drop 1).take (a-1))).length+List.length [UInt8.ofNat (c.toNat)])/\(strOf ((b.drop 1).take (a-1))++[UInt8.ofNat (c.toNat)]).length<1099511627776/\(BK p r q o s n m b d k j a e f g h i c l)/\(BJ p r q o s n m b d k j a e f g h i c l))/\(¬0<(↑(((bX e f g h i c).2).length):Int)->((0:Int)<=1/\1<=(a:Int)/\a<=a)/\d=d/\1+(a-1)<=b.length/\(∃t,((aa.bg (dE b d k j)).drop (bB.idx ⟨2,d,1,0,1⟩)).take (a-1)=aE t)/\bY ((strOf ((b.drop 1).take (a-1))).length+List.length [UInt8.ofNat (c.toNat)])/\(strOf ((b.drop 1).take (a-1))++[UInt8.ofNat (c.toNat)]).length<1099511627776/\(BK p r q o s n m b d k j a e f g h i c l)/\(BJ p r q o s n m b d k j a e f g h i c l)))/\(¬aS b 0=27-> ¬(bX e f g h i c).1=[]/\¬((bX e f g h i c).1).length=1/\gE e f g h i c/\(0<(↑(((bX e f g h i c).2).length):Int)->d=d/\0+(a-0)<=b.length/\(∃t,((aa.bg (dE b d k j)).drop (bB.idx ⟨2,d,0,0,1⟩)).take (a-0)=aE t)/\bY ((strOf (b.take (a-0))).length+List.length [UInt8.ofNat (c.toNat)])/\(strOf (b.take (a-0))++[UInt8.ofNat (c.toNat)]).length<1099511627776/\(tU p r q o s n m b d k j a e f g h i c l)/\(tT p r q o s n m b d k j a e f g h i c l))/\(¬0<(↑(((bX e f g h i c).2).length):Int)->d=d/\0+(a-0)<=b.length/\(∃t,((aa.bg (dE b d k j)).drop (bB.idx ⟨2,d,0,0,1⟩)).take (a-0)=aE t)/\bY ((strOf (b.take (a-0))).length+List.length [UInt8.ofNat (c.toNat)])/\(strOf (b.take (a-0))++[UInt8.ofNat (c.toNat)]).length<1099511627776/\(tU p r q o s n m b d k j a e f g h i c l)/\(tT p r q o s n m b d k j a e f g h i c l))))/\(¬0<(a:Int)-> ¬(bX e f g h i c).1=[]/\¬((bX e f g h i c).1).length=1/\gE e f g h i c/\(0<(↑(((bX e f g h i c).2).length):Int)->d=d/\0+(a-0)<=b.length/\(∃t,((aa.bg (dE b d k j)).drop (bB.idx ⟨2,d,0,0,1⟩)).take (a-0)=aE t)/\bY ((strOf (b.take (a-0))).length+List.length [UInt8.ofNat (c.toNat)])/\(strOf (b.take (a-0))++[UInt8.ofNat (c.toNat)]).length<1099511627776/\(tU p r q o s n m b d k j a e f g h i c l)/\(tT p r q o s n m b d k j a e f g h i c l))/\(¬0<(↑(((bX e f g h i c).2).length):Int)->d=d/\0+(a-0)<=b.length/\(∃t,((aa.bg (dE b d k j)).drop (bB.idx ⟨2,d,0,0,1⟩)).take (a-0)=aE t)/\bY ((strOf (b.take (a-0))).length+List.length [UInt8.ofNat (c.toNat)])/\(strOf (b.take (a-0))++[UInt8.ofNat (c.toNat)]).length<1099511627776/\(tU p r q o s n m b d k j a e f g h i c l)/\(tT p r q o s n m b d k j a e f g h i c l)))) :
 bl 90 [J.aT 0,.ac c] (T.of [bJ 0 p 1 (.aB 2 d 0 a a) r false q o,fN e f g h i s,b4 b 1 d k j b',n,m]) l :=
 bm Q8 (.al 1005 (ab 1011<|ab 1012<|.al 1013 (he 4004<|.al 4005 (ab 6018<|ab 6019 w7)<|ab 6018<|ab 6019 w7)<|he 4004 G3)<|he 4004 G3) u
end Go.Proofs.zz
