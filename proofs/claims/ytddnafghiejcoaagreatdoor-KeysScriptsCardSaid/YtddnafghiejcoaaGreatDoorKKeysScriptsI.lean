/-
  Parts of the proof of KeysScripts.
-/
import Derived.ProofKit
import Derived.OpenShut
import Derived.ChangeOld
import Derived.HandedShaped
import Derived.Deep.Matrix
import Derived.LaidMore
import Derived.Stop.Joined
import Derived.Stop.LaidErr
import Derived.MakeChecks
import Derived.Lib.LaidTab
import Derived.LaidOnce
import Derived.Lib.Space
import Derived.Deep.Slices
import Derived.Test.YtddnafghiejcoaaGreatDoorKKeysScriptsH
set_option linter.unusedVariables false
set_option linter.unusedSimpArgs false
namespace Go.Proofs.YtddnafghiejcoaaGreatDoor
open Go.bh Go.Keys Go.Lib
set_option maxRecDepth 1000000
theorem TE{H:T}{col:Nat->Nat}{o k:Option aT}{c c2:Nat}{bA f:List (Int×Bytes)}(aa:kP H col o bA)(h2:kP H col k f)(fn:bA.length<2^60)(n2:f.length<2^60)(eq:∀(r:Nat)(h:r<bA.length),bA[r].2.length<2^60)(l2:∀(r:Nat)(h:r<f.length),f[r].2.length<2^60) :
 ∃H',bu 3 [.slice o bA.length c,.slice k f.length c2] H (.bool true) H':=by
 have m0:=bs.fresh H col 7;obtain⟨aH,b,q,g7,s1⟩:=Im (c:=c) (aa.aJ m0 an) fn eq;have q:bu 13 [.slice o bA.length c] ⟨H.Y+7,H.ay⟩ (.bool aH) ⟨H.Y+7+b,H.ay⟩:=q;cases aH with
 |true =>
  obtain⟨v,ad,s,rfl⟩:=S1 H bA.length c f.length c2 o k ⟨H.Y+7+b,H.ay⟩ (λv ad=>v=.bool true) (aR (Nat.le_refl _) (aR V ⟨⟨q⟩,aR (by show H.Y<=H.Y+7+b;omega) (by
   refine e2 (by show H.Y<=H.Y+7+b+1;omega) ?_
   exact rfl)⟩))
  exact⟨ad,s⟩
 |false =>
 have mk:=bs.fresh H col (7+b);obtain⟨b2,g,A,g8,s2⟩:=Im (c:=c2) (h2.aJ mk an) n2 l2
 have A:bu 13 [.slice k f.length c2] ⟨H.Y+7+b,H.ay⟩ (.bool b2) ⟨H.Y+7+b+g,H.ay⟩:=by have:=A;simp only [<-lJ]at this;exact this
 cases b2 with
 |true =>
  obtain⟨v,ad,s,rfl⟩:=S2 H bA.length c f.length c2 o k ⟨H.Y+7+b,H.ay⟩ ⟨H.Y+7+b+g,H.ay⟩ (λv ad=>v=.bool true) (aR (Nat.le_refl _) (aR V ⟨⟨q⟩,⟨A⟩,ti (by show H.Y+7≠H.Y+7+b;omega),aR (by show H.Y<=H.Y+7+b+g;omega) (by
   refine e2 (by show H.Y<=H.Y+7+b+g+1;omega) ?_
   exact rfl)⟩))
  exact⟨ad,s⟩
 |false =>
 have f0:=s1 rfl;have z2:=s2 rfl;have i2:=Il bA;have i3:=Il f;have L:=bs.fresh H col (7+b+g);obtain⟨G,W,c0,a4,g1,m3,fs⟩:=IA ⟨H.Y+(7+b+g),H.ay⟩ (fresh H col) 0;simp only [<-lJ]at a4 g1 m3 fs L;generalize el:H.Y+7+b+g+2=P at *;generalize d8:H.Y+7+b+g+4=u at *;generalize av:G.set P (cz [] false [])=R at *;generalize a0:R.set u (ke W P (.slice none 0 0) (.slice none 0 0))=l at *;have g4:l.Y=G.Y:=by rw [<-a0,<-av];rfl
 obtain⟨I,X,U,d7,g2,m6,g5⟩:=IA l c0 1;generalize em:l.Y+2=Q at *;generalize d9:l.Y+4=x at *;generalize a2:I.set Q (cz [] false [])=S at *;generalize a3:S.set x (ke X Q (.slice none 0 0) (.slice none 0 0))=e at *;have g6:e.Y=I.Y:=by rw [<-a3,<-a2];rfl
 have Z:=g1.aJ m6 (by simpa using kf 0);have d0:=((aa.aJ L an).aJ m3 an).aJ m6 an;have d5:=((h2.aJ L an).aJ m3 an).aJ m6 an;have m8:=bs.fresh e U 13;obtain⟨a,n,K,d6,c5,c9,dg⟩:=TD (B:=H.Y) (N:=max bA.length f.length) (m:=c) (m2:=c2) f0 z2 (Nat.le_max_left _ _) (Nat.le_max_right _ _) V _ 0 ⟨e.Y+13,e.ay⟩ _ (Nat.le_refl _) V (by show H.Y<=e.Y+13;omega) (Z.aJ m8 an) (g2.aJ m8 an) (d0.aJ m8 an) (d5.aJ m8 an);obtain⟨id,i0,hu,is,f3,y,gs,C,co,f5,ge,c3⟩:=c5;obtain⟨ip,i1,hw,it,f4,z,gt,D,ct,f6,go,c4⟩:=c9;have am:∀{t p d r i:Nat},hh e U t p d r i-> ∃tv wv,e.get p=some (ke d r tv wv):=fun⟨tv,wv,_,_,_,_,_,h,_⟩=>⟨tv,wv,h.get⟩
 obtain⟨_,_,aI⟩:=am Z;obtain⟨_,_,aO⟩:=am g2;obtain⟨f9,g9⟩:=tg co;obtain⟨gc,he⟩:=tg ct;have a9:=bs.fresh a n 36;have M:=C.aJ a9 an;have O:=D.aJ a9 an;have d1:=M.mD.pb V V;have es:=bs.fresh ⟨a.Y+36,a.ay⟩ (fresh a n) 15;have d2:=(M.aJ es an).jy.pb V V;have ex:=bs.fresh ⟨a.Y+36,a.ay⟩ (fresh a n) (15+15);have d3:=(O.aJ ex an).mD.pb V V;have e0:=bs.fresh ⟨a.Y+36,a.ay⟩ (fresh a n) (15+15+15);have d4:=(O.aJ e0 an).jy.pb V V;have a5:=bs.fresh ⟨a.Y+36,a.ay⟩ (fresh a n) (15+15+15+15);have bv:=M.aJ a5 an;have ce:=O.aJ a5 an;simp only [<-lJ]at d2 d3 d4 bv ce;rw [show(y.aw.length+y.ai.length:Nat)=Keys.held y from rfl]at d2;rw [show(z.aw.length+z.ai.length:Nat)=Keys.held z from rfl]at d4;obtain⟨E,f7,f1,fd,bn⟩:=Iv bv V c3;have bn:a.Y+36+15+15+15+15<E.Y:=bn;obtain⟨F,f8,f2,g0,g3⟩:=Iv (ce.aJ fd λj=>TC j _) V c4;have w:=Ty F;have hm:=C.lt;have hs:=D.lt
 have dp:bR H.Y 109 (Code.loop (br 3 0)) (lF o k bA.length c f.length c2 u x 0) ⟨e.Y+12+1,e.ay⟩ (.exit 0) [(5,.ptr (some ⟨u,0,0,0,4⟩)),(6,.ptr (some ⟨x,0,0,0,4⟩)),(7,.int .i64 (K:Nat))] a :=
  (cZ.dJ d6).post (b5.facts (a8.nj (lF o k bA.length c f.length c2 u x K) [5,6,7]))
 obtain⟨v,ad,s,rfl⟩:=S7 H ⟨H.Y+7+b,H.ay⟩ ⟨H.Y+7+b+g,H.ay⟩ G R l I S e a ⟨a.Y+36+15,a.ay⟩ ⟨a.Y+36+15+15,a.ay⟩ ⟨a.Y+36+15+15+15,a.ay⟩ ⟨a.Y+36+15+15+15+15,a.ay⟩ E F F bA.length c f.length c2 W P u X Q x (Keys.held y) (Keys.held z) o k (.int .i64 (K:Nat)) (λv ad=>v=.bool true)
  (aR (Nat.le_refl _) (aR V ⟨⟨q⟩,⟨A⟩,ti (by show H.Y+7≠H.Y+7+b;omega),aR (by show H.Y<=H.Y+7+b+g;omega) ⟨⟨a4⟩,by
   rw [<-av,<-el];exact Ix rfl,by
   rw [<-a0,<-d8];exact Iy rfl,aR V ⟨⟨d7⟩,by
   rw [<-a2,<-em];exact Ix rfl,by
   rw [<-a3,<-d9];exact Iy rfl,aR V ⟨eL (H:=⟨e.Y+12,e.ay⟩) mE aI rfl,eL (H:=⟨e.Y+12,e.ay⟩) mE aO rfl,aR V ⟨dp,aR dg
   ⟨eL (H:=⟨a.Y+36,a.ay⟩) mE C.get rfl,V,⟨d1⟩,ud λ_ _=>rfl,eL (H:=⟨a.Y+36+15,a.ay⟩) pc C.get rfl,V,⟨d2⟩,an,
    eL (H:=⟨a.Y+36+15+15,a.ay⟩) mE D.get rfl,V,⟨d3⟩,ud λ_ _=>rfl,eL (H:=⟨a.Y+36+15+15+15,a.ay⟩) pc D.get rfl,V,⟨d4⟩,an,⟨f1⟩,⟨f2⟩,⟨w⟩,
    ti (by show a.Y+36≠a.Y+36+15+15;omega),ti (by show a.Y+36+15≠a.Y+36+15+15+15;omega),ti (by show a.Y+36+15+15+15+15≠E.Y;omega),by
     refine e2 V ?_
     exact rfl⟩⟩⟩⟩⟩⟩))
 exact⟨ad,s⟩
end Go.Proofs.YtddnafghiejcoaaGreatDoor
namespace Go.Proofs.YtddnafghiejcoaaGreatDoor
open Go.bh Go.Keys
set_option maxRecDepth 1000000
end Go.Proofs.YtddnafghiejcoaaGreatDoor
namespace Go.bh
noncomputable section
open Go.RowKit Go.ChangeShapes Go.WideShapes Go.ChangeAt
structure tj(w:World)(b:ac)(p:Place):Prop where
 ro:p.ro=true
 w4:b.ro=true
 ab:b.ab=0
 es:p.es=b.es
 pos:0<p.es
 exact:p.exact=b.exact
 row:∀(φ:Map)(S:Nat->Prop),Row φ S b 0 p w
 bare:cj b
def kS(ps:List Place):Map:=λi v=>if v=0 then ps[i]? else none
def pf(es:Nat):ac:= {aQ:=[],es,exact:=true,ro:=true,ab:=0,eb:=0,eS:=0,ty:=none}
def qS(es:Nat):Place:= {bH:=0,off:=0,aD:=0,es,dY:=0,exact:=true,ro:=true}
theorem hJ{w:World}(hw:0<w.heap.size){es:Nat}(he:0<es):tj w (pf es) (qS es) where
 ro:=rfl
 w4:=rfl
 ab:=rfl
 es:=rfl
 pos:=he
 exact:=rfl
 row φ S:=⟨hw,(λh=>by cases h),λo b=>by simp [qS]at b,(λh=>by cases h),(λh=>by cases h),(λq h=>by cases h),λi e aa h2 a=>by simp [pf]at a⟩
 bare e he:=by simp [pf]at he
theorem TF{w:World}(hw:0<w.heap.size){k:IntKind}{a:Option Addr}{len cap:Nat}{zs:List Int}
 (h:(a=none/\len=0/\cap=0/\zs=[])\/ ∃x,a=some x/\(0<cap->x.block<w.heap.size)/\len<=cap/\cap<=maxLen/\zs.length=cap/\(∀i,i<zs.length->w.cell? (x.add i)=some (.int k (zs.getD i 0)))/\∀n∈zs,(Lit.int k n).wf=true) (id:Nat) :
 ∃(o:Option aT)(c:Nat)(b:ac)(p:Place),lY o len c id 0 0 1/\tj w b p/\len<=maxLen/\(∀φ:Map,φ id 0=some p->aB φ (.slice o len c) (.slice a len cap)) /\
  (∀j,j<len->b.elem? 0 (0+j)=some (.int k (zs.getD j 0))/\(Lit.int k (zs.getD j 0)).wf=true):=by
 rcases h with ⟨rfl,rfl,rfl,rfl⟩|⟨x,rfl,m,y,hm,D,r,B⟩
 .exact⟨none,0,pf 1,qS 1,.inr ⟨rfl,rfl,rfl⟩,hJ hw V,an,λφ _=>by simp [aB],λj d=> V⟩
 .by_cases v:cap=0
  .subst v;obtain rfl:len=0:= V;refine⟨some ⟨id,0,0,0,1⟩,0,pf 1,qS 1,.inl rfl,hJ hw V,an,λφ s=> ?_,λj d=> V⟩;simp only [aB];exact⟨x,0,rfl,Nat.le_refl _,Nat.le_refl _,.inl ⟨rfl,_,s,rfl,.inl rfl,λ_=>rfl⟩⟩
  have m:=m V
  have A:0<cap->x.spot=none:=λal=>by have aN:=r 0 V;simpa [Addr.add]using World.cell?_spot aN
  have l:∀i,i<cap->x.add i=⟨x.block,x.off+i,none⟩:=by
   intro i ah;have hs:=A V;obtain⟨C,of,uM⟩:=x;simp only at hs;subst hs;unfold Addr.add;split
   .rename_i aN;subst aN;rfl
   .rfl
  refine⟨some ⟨id,0,0,0,1⟩,cap,{aQ:=zs.map (.int k),es:=1,exact:=true,ro:=true,ab:=0,eb:=0,eS:=0,ty:=none},{bH:=x.block,off:=x.off,aD:=0,es:=1,dY:=cap,exact:=true,ro:=true},.inl rfl,?_,V,?_,?_⟩
  .refine⟨rfl,rfl,rfl,rfl,an,rfl,λφ S=>⟨m,(λh=>by cases h),?_,(λh=>by cases h),(λh=>by cases h),(λq h=>by cases h),?_⟩,?_⟩
   .intro o t;simp only [lG]at t;have:=r o V;rw [l o t]at this;simp only [this];rfl
   .intro i e _ _ he;simp only [fc,b4]at he;obtain⟨z,u,rfl⟩:=he;have ah:=(dT.1 u).1;refine⟨by simp [J.cells],by simp only;omega,λj bt g=> ?_⟩;simp only [J.cells]at g
    have d:j=0:=by have:=(dT.1 g).1;simpa using this
    subst d;simp only [fe,a6]at g;subst g;refine⟨.int k z,?_,by simp [aB],by first|trivial|rfl⟩;have aa:=r i ah;rw [l i V]at aa;simp only [Place.at,n8,lG,lI];rw [aa,gf,u];rfl
   .intro e he;obtain⟨z,_,rfl⟩:=dz.1 he;exact ci.int k z
  .intro φ s;simp only [aB];refine⟨x,cap,rfl,y,Nat.le_refl _,.inl ⟨rfl,_,s,rfl,?_,λ_=>rfl⟩⟩;by_cases al:cap=0
   .exact .inl al
   .refine .inr ⟨Nat.le_refl _,?_,an⟩;have:=l 0 V;simp only [Addr.add,dy]at this;simpa [Place.at]using this
  .intro j d;have f:j<zs.length:= V;refine⟨?_,B _ ?_⟩
   .simp [ac.elem?,ac.b0,gf,c7 f,f]
   .rw [gf,c7 f];exact gw f
theorem bl.law{P:Program}{C:(Nat->Prop)->World->Prop}{f:FuncId}{args:List J}{h ad:T}(k:bl P C f args h (.bool true) ad){w:World}(ef:C (λk=>k<w.heap.size) w){φ:Map}(d:cg φ (λk=>k<w.heap.size) h w){a:Array Value}(c:bc φ args a.toList) :
 Calls P f a w λe aZ=>e=.returned (.bool true)/\Below w.heap.size w aZ:=by
 have:=(k (λk=>k<w.heap.size) w (λ_ h=>h) ef _ w a d (Safe.refl _ _) c).2
 exact this.mono λe aZ ⟨g,i,aa,_,h2,_,b,_⟩=>by simp only [aB]at h2;subst h2;exact⟨aa,b.below⟩
end
noncomputable section
open Go.RowKit Go.ChangeShapes Go.WideShapes Go.ChangeAt
structure Bk(φ:Map)(S:Nat->Prop)(w:World)(b:ac)(p:Place):Prop where
 ro:p.ro=true
 w4:b.ro=true
 ab:b.ab=0
 es:p.es=b.es
 pos:0<p.es
 exact:p.exact=b.exact
 row:Row φ S b 0 p w
theorem tj.two{φ:Map}{S:Nat->Prop}{w:World}{b:ac}{p:Place}(h:tj w b p):Bk φ S w b p:=⟨h.ro,h.w4,h.ab,h.es,h.pos,h.exact,h.row φ S⟩
theorem cg.yh{w:World}{S:Nat->Prop}(l:List (ac×Place))(h:∀x∈l,Bk (kS (l.map (·.2))) S w x.1 x.2):cg (kS (l.map (·.2))) S (T.of (l.map (·.1))) w where
 cI i v p ae:=by
  unfold kS at ae;split at ae
  .rename_i c;subst c;rw [fc,b4]at ae;obtain⟨x,b,rfl⟩:=ae;have k:=h x (fR b);have ah:=(dT.1 b).1;refine⟨by rw [T.of_next];simpa using ah,x.1,?_,V,k.es,k.exact,(λh=>by rw [k.w4]at h;cases h),k.pos,k.row⟩;rw [T.dG,fc,b];rfl
  .cases ae
 apart i v p j u q ae a _ _:=by
  have:∀{i v p},kS (l.map (·.2)) i v=some p->p.ro=true:=by
   intro i v p ae;unfold kS at ae;split at ae
   .rw [fc,b4]at ae;obtain⟨x,b,rfl⟩:=ae;exact(h x (fR b)).ro
   .cases ae
  exact⟨this ae,this a⟩
 same i v p u q ae a _:=by
  unfold kS at ae a;split at ae
  .split at a
   .rw [ae]at a;simp only [a6]at a;subst a;exact⟨rfl,rfl⟩
   .cases a
  .cases ae
end
end Go.bh
namespace Go.Proofs.YtddnafghiejcoaaGreatDoor
open Go.ChangeShapes Go.WideShapes Go.RowKit Go.Stop
open Go.bh
set_option maxRecDepth 1000000
theorem TG:(Tryz.prog.globals[5]?).map (·.type)=some 179:= ar
theorem TH:Tryz.prog.cellsOf 179=20:= ar
theorem TI:Tryz.prog.cellsOf 151=1:= ar
theorem TJ{W:World}(h:laidMetH Tryz.prog Rows.keysPiecesRow.laid W):Lib.TabIs Tryz.prog W "internal/strconv.uint64pow10" .u64 Lib.pow10Tab:=by rw [MakeChecks.laidMetH_plain _ _ _ ar]at h;exact Lib.tabIs_of_head yl TG Tryz.underlying179 Tryz.underlying151 TI TH (laidMet.tail (laidMet.tail h))
noncomputable def tm(os:Os):World :=
 {World.doorLaid Tryz.prog 96 os with heap:=(World.doorLaid Tryz.prog 96 os).heap.modify 8 fun
  |.cells _ t frozen=> .cells (Go.Pinned.utf8FirstZ.map fun(z:Nat)=>Value.int .u8 (z:Int)).toArray t frozen
  |o=>o}
theorem TK{P:Program}{w:World}{l:List (String×DataW Unit)}(b M:Nat)(h:(DataW.laidRun P w b (l.map (·.1))).bind (λx=>if nodupBits M x.2 0&&laidRowsB P w x.2 then some x.1 else none)=some l):laidMet P l w:=by
 simp only [Option.bind_eq_some_iff]at h;obtain⟨x,c,d⟩:=h;split at d
 .rename_i a;simp only [cS]at a;simp only [a6]at d;exact laidMet_of_run (ps:=x.2) b (by rw [c,<-d]) (gj (nodupBits_sound a.1).1) a.2
 .cases d
theorem w5(os:Os)(args:Array Value):laidMetH Tryz.prog Rows.keysPiecesRow.laid ((tm os).forCall (λ_ _=>0) ⟨#[],args,[]⟩).memory:=by rw [MakeChecks.laidMetH_plain _ _ _ ar];exact TK 8 257 ar
theorem TL:(Tryz.prog.globals[0]?).map (·.type)=some 113:= ar
theorem TM:Tryz.prog.cellsOf 113=256:= ar
theorem TN:Tryz.prog.cellsOf 5=1:= ar
theorem IB:Tryz.prog.globalNamed "strconv.ErrSyntax" =some 3:= ar
theorem IC:Tryz.prog.globalNamed "strconv.ErrRange" =some 4:= ar
theorem TO:(Tryz.prog.globals[3]?).map (·.type)=some 89:= ar
theorem TP:(Tryz.prog.globals[4]?).map (·.type)=some 89:= ar
theorem ID: "*" ++ "errors.errorString" = "*errors.errorString" := aA
theorem IE(u:TypeId)(h:Tryz.prog.typeName? 3 u=some "*errors.errorString"):u=187 :=
 typeName_ptr_named (nm:= "errors.errorString") (by rw [ID];kernel_rfl) ar aA u (by rw [ID];exact h)
theorem IF:Tryz.prog.cellsOf 189=1:= ar
theorem strCells:Tryz.prog.cellsOf 9=1:= ar
theorem IG{P:Program}{W:World}{n:String}{g:Nat}{v:Value}(ag:P.globalNamed n=some g)(h:W.var? P n=some #[v]):W.cell? ⟨g,0,none⟩=some v/\g<W.heap.size:=by
 unfold World.var? at h;rw [ag]at h;simp only [pq]at h;split at h
 .rename_i aX t f a;simp only [a6]at h;subst h;refine⟨by simp [World.cell?,a],(w9.1 a).1⟩
 .cases h
theorem IH{W:World}{n:String}{g:Nat}{k:IntKind}{t:List Int}(ag:Tryz.prog.globalNamed n=some g)(h:Lib.TabIs Tryz.prog W n k t):g<W.heap.size:=by
 unfold Lib.TabIs World.var? at h;rw [ag]at h;simp only [pq]at h;rcases gg g W.heap.size with k|k
 .exact k
 .rw [n' k]at h;cases h
theorem pH{W:World}{g:Nat}(h:∃m,W.cell? ⟨g,0,none⟩=some (.int .i64 m)):g<W.heap.size:=by
 obtain⟨m,e⟩:=h;rcases gg g W.heap.size with k|k
 .exact k
 .simp [World.cell?,n' k]at e
theorem IL{W:World}(h:laidMetH Tryz.prog Rows.keysPiecesRow.laid W)(e:∃m,W.cell? ⟨2,0,none⟩=some (.int .i64 m)):ck (λk=>k<W.heap.size) W:=by have ae:=TJ h;rw [MakeChecks.laidMetH_plain _ _ _ ar]at h;have b:=laidMet.tail (laidMet.tail (laidMet.tail (laidMet.tail h)));obtain⟨a,s,g,_⟩:=laid_sentinel b IC TP Tryz.underlying89 IE Tryz.underlying187 Tryz.underlying189 rfl rfl Tryz.underlying9 IF strCells;have c:=laidMet.tail b;obtain⟨a2,s2,hs,_⟩:=laid_sentinel c IB TO Tryz.underlying89 IE Tryz.underlying187 Tryz.underlying189 rfl rfl Tryz.underlying9 IF strCells;have f:=laidMet.tail (laidMet.tail c);have d:Lib.TabIs Tryz.prog W "strings.asciiSpace" .u8 Lib.asciiSpaceTab:=Lib.tabIs_of_head ym TL Tryz.underlying113 Tryz.underlying5 TN TM (zs:=Lib.asciiSpaceTab) f;obtain⟨i,j⟩:=IG IC g;obtain⟨s1,s2⟩:=IG IB hs;exact⟨IH yl ae,ae,IH ym d,d,s2,⟨_,_,s1⟩,j,⟨_,_,i⟩,pH e,e⟩
end Go.Proofs.YtddnafghiejcoaaGreatDoor
namespace Go.Proofs.YtddnafghiejcoaaGreatDoor
open Go.ChangeShapes Go.WideShapes Go.ChangeAt Go.RowKit Go.Deep
open Go.bh Go.Keys
set_option maxRecDepth 1000000
theorem wf_u8{n:Int}(h:(Lit.int .u8 n).wf=true):0<=n/\n<=255:=by simp [Lit.wf,IntKind.min,IntKind.max,IntKind.signed,IntKind.bits]at h;omega
def tk(z:Int):UInt8:=UInt8.ofNat z.toNat
theorem TQ{z:Int}(h:0<=z/\z<=255):((tk z).toNat:Int)=z:=by
 have:(tk z).toNat=z.toNat%256:=by unfold tk;simp [po]
 rw [this];omega
end Go.Proofs.YtddnafghiejcoaaGreatDoor
namespace Go.bh
noncomputable section
open Go.RowKit Go.ChangeShapes Go.WideShapes Go.ChangeAt
section
variable {H:Type}{enc:TypeId×Value->H}{P:Program}{w:World}{base:Nat}{spare:Nat->Bool}{held:Bool}
theorem TR{t e:TypeId}(f:P.underlying t=some (.slice e)){a:Option Addr}{len cap:Nat}{d:DataW H}{ps:List MemPlace}(h:DataW.Trod enc P w base spare held t (.slice a len cap) d ps)
 (hw:∀y∈d.weights P t,y<=reachBytes):len*P.bytesOf e<=reachBytes:=by
 obtain⟨i,j⟩:=h;have k:DataW.trod enc P w base spare held i t [.slice a len cap]=some (d,ps):=j;rcases DataW.trod_slice f k with ⟨b,_⟩|⟨x,l,c,aQ,rest,n,_,b,g,_,m,hm,hlen,_⟩
 .simp at b;obtain⟨_,rfl,_⟩:=b;simp
 .simp at b;obtain⟨_,rfl,_⟩:=b;simp only [bo]at g;obtain⟨rfl,_⟩:=g;have:=hw ((aQ.length+rest.length)*P.bytesOf e) (by simp [DataW.weights,f]);rw [hlen]at this;exact Nat.le_trans (mF _ V) this
theorem Bm{t:TypeId}{ts:List TypeId}{d:DataW H}{b:List (DataW H)}{R:Nat}(h:∀y∈DataW.weightsEach P (t::ts) (d::b),y<=R):(∀y∈d.weights P t,y<=R)/\∀y∈DataW.weightsEach P ts b,y<=R :=
 ⟨λy a=>h y (by simp [DataW.weightsEach,a]),λy a=>h y (by simp [DataW.weightsEach,a])⟩
end
end
noncomputable section
open Go.RowKit Go.ChangeShapes Go.WideShapes Go.ChangeAt
theorem II{H:Type}{P:Program} :∀{ts:List TypeId} {a:List (DataW H)} {j:Nat} {t:TypeId} {d:DataW H} {y:Nat},ts[j]? =some t->a[j]? =some d->y∈d.weights P t->y∈DataW.weightsEach P ts a
 |[],_,_,_,_,_,h,_,_=>by cases h
 |_::_,[],_,_,_,_,_,h,_=>by cases h
 |t::ts,d::a,0,_,_,_,aa,h2,b=>by simp at aa h2;subst aa h2;simp only [DataW.weightsEach,eG];exact .inl b
 |t::ts,d::a,j+1,_,_,_,aa,h2,b=>by simp only [DataW.weightsEach,eG];exact .inr (II (j:=j) (by simpa using aa) (by simpa using h2) b)
theorem TS{H:Type}{P:Program}{e:TypeId}{c:List (DataW H)}{d:DataW H}{y:Nat}(b:d∈c)(f:y∈d.weights P e):y∈DataW.weightsAll P e c:=by
 induction c with
 |nil=>cases b
 |cons a r ih =>
  simp only [DataW.weightsAll,eG];rcases cM.1 b with rfl|b
  .exact .inl f
  .exact .inr (ih b)
section
variable {H:Type}{enc:TypeId×Value->H}{P:Program}{w:World}{base:Nat}{spare:Nat->Bool}{held:Bool}
end
end
end Go.bh
namespace Go.Proofs.YtddnafghiejcoaaGreatDoor
open Go.ChangeShapes Go.WideShapes Go.ChangeAt Go.RowKit Go.Deep
open Go.bh Go.Keys
set_option maxRecDepth 1000000
structure Bl(W:World)(x:Addr)(r:Nat)(K:Int)(A:Option Addr)(L C:Nat)(Z:List Int):Prop where
 k:W.cell? (x.add (r*2))=some (.int .i64 K)
 s:W.cell? (x.add (r*2+1))=some (.slice A L C)
 l:L<=C
 m:C<=maxLen
 z:Z.length=C
 w:∀n∈Z,(Lit.int .u8 n).wf=true
 n:A=none->C=0
 c:∀bK,A=some bK-> ∀c,c<C->W.cell? (bK.add c)=some (.int .u8 (Z.getD c 0))
theorem TT{H:Type}{enc:TypeId×Value->H}{W:World}{a:Option Addr}{len cap:Nat}{d0:DataW H}{p:List MemPlace}(aN:DataW.Trod enc Tryz.prog W 0 (λ_=>true) true 22 (.slice a len cap) d0 p) :
 (a=none/\len=0/\cap=0)\/ ∃(x:Addr)(K:Nat->Int)(A:Nat->Option Addr)(L C:Nat->Nat)(Z:Nat->List Int),a=some x/\len<=cap/\cap<=maxLen/\(∀r,r<cap->Bl W x r (K r) (A r) (L r) (C r) (Z r))/\∀r,r<len-> ∀R,(∀y∈d0.weights Tryz.prog 22,y<=R)->L r<=R:=by
 obtain⟨E,N⟩:=aN;have O:DataW.trod enc Tryz.prog W 0 (λ_=>true) true E 22 [.slice a len cap]=some (d0,p):=N;have c2:Tryz.prog.cellsOf 36=2:= ar;have cs:Tryz.prog.cellsOf 5=1:= ar;have aH:Tryz.prog.bytesOf 5=1:= ar;rcases DataW.trod_slice Tryz.underlying22 O with ⟨e,_⟩|⟨x,l,c,aQ,rest,n,_,e,v,_,S,hm,hlen,M,a3,_⟩
 .simp at e;exact .inl e
 .simp at e;obtain⟨rfl,rfl,rfl⟩:=e;obtain⟨ce,a0⟩:=a3 rfl;simp only [bo]at v
  have each:∀i,i<cap-> ∃aX y,W.cells? 0 (x.add (i*2)) 2=some aX/\DataW.trod enc Tryz.prog W 0 (λ_=>true) true n 36 aX=some y/\(i<len->y∈aQ):=by
   intro i ah
   have G:∃y,(W.cells? 0 (x.add (i*Tryz.prog.cellsOf 36)) (Tryz.prog.cellsOf 36)).bind (DataW.trod enc Tryz.prog W 0 (λ_=>true) true n 36)=some y/\(i<len->y∈aQ):=by
    by_cases w:i<len
    .exact⟨_,(M i w).trans (c7 V),λ_=>gw _⟩
    .have:=a0 (i-len) V;rw [show len+(i-len)=i by omega]at this;exact⟨_,this.trans (c7 V),λh=>absurd h w⟩
   obtain⟨y,f,hm⟩:=G;rw [c2,Option.bind_eq_some_iff]at f;obtain⟨aX,aa,h2⟩:=f;exact⟨aX,y,aa,h2,hm⟩
  have key:∀r,r<cap-> ∃q:Int×Option Addr×Nat×Nat×List Int,Bl W x r q.1 q.2.1 q.2.2.1 q.2.2.2.1 q.2.2.2.2/\(r<len-> ∀R,(∀y∈d0.weights Tryz.prog 22,y<=R)->q.2.2.1<=R):=by
   intro r a2;obtain⟨aX,y,aa,h2,av⟩:=each r a2;obtain⟨ct,B,bn,f,s,t0,t1⟩:=trod_struct2 Tryz.underlying36 h2;rw [c2]at s;have o:=(World.cells?_some aa).2.2
   match aX,s with
   |[v0, v1],_ =>
    have e0:=o 0 aA;have aI:=o 1 aA;obtain⟨z,g,_,co⟩:=DataW.trod_int Tryz.underlying3 t0
    have g:v0=.int .i64 z:=by
     have:(List.drop 0 [v0,v1]).take (Tryz.prog.cellsOf 3)=[v0]:=by rw [show Tryz.prog.cellsOf 3=1 by kernel_rfl];rfl
     exact(List.cons.inj (this.symm.trans g)).1
    subst g;have a5:(List.drop 1 [Value.int .i64 z,v1]).take (Tryz.prog.cellsOf 34)=[v1]:=by rw [show Tryz.prog.cellsOf 34=1 by kernel_rfl];rfl
    have e0:W.cell? (x.add (r*2))=some (.int .i64 z):=by
     have:(x.add (r*2)).add 0=x.add (r*2):=by unfold Addr.add;simp
     rw [<-this];exact e0
    have aI:W.cell? (x.add (r*2+1))=some v1:=by rw [<-Go.Deep.add_add];exact aI
    have bv:DataW.trod enc Tryz.prog W 0 (λ_=>true) true bn 34 [v1]=some B:=by rw [<-a5];exact t1
    rcases open_ints Tryz.underlying34 Tryz.underlying5 cs bv with ⟨k,_⟩|⟨bK,b,D,zs,k,_,U,am,m,a9,I,a4⟩
    .obtain rfl:=(List.cons.inj k).1;exact⟨(z,none,0,0,[]),⟨e0,aI,Nat.le_refl _,n6 _,rfl,an,λ_=>rfl,λ_ h=>by cases h⟩,λ_ _ _=>n6 _⟩
    .obtain rfl:=(List.cons.inj k).1;simp only [dy]at m;refine⟨(z,some bK,b,D,zs),⟨e0,aI,U,am,m,a4,(λh=>by cases h),λb2 P c al=> ?_⟩,λX R F=> ?_⟩
     .cases P;exact I c (by rw [m];exact al)
     .have Q:=av X
      have:(zs.take b).length+(zs.drop b).length<=R:=by
       have:=F (((lits (H:=H) .u8 (zs.take b)).length+(lits (H:=H) .u8 (zs.drop b)).length)*Tryz.prog.bytesOf 5) (by
        rw [v.1];simp only [DataW.weights,Tryz.underlying22];refine iR _ (List.mem_append_left _ (TS (dz.2 ⟨_,Q,rfl⟩) ?_));rw [f];simp only [DataW.weights,Tryz.underlying36];refine II (j:=1) (t:=34) (d:=B.1) rfl rfl ?_;rw [a9];simp only [DataW.weights,Tryz.underlying34]
        exact jG)
       rw [aH]at this;simp only [lits,gy]at this;omega
      simp only [kl,ep]at this;show b<=R;omega
  obtain⟨q,u⟩:=choose_lt key;exact .inr ⟨x,λr=>(q r).1,λr=>(q r).2.1,λr=>(q r).2.2.1,λr=>(q r).2.2.2.1,λr=>(q r).2.2.2.2,rfl,S,hm,λr h=>(u r h).1,λr h=>(u r V).2 h⟩
abbrev kT(len:Nat)(K:Nat->Int)(L:Nat->Nat)(Z:Nat->List Int):List (Int×Bytes):=(List.range len).map λr=>(K r,((Z r).take (L r)).map tk)
structure IJ(W:World)(k:Nat)(l:List (ac×bh.Place))(o:Option aT)(len cap:Nat)(a:Option Addr)(bA:List (Int×Bytes)):Prop where
 rel:∀(φ:Map)(S:Nat->Prop),(∀j y,l[j]? =some y->φ (k+j) 0=some y.2)->(∀y∈l,Bk φ S W y.1 y.2)/\aB φ (.slice o len cap) (.slice a len cap)
 arg:∀G:T,(∀j y,l[j]? =some y->G.get (k+j)=some y.1/\k+j<G.Y)->kP G (λ_=>0) o bA
theorem TU{W:World}(hw:0<W.heap.size){x:Addr}{len cap:Nat}{K:Nat->Int}{A:Nat->Option Addr}{L C:Nat->Nat}{Z:Nat->List Int}(a2:len<=cap)(hm:cap<=maxLen)(f:∀r,r<cap->Bl W x r (K r) (A r) (L r) (C r) (Z r))(k:Nat) :
 ∃l,IJ W k l (some ⟨k,0,0,0,2⟩) len cap (some x) (kT len K L Z):=by
 by_cases am:cap=0
 .subst am;obtain rfl:len=0:= V;refine⟨[(pf 2,qS 2)],λφ S H=>⟨λy B=>by rw [cC.1 B];exact(Go.bh.hJ hw V).two,?_⟩,λG _=> .inr ⟨k,0,0,rfl,⟨λh=>absurd rfl h⟩⟩⟩;simp only [aB];exact⟨x,0,rfl,Nat.le_refl _,Nat.le_refl _,.inl ⟨rfl,_,H 0 _ rfl,rfl,.inl rfl,λ_=>rfl⟩⟩
 have each :∀r,∃y:Option aT×Nat×ac×bh.Place,r<cap->lY y.1 (L r) y.2.1 (k+(1+r)) 0 0 1/\tj W y.2.2.1 y.2.2.2/\(∀φ:Map,φ (k+(1+r)) 0=some y.2.2.2->aB φ (.slice y.1 (L r) y.2.1) (.slice (A r) (L r) (C r))) /\
  (∀j,j<L r->y.2.2.1.elem? 0 (0+j)=some (.int .u8 ((Z r).getD j 0))/\(Lit.int .u8 ((Z r).getD j 0)).wf=true):=by
  intro r;by_cases d:r<cap
  .have g:=f r d
   obtain⟨o,c,b,p,cq,cn,ei,hE,lg⟩:=TF (a:=A r) (len:=L r) (cap:=C r) (zs:=Z r) (k:= .u8) hw (by
    cases I:A r with
    |none =>
     have:=g.n I;have g1:=g.l;have g2:=g.z;exact .inl ⟨rfl,V,this,mG.1 V⟩
    |some bK =>
     refine .inr ⟨bK,rfl,λaN=> ?_,g.l,g.m,g.z,λi ah=>g.c bK I i (by have:=g.z;omega),g.w⟩;have:=g.c bK I 0 aN;unfold World.cell? at this;split at this
     .rename_i v;have M:=(w9.1 v).1;simpa [Addr.add]using M
     .cases this) (k+(1+r))
   exact⟨(o,c,b,p),λ_=>⟨cq,cn,hE,lg⟩⟩
  .exact⟨(none,0,pf 1,qS 1),λh=>absurd h d⟩
 let y:=λr=>Classical.choose (each r)
 have B:∀r,r<cap->_:=λr=>Classical.choose_spec (each r)
 have X:x.spot=none:=by have aN:=(f 0 V).k;simpa [Addr.add]using World.cell?_spot aN
 have E:∀i,x.add i=⟨x.block,x.off+i,none⟩:=by
  intro i;obtain⟨b2,of,uM⟩:=x;simp only at X;subst X;unfold Addr.add;split
  .rename_i aN;subst aN;rfl
  .rfl
 have v:x.block<W.heap.size:=by
  have:=(f 0 V).k;unfold World.cell? at this;split at this
  .rename_i v;have M:=(w9.1 v).1;simpa [Addr.add]using M
  .cases this
 let u:ac:= {aQ:=(List.range cap).map λr=> .agg [.int .i64 (K r),.slice (y r).1 (L r) (y r).2.1],es:=2,exact:=true,ro:=true,ab:=0,eb:=0,eS:=0,ty:=none}
 let op:bh.Place:= {bH:=x.block,off:=x.off,aD:=0,es:=2,dY:=cap,exact:=true,ro:=true}
 let l:List (ac×bh.Place):=(u,op)::(List.range cap).map λr=>((y r).2.2.1,(y r).2.2.2)
 have R:∀r,r<cap->l[1+r]? =some ((y r).2.2.1,(y r).2.2.2):=by intro r d;rw [show 1+r=r+1 by omega];simp [l,d]
 refine⟨l,λφ S H=>⟨?_,?_⟩,λG Q=> .inr ⟨k,0,0,rfl,⟨λct=> ?_⟩⟩⟩
 .intro z D;rcases cM.1 D with rfl|D
  .refine⟨rfl,rfl,rfl,rfl,by simp [op],rfl,v,(λh=>by cases h),?_,(λh=>by cases h),(λh=>by cases h),(λq h=>by cases h),?_⟩
   .intro o U;have U:o<cap*2:=U;have aa:o/2<cap:= V;have g:=f _ aa;show(W.cell? ⟨x.block,x.off+o,none⟩).isSome=true;rw [<-E];rcases Nat.mod_two_eq_zero_or_one o with e|e
    .rw [show o=o/2*2 by omega,g.k];rfl
    .rw [show o=o/2*2+1 by omega,g.s];rfl
   .intro i e _ _ he;have he:((List.range cap).map λr=>J.agg [.int .i64 (K r),.slice (y r).1 (L r) (y r).2.1])[i]? =some e:=he;rw [fc,b4]at he;obtain⟨r,P,rfl⟩:=he;have ah:i<cap:=by have:=(dT.1 P).1;simpa using this
    have a3:r=i:=by rw [tr ah]at P;simpa using P.symm
    subst a3;have g:=f r ah;refine⟨by simp [J.cells,op],by simpa [op]using ah,λj bt t=> ?_⟩;simp only [J.cells]at t
    have N:j<2:=by have:=(dT.1 t).1;simpa using this
    rcases (by omega:j=0\/j=1)with rfl|rfl
    .simp only [fe,a6]at t;subst t;refine⟨.int .i64 (K r),?_,by simp [aB],rfl⟩;have aa:=g.k;rw [E]at aa;simpa [Place.at,op]using aa
    .simp only [hj,fe,a6]at t;subst t;refine⟨.slice (A r) (L r) (C r),?_,(B r ah).2.2.1 _ (H (1+r) _ (R r ah)),rfl⟩;have aa:=g.s;rw [E]at aa;simpa [Place.at,op,lJ]using aa
  .obtain⟨r,d,rfl⟩:=dz.1 D;exact(B r (dX.1 d)).2.1.two
 .simp only [aB];refine⟨x,cap,rfl,a2,Nat.le_refl _,.inl ⟨rfl,op,H 0 _ rfl,rfl,?_,λ_=>rfl⟩⟩;refine .inr ⟨Nat.le_refl _,?_,by simp [op]⟩;have:=E 0;simp only [Addr.add,dy]at this;simpa [Place.at,op]using this
 .obtain⟨g0,g1⟩:=Q 0 _ rfl;refine⟨g1,rfl,u,g0,λr h=> ?_⟩;have co:r<len:=by simpa [kT]using h
  have F:r<cap:= V;obtain⟨a5,cq⟩:=Q (1+r) _ (R r F);obtain⟨s1,s2,c0,a9⟩:=B r F;have g:=f r F;have ce:=g.z;have eY:=g.l;have O:((kT len K L Z)[r].2).length=L r:=by simp [kT];omega
  refine⟨(y r).1,(y r).2.1,?_,⟨?_⟩⟩
  .rw [O];have:u.elem? 0 (0+r)=u.aQ[r]? :=by simp [ac.elem?,ac.b0,u];omega
   rw [this];simp [u,F,kT]
  .rcases s1 with hs|⟨hs,D,_⟩
   .refine .inr ⟨k+(1+r),0,0,hs,⟨(y r).2.2.1,a5,λj N=> ?_⟩,cq,rfl⟩;have av:j<L r:=by rw [O]at N;exact N
    obtain⟨bn,bv⟩:=a9 j av;rw [bn];have a0:j<(Z r).length:= V
    have a4:((kT len K L Z)[r].2)[j]=tk ((Z r).getD j 0):=by simp [kT,gf,a0]
    rw [a4,TQ (wf_u8 bv)]
   .exact .inl ⟨hs,mG.1 (by rw [O];exact D)⟩
theorem IK{H:Type}{enc:TypeId×Value->H}{W:World}(hw:0<W.heap.size){a:Option Addr}{len cap:Nat}{d0:DataW H}{p:List MemPlace}(aN:DataW.Trod enc Tryz.prog W 0 (λ_=>true) true 22 (.slice a len cap) d0 p)(c:∀y∈d0.weights Tryz.prog 22,y<=reachBytes)(k:Nat) :
 ∃l o bA,IJ W k l o len cap a bA/\bA.length=len/\len<2^60/\∀(r:Nat)(h:r<bA.length),bA[r].2.length<2^60:=by
 have hlen:=TR Tryz.underlying22 aN c;rw [show Tryz.prog.bytesOf 36=32 by kernel_rfl]at hlen;simp only [reachBytes]at hlen;rcases TT aN with ⟨rfl,rfl,rfl⟩|⟨x,K,A,L,C,Z,rfl,f,hm,b,d⟩
 .exact⟨[],none,[],⟨λφ S _=>⟨an,by simp [aB]⟩,λG _=> .inl ⟨rfl,rfl⟩⟩,rfl,V,λr h=>absurd h (Nat.not_lt_zero _)⟩
 .obtain⟨l,e⟩:=TU hw f hm b k;refine⟨l,_,_,e,by simp [kT],V,λr h=> ?_⟩;have g:r<len:=by simpa [kT]using h
  have:=d r g _ c;simp only [reachBytes]at this;have g1:=(b r V).z;have g2:=(b r V).l;have:((kT len K L Z)[r].2).length=L r:=by simp [kT];omega
  rw [this];omega
theorem IM{H:Type}{enc:TypeId×Value->H}{W:World}{v0 v1:Value}{d0 d1:DataW H}{p q:List MemPlace}(ef:ck (λk=>k<W.heap.size) W)(u:∃a len cap,v0=.slice a len cap)(v:∃a len cap,v1=.slice a len cap)
 (aN:DataW.Trod enc Tryz.prog W 0 (λ_=>true) true 22 v0 d0 p) (aa:DataW.Trod enc Tryz.prog W 0 (λ_=>true) true 22 v1 d1 q) (w:∀y∈d0.weights Tryz.prog 22,y<=reachBytes) (x:∀y∈d1.weights Tryz.prog 22,y<=reachBytes) :
 Calls Tryz.prog 3 #[v0,v1] W λe aZ=>e=.returned (.bool true)/\Below W.heap.size W aZ:=by
 have g:0<W.heap.size:=Nat.lt_of_le_of_lt (n6 _) ef.p;obtain⟨a,len,cap,rfl⟩:=u;obtain⟨a2,D,r,rfl⟩:=v;obtain⟨l,o,bA,m,C,m1,A⟩:=IK g aN w 0;obtain⟨l2,E,F,n,n2,m2,B⟩:=IK g aa x l.length
 have d:∀j y,(l++l2)[j]? =some y->(T.of ((l++l2).map (·.1))).get j=some y.1/\j<(T.of ((l++l2).map (·.1))).Y:=by intro j y b;have s:=(dT.1 b).1;exact⟨by rw [T.dG,fc,b];rfl,by rw [T.of_next,gy];exact s⟩
 have f:∀j y,(l++l2)[j]? =some y->kS ((l++l2).map (·.2)) j 0=some y.2:=by intro j y b;unfold kS;rw [aE rfl,fc,b];rfl
 have i1:∀j y,l[j]? =some y->(l++l2)[0+j]? =some y:=λj y h=>by rw [eM,hW (dT.1 h).1];exact h
 have i2:∀j y,l2[j]? =some y->(l++l2)[l.length+j]? =some y:=λj y h=>by rw [hX (Nat.le_add_right _ _),Nat.add_sub_cancel_left];exact h
 obtain⟨aH,v1⟩:=m.rel (kS ((l++l2).map (·.2))) (λk=>k<W.heap.size) λj y h=>f _ y (i1 j y h)
 obtain⟨b2,v2⟩:=n.rel (kS ((l++l2).map (·.2))) (λk=>k<W.heap.size) λj y h=>f _ y (i2 j y h)
 have s1:=m.arg (T.of ((l++l2).map (·.1))) λj y h=>d _ y (i1 j y h)
 have s2:=n.arg (T.of ((l++l2).map (·.1))) λj y h=>d _ y (i2 j y h)
 have t:cg (kS ((l++l2).map (·.2))) (λk=>k<W.heap.size) (T.of ((l++l2).map (·.1))) W:=cg.yh _ λy z=>(eG.1 z).elim (aH y) (b2 y)
 obtain⟨ad,i⟩:=TE (c:=cap) (c2:=r) s1 s2 V V A B;rw [C,n2]at i;refine bl.law i ef t ?_;simp only [bc];exact⟨_,_,rfl,v1,_,_,rfl,v2,rfl⟩
end Go.Proofs.YtddnafghiejcoaaGreatDoor
