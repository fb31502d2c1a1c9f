/-
  Parts of the proof of KeysNamed.
-/
import Derived.ProofKit
import Derived.OpenShut
import Derived.ChangeOld
import Derived.HandedShaped
import Derived.Deep.Slices
import Derived.LaidMore
import Derived.Stop.Joined
import Derived.Stop.LaidErr
import Derived.MakeChecks
import Derived.Lib.LaidTab
import Derived.LaidOnce
import Derived.Lib.Space
import Derived.Test.YtddnafghiejcoaaGreatDoorKKeysNamedD
set_option linter.unusedVariables false
set_option linter.unusedSimpArgs false
namespace Go.Proofs.YtddnafghiejcoaaGreatDoor
open Go.bh Go.Keys Go.Lib
set_option maxRecDepth 1000000
def ks(c:Int):Bool:=decide (0≤c)&&decide (c≤1114111)&&(decide (c<55296) || decide (57343<c))
theorem yA(c:Int)(H:I):bE 35 [.int .i32 c] H (.bool (ks c)) H:=by refine bn.cL (K9 c (fun v _=>v=.bool (ks c)) ⟨fun aa=>⟨fun ae=>⟨fun aS=> ?_,fun aS=>⟨fun bj=> ?_,fun bj=> ?_⟩⟩,fun ae=> ?_⟩,fun aa=> ?_⟩) rfl rfl H;all_goals simp [ks, *]
theorem tX(r:Nat):(put r).length≤4:=by
 unfold put;dsimp only;by_cases a6:55296≤r∧r≤57343∨1114111<r
 ·rw [if_pos a6];decide
 ·rw [if_neg a6]
  repeat' split
  all_goals simp
theorem CD{c:Nat}(hs:Scalar c)(H:I):bE 48 [.int .i32 (c:Nat)] H (.str (put c)) H:=by
 have al:ks (c:Nat)=true:=by unfold Scalar at hs;simp [ks];omega
 have c1:c≤1114111:=by unfold Scalar at hs;omega
 have q:=yA (c:Nat);rw [al]at q;have c0:(0:Int)≤(c:Nat):= J;have u:∀{z:Int}(n:Nat),Int.toNat z=n→UInt8.ofNat (Int.toNat z)=u8 n:=by intro z n h;rw [h];rfl
 have bz:=put_eq hs;have fit:∀{z:Int},0≤z→z≤1114111→de .i64 z:=fun aa ae=>by unfold de;simp [IntKind.min,IntKind.max,IntKind.signed,IntKind.bits];omega
 have mJ:∀k:Int,Int.tdiv (c:Nat) k=(c:Nat)/k:=fun k=>Int.tdiv_eq_ediv_of_nonneg c0
 have oV:∀(z k:Int),0≤z→Int.tmod z k=z%k:=fun z k h=>Int.tmod_eq_emod_of_nonneg h
 refine bn.cL (K' (c:Nat) (fun v _=>v=.str (put c)) ?_) rfl rfl H;rw [mJ,mJ,mJ,oV _ _ c0,oV _ _ J,oV _ _ J]
 refine⟨⟨q _⟩,⟨J,J⟩,fun aa=>⟨⟨J,J⟩,?_⟩,fun aa=>⟨fun ae=>⟨⟨J,fit J J⟩,⟨J,J⟩,⟨J,J⟩,J,⟨J,J⟩,⟨J,J⟩,?_⟩,
  fun ae=>⟨fun aS=>⟨⟨J,fit J J⟩,⟨J,J⟩,⟨J,J⟩,⟨J,fit J J⟩,J,⟨J,J⟩,⟨J,J⟩,J,⟨J,J⟩,⟨J,J⟩,?_⟩,
   fun aS=>⟨⟨J,fit J J⟩,⟨J,J⟩,⟨J,J⟩,⟨J,fit J J⟩,J,⟨J,J⟩,⟨J,J⟩,⟨J,fit J J⟩,J,⟨J,J⟩,⟨J,J⟩,J,⟨J,J⟩,⟨J,J⟩,?_⟩⟩⟩⟩
 ·rw [bz,if_pos J,u c J]
 ·rw [bz,if_neg J,if_pos J,u (192+c/64) J,u (128+c%64) J]
 ·rw [bz,if_neg J,if_neg J,if_pos J,u (224+c/4096) J,u (128+c/64%64) J,u (128+c%64) J]
 ·rw [bz,if_neg J,if_neg J,if_neg J,u (240+c/262144) J,u (128+c/4096%64) J,u (128+c/64%64) J,u (128+c%64) J]
theorem Lj:∀(t n:Nat)(s:Bytes),n<10^t→t≤20→n<2^60→s.length+t<2^40→ ∃x aH,eP 0 17 (bw 47 0) [(0,.int .i64 (n:Nat)),(3,.str s)] (I.ak 2 []) .ret [(0,x),(2,.str (decDigits n++s)),(3,.str (decDigits n++s))] aH:=by
 have dg:∀n:Nat,(Int.tdiv (n:Nat) 10=((n/10:Nat):Int))∧(Int.tmod (n:Nat) 10=((n%10:Nat):Int))∧(UInt8.ofNat (Int.toNat (48+((n%10:Nat):Int)))=UInt8.ofNat (48+n%10)):=fun n=>⟨rfl,rfl,by congr 1⟩
 have base:∀(n:Nat)(s:Bytes),n/10=0→s.length<2^40→ ∃x aH,eP 0 17 (bw 47 0) [(0,.int .i64 (n:Nat)),(3,.str s)] (I.ak 2 []) .ret [(0,x),(2,.str (decDigits n++s)),(3,.str (decDigits n++s))] aH:=by
  intro n s a6 hs;obtain⟨mJ,oV,u⟩:=dg n;have az:decDigits n=[UInt8.ofNat (48+n%10)]:=by rw [decDigits,dif_pos J];congr 2;omega
  have f:de .i64 ((n/10:Nat):Int):=by show-9223372036854775808≤((n/10:Nat):Int)∧((n/10:Nat):Int)≤9223372036854775807;omega
  obtain⟨e,aA,aa,aR,rfl,rfl,_⟩:=Cx (n:Nat) s (fun e aA aa=>e=.ret∧aA=[(0,.int .i64 (n/10:Nat)),(2,.str (decDigits n++s)),(3,.str (decDigits n++s))]∧True)
   (by rw [mJ,oV,u,az];exact⟨J,⟨J,J⟩,⟨J,J⟩,by show 1+s.length+1≤2^62;omega,⟨J,f⟩,fun _=>⟨rfl,rfl,trivial⟩,fun h=>absurd J h⟩)
  exact⟨_,_,b8.last a1 aR⟩
 intro t;induction t with
 |zero=>intro n s h _ _ hs;exact base n s (by simp at h;omega) J
 |succ t ih =>
  intro n s h bz aI hs;by_cases a6:n/10=0
  ·exact base n s a6 J
  ·obtain⟨mJ,oV,u⟩:=dg n;have f:de .i64 ((n/10:Nat):Int):=by show-9223372036854775808≤((n/10:Nat):Int)∧((n/10:Nat):Int)≤9223372036854775807;omega
   have az:decDigits n=decDigits (n/10)++[UInt8.ofNat (48+n%10)]:=by rw [decDigits,dif_neg J]
   obtain⟨e,aA,aa,aR,rfl,rfl,rfl⟩:=Cx (n:Nat) s (fun e aA aa=>e=.normal∧aA=[(0,.int .i64 (n/10:Nat)),(3,.str (UInt8.ofNat (48+n%10)::s))]∧aa=I.ak 16 [(6,ai.aq [.int .u8 (48+((n%10:Nat):Int))] 1 true)])
    (by rw [mJ,oV,u];exact⟨J,⟨J,J⟩,⟨J,J⟩,by show 1+s.length+1≤2^62;omega,⟨J,f⟩,fun h=>absurd h J,fun _=>⟨rfl,rfl,rfl⟩⟩)
   obtain⟨x,aH,ca⟩:=ih (n/10) (UInt8.ofNat (48+n%10)::s) (by rw [Nat.pow_succ]at h;omega) J J (by simp only [List.length_cons];omega);rw [az,List.append_assoc];exact⟨x,aH,b8.round aR (cY.drop (K:=2) (l:=[]) rfl cg cg (by rfl) (bm.cons trivial (bm.cons trivial bm.nil)) bm.nil) ca⟩
theorem r8{n:Nat}(aI:n<2^60)(H:I):bE 47 [.int .i64 (n:Nat)] H (.str (decDigits n)) H:=by obtain⟨x,aH,ca⟩:=Lj 20 n [] J J aI a1;rw [List.append_nil]at ca;exact bn.cL (La aH (n:Nat) x (decDigits n) (fun v _=>v=.str (decDigits n)) ⟨cQ.ei ca,rfl⟩) rfl rfl H
theorem CE{c m:Nat}(al:c<2^32)(hm:m≤7)(H:I):∃s,bE 63 [.int .i64 (c:Nat),.int .u8 (m:Nat)] H (.str s) H:=by
 have d1:=r8 (n:=c) J;have d2:=r8 (n:=m+1) J;have dv:=ns (n:=c) (k:=9) (by simp;omega);have eE:=ns (n:=m+1) (k:=9) (by simp;omega)
 have CF:∀{F:a'}{k:Nat}{x y:Bytes}{b:Bool},aY F (.tmp k)=.str x→x.length+y.length<2^40→iS (bq.D env) (bq.fa env) b BinOp.add 9 (aY F (.tmp k)) (.str y)=some (.str (x++y)):=by intro F k x y b df ay;rw [df];show(if x.length+y.length<2^62 then some (R.str (x++y))else none)=_;rw [if_pos J]
 refine⟨27::91::decDigits c++[59]++decDigits (m+1)++[117],bn.cL (Lb (c:Nat) (m:Nat) (decDigits c) (decDigits (m+1)) (27::91::decDigits c++[59]) (27::91::decDigits c++[59]++decDigits (m+1)++[117]) (fun v _=>v=.str (27::91::decDigits c++[59]++decDigits (m+1)++[117]))
  ⟨⟨BR (d1 _)⟩,?_,CF rfl ?_,⟨J,J⟩,⟨J,J⟩,⟨BR (d2 _)⟩,?_,CF rfl ?_,?_,rfl⟩) rfl rfl H⟩
 ·show 2+(decDigits c).length+1≤2^62;omega
 ·simp only [List.length_cons,List.length_nil];omega
 ·show _+1≤2^62;simp only [List.length_cons,List.length_append,List.length_nil];omega
 ·simp only [List.length_cons,List.length_append,List.length_nil];omega
 ·exact⟨fun _ q=>absurd (congrArg I.U q) cg⟩
def uz(i:Nat):b1:=if i=13 then⟨2,1,0,0,0,[]⟩else if i=9 then⟨2,2,0,0,0,[]⟩else if i=0 then⟨1,32,4,0,0,[]⟩else if i≤26 then⟨1,96+i,4,0,0,[]⟩else⟨1,64+i,4,0,0,[]⟩
noncomputable def CG(i:Nat):Bool:=match h6 Tryz.prog env 100 62 [.int .u8 (i:Nat)] ⟨0,.nil⟩with
 |some (v,_)=>R.jr [v] [cc (uz i)]
 |none=>false
theorem Lk:∀i:Fin 32,CG i.val=true:=by decide+kernel
theorem Ll{i:Nat}(ag:i<32)(H:I):bE 62 [.int .u8 (i:Nat)] H (cc (uz i)) H:=by
 have h:=Lk ⟨i,ag⟩;unfold CG at h;simp only at h;split at h
 ·rename_i v af aR;have:=R.om h;simp only [List.cons.injEq,and_true]at this;subst this;rw [oD]at aR;exact(bn.mZ dB mixed aR).bare (by intro a aD;rw [List.mem_singleton.1 aD];exact cO.int _ _) (cO.of rfl) H
 ·cases h
abbrev oW(b:Bytes)(v:R):a':=[(1,.ptr (some ⟨0,0,0,0,6⟩)),(3,.str b),(4,v)]
theorem CH(c m:Nat)(b:Bytes)(i:Int)(h:I)(ah:h.get 0=some (bo (aU 1 c m 0 0 []))):cY 0 74 (oW b (.int .i64 i)) h (oW b (.int .i64 i)) (I.ak 31 [(0,bo (aU 1 c m 0 0 []))]):=by have bk:I.rows 31 [(0,bo (aU 1 c m 0 0 []))]=I.ak 31 [(0,bo (aU 1 c m 0 0 []))]:= aG;rw [←bk];exact cY.drop (K:=31) (l:=[(0,bo (aU 1 c m 0 0 []))]) (by simp only [List.map_cons,List.map_nil,ah]) (by rfl) (by rfl) (by rfl) (bm.cons (by simp [bH,Go.bh.ff]) (bm.cons trivial (bm.cons trivial bm.nil))) (bm.cons (mo _ _ _ _) bm.nil)
def CI(c m:Nat)(b:Bytes)(i:Int):Prop:= ∃v aH,(eP 0 74 (bw 36 0) (oW b (.int .i64 i)) (I.ak 31 [(0,bo (aU 1 c m 0 0 []))]) (.exit 0) (oW b v) aH∧aH.get 0=some (bo (aU 1 c m 0 0 []))) ∨
    ∃s,eP 0 74 (bw 36 0) (oW b (.int .i64 i)) (I.ak 31 [(0,bo (aU 1 c m 0 0 []))]) .ret [(1,.ptr (some ⟨0,0,0,0,6⟩)),(2,.str s),(3,.str b),(4,v)] aH
theorem Lm(c m:Nat)(b:Bytes)(hm:m=4∨m=6):∀(t i:Nat),32-i≤t→i≤32→CI c m b (i:Nat):=by
 have fin:∀i,i=32→CI c m b (i:Nat):=by intro i ag;obtain⟨e,aA,aa,aR,rfl,rfl,ah⟩:=CB i (c:Nat) (m:Nat) 0 0 0 b (fun e aA aa=>e=.exit 0∧aA=oW b (.int .i64 (i:Nat))∧aa.get 0=some (bo (aU 1 c m 0 0 []))) ⟨fun h=>absurd h J,fun _=>⟨rfl,rfl,rfl⟩⟩;exact⟨_,_,.inl ⟨b8.last a1 aR,ah⟩⟩
 intro t;induction t with
 |zero=>exact fun i bz ag=>fin i J
 |succ t ih =>
  intro i bz ag;by_cases al:i<32
  ·have q:=Ll al;generalize ac:uz i=x at q
   have CJ : x.x = 0 ∧ x.y = 0 ∧ x.text =[] := by rw [←ac];unfold uz;repeat' split
                                                  all_goals exact⟨rfl,rfl,rfl⟩
   obtain⟨k,d,g,y,z,u⟩:=x;simp only at CJ;obtain⟨rfl,rfl,rfl⟩:=CJ;have eY:((i:Int)+1)=((i+1:Nat):Int):= J
   obtain⟨e,aA,aa,aR,cH⟩:=CB i (c:Nat) (m:Nat) k d g b (fun e aA aa=>(e=.normal∧aA=oW b (.int .i64 ((i:Int)+1))∧aa.get 0=some (bo (aU 1 c m 0 0 [])))∨ ∃s,e=.ret∧aA=[(1,.ptr (some ⟨0,0,0,0,6⟩)),(2,.str s),(3,.str b),(4,.int .i64 (i:Nat))])
    ⟨fun _=>⟨⟨J,J⟩,⟨q _⟩,fun _=>⟨⟨J,J⟩,.inl ⟨rfl,rfl,rfl⟩⟩,fun _=>⟨fun _=>⟨fun _=>⟨⟨J,J⟩,fun _=> .inr ⟨_,rfl,rfl⟩,fun _=> .inr ⟨_,rfl,rfl⟩⟩,fun _=>⟨⟨J,J⟩,.inl ⟨rfl,rfl,rfl⟩⟩⟩,fun _=>⟨⟨J,J⟩,.inl ⟨rfl,rfl,rfl⟩⟩⟩⟩,fun h=>absurd J h⟩
   rcases cH with ⟨rfl,rfl,ah⟩|⟨s,rfl,rfl⟩
   ·obtain⟨v,aH,bA⟩:=ih (i+1) J J;rw [←eY]at bA;rcases bA with ⟨ca,ic⟩|⟨s,ca⟩
    ·exact⟨v,aH,.inl ⟨b8.round aR (CH c m b _ _ ah) ca,ic⟩⟩
    ·exact⟨v,aH,.inr ⟨s,b8.round aR (CH c m b _ _ ah) ca⟩⟩
   ·exact⟨_,_,.inr ⟨s,b8.last a1 aR⟩⟩
  ·exact fin i J
theorem Ln{c m:Nat}(hs:Scalar c)(hm:m≤7)(H:I):∃s,bE 36 [cc ⟨1,c,m,0,0,[]⟩] H (.str s) H:=by
 have an:=CD hs;have ay:=tX c;have al:c<2^32:=by unfold Scalar at hs;omega
 obtain⟨s,gW⟩:=CE (m:=m) al hm ⟨0,.nil⟩;have gW:∀K,bE 63 [.int .i64 (c:Nat),.int .u8 (m:Nat)] K (.str s) K:=fun K=>bn.cL ⟨_,_,gW,rfl⟩ rfl rfl K
 have qo:∀n,bp (bq.D env) 21 ⟨0,0,0,1,6⟩ (I.ak n [(0,bo (aU 1 c m 0 0 []))])=some (.int .i32 (c:Nat))∧bp (bq.D env) 5 ⟨0,0,0,2,6⟩ (I.ak n [(0,bo (aU 1 c m 0 0 []))])=some (.int .u8 (m:Nat)):=fun n=>⟨hq rfl,hp rfl⟩
 have fin:(∃v aa,bE 36 [aU 1 c m 0 0 []] ⟨0,.nil⟩ v aa∧∃t,v=.str t)→ ∃s,bE 36 [cc ⟨1,c,m,0,0,[]⟩] H (.str s) H:=fun⟨v,aa,h,t,e⟩=>⟨t,bn.cL ⟨v,aa,h,e⟩ rfl rfl H⟩
 refine fin ?_;by_cases a6:m=0
 ·subst a6;exact Lc (c:Nat) (put c) (fun v _=> ∃t,v=.str t) ⟨⟨an _⟩,_,rfl⟩
 by_cases ae:m=2
 ·subst ae;exact Ld (c:Nat) (put c) s _ (fun v _=> ∃t,v=.str t) ⟨⟨an _⟩,fun _=>⟨(qo 37).1,⟨J,J⟩,(qo 37).2,⟨gW _⟩,_,rfl⟩,fun _=>⟨fun _=>⟨(qo 37).1,⟨J,J⟩,(qo 37).2,⟨gW _⟩,_,rfl⟩,fun _=>⟨by show 1+(put c).length+1≤2^62;omega,_,rfl⟩⟩⟩
 by_cases oR:m=4∨m=6
 ·obtain⟨v,aH,⟨ca,ah⟩|⟨aX,ca⟩⟩:=Lm c m (put c) oR 32 0 J J
  ·have g7:(⟨aH.U+7,aH.aB⟩:I).get 0=some (bo (aU 1 c m 0 0 [])):=ah;rcases oR with rfl|rfl
   ·exact Le (c:Nat) (put c) s aH _ v (fun v _=> ∃t,v=.str t) ⟨⟨an _⟩,cQ.ei ca,hq g7,⟨J,J⟩,hp g7,⟨gW _⟩,_,rfl⟩
   ·exact Lg (c:Nat) (put c) s aH _ v (fun v _=> ∃t,v=.str t) ⟨⟨an _⟩,cQ.ei ca,hq g7,⟨J,J⟩,hp g7,⟨gW _⟩,_,rfl⟩
  ·rcases oR with rfl|rfl
   ·exact Lf (c:Nat) (put c) aX aH v (fun v _=> ∃t,v=.str t) ⟨⟨an _⟩,cQ.ei ca,_,rfl⟩
   ·exact Lh (c:Nat) (put c) aX aH v (fun v _=> ∃t,v=.str t) ⟨⟨an _⟩,cQ.ei ca,_,rfl⟩
 ·exact Li (c:Nat) (m:Nat) (put c) s _ (fun v _=> ∃t,v=.str t) ⟨⟨an _⟩,by simp;omega,by simp;omega,by simp;omega,by simp;omega,(qo 37).1,⟨J,J⟩,(qo 37).2,⟨gW _⟩,_,rfl⟩
end Go.Proofs.YtddnafghiejcoaaGreatDoor
namespace Go.Proofs.YtddnafghiejcoaaGreatDoor
open Go.bh Go.Keys Go.Lib
set_option maxRecDepth 1000000
def jn(n:Nat):Nat:=[0,9,11,12,10,13,14,9,10,0,0,21,22,23,24,25,0,26,27,28,29,30,0,31,32,0,0,0,0,0].getD n 0
def CK(n:Nat):Nat:=if n=65 then 5 else if n=66 then 6 else if n=67 then 7 else if n=68 then 8 else if n=72 then 9 else if n=70 then 10 else 0
noncomputable def uA(r:Option (R×I))(n:Nat):Bool:=match r with
 |some (v,_)=>R.jr [v] [.int .i32 (n:Nat)]
 |none=>false
theorem CL{f:FuncId}{args:List R}{k n:Nat}(h:uA (h6 Tryz.prog env k f args ⟨0,.nil⟩) n=true)(aD:∀a∈args,cO a)(H:I):bE f args H (.int .i32 (n:Nat)) H:=by
 unfold uA at h;split at h
 ·rename_i v af aR;have:=R.om h;simp only [List.cons.injEq,and_true]at this;subst this;rw [oD]at aR;exact(bn.mZ dB mixed aR).bare aD (cO.int _ _) H
 ·cases h
theorem Lo:∀n:Fin 30,uA (h6 Tryz.prog env 100 65 [.int .i64 (n.val:Nat)] ⟨0,.nil⟩) (jn n.val)=true:=by decide+kernel
theorem Lp:∀n:Fin 8,uA (h6 Tryz.prog env 100 64 [.int .u8 ((n.val+65:Nat):Nat)] ⟨0,.nil⟩) (CK (n.val+65))=true:=by decide+kernel
abbrev gI:R:=R.str [65,66,67,68,72,70]
abbrev dR(k m:Int):R:=R.agg [.int .i8 2,.int .i32 k,.int .u8 m,.int .i64 0,.int .i64 0,.str []]
abbrev fv(k m:Int):ai:=(ai.aq ([(dR k m)]) 6 true (some (42,6)))
theorem CM(i:Nat)(k m a u:Int)(d s w:Bytes)(ad:ch→a'→I→Prop)(aP:((i:Int)<6→g' env.D 9 (gI) (.int .i64 (i:Int))=some (.int .u8 u)∧bu 64 [.int .u8 u] (I.ak 49 [(0,(fv k m))]) (.int .i32 a) (I.ak 49 [(0,(fv k m))])∧mB 49 (I.ak 49 [(0,(fv k m))]) (I.ak 49 [(0,(fv k m))])=true∧(a=k→(m=0→(-9223372036854775808≤(i:Int)+1∧(i:Int)+1≤9223372036854775807)∧eg env.D 9 (gI) (some (.int .i64 (i:Int))) (some (.int .i64 ((i:Int)+1))) none=some (R.str s)∧Nat.le (Nat.succ (List.length (Array.toList (ByteArray.data {data:= #[27,91]}))+List.length s)) (2^62)∧ad .ret [(1,.ptr (aC 0)),(2,.str ((27:UInt8)::(91:UInt8)::s)),(3,.bool true),(4,.str d),(8,gI),(9,.int .i64 (i:Int))] (I.ak 60 [(0,(fv k m))]))∧(¬m=0→Nat.le (Nat.succ (List.length (Array.toList (ByteArray.data {data:= #[27,91,49,59]}))+List.length d)) (2^62)∧(-9223372036854775808≤(i:Int)+1∧(i:Int)+1≤9223372036854775807)∧eg env.D 9 (gI) (some (.int .i64 (i:Int))) (some (.int .i64 ((i:Int)+1))) none=some (R.str s)∧Decidable.rec (fun h=>(fun x=>none) h) (fun h=>(fun x=>some (R.str ((27:UInt8)::(91:UInt8)::(49:UInt8)::(59:UInt8)::d++s))) h) (Nat.decLt (List.length ((27:UInt8)::(91:UInt8)::(49:UInt8)::(59:UInt8)::d)+List.length s) (2^62))=some (R.str w)∧ad .ret [(1,.ptr (aC 0)),(2,.str w),(3,.bool true),(4,.str d),(8,gI),(9,.int .i64 (i:Int))] (I.ak 62 [(0,(fv k m))])))∧(¬a=k→(-9223372036854775808≤(i:Int)+1∧(i:Int)+1≤9223372036854775807)∧ad .normal [(1,.ptr (aC 0)),(4,.str d),(8,gI),(9,.int .i64 ((i:Int)+1))] (I.ak 52 [(0,(fv k m))])))∧(¬(i:Int)<6→ad (.exit 0) [(1,.ptr (aC 0)),(4,.str d),(8,gI),(9,.int .i64 (i:Int))] (I.ak 42 [(0,(fv k m))]))) :
 ∃e aA aa,bK 0 150 (bw 37 0) [(1,.ptr (aC 0)),(4,.str d),(8,.str [65,66,67,68,72,70]),(9,.int .i64 (i:Nat))] (I.ak 40 [(0,bo (aU 2 k m 0 0 []))]) e aA aa∧ad e aA aa :=
 eB dB mixed cl (hs:= .aO 15001 (.ao (.val 17002 (.int .u8 u)) (.ao (.val 17003 (.int .i32 a)) (.aO 17006 (.aO 18002 (ah 19003 (.ao (.val 19004 (.str s)) (ah 19005 .nil))) (ah 20001 (ah 20005 (.ao (.val 20006 (.str s)) (.ao (.val 20007 (.str w)) .nil))))) (ah 16001 .nil)))) .nil) (keep:=[1,2,3,4,8,9]) aG aP
theorem CN(i:Nat)(k m a:Int)(d s w v u:Bytes)(ad:ch→a'→I→Prop)(aP:((i:Int)<30→((i:Int)=4→(-9223372036854775808≤(i:Int)+1∧(i:Int)+1≤9223372036854775807)∧ad .normal [(1,.ptr (aC 0)),(4,.str d),(10,.int .i64 ((i:Int)+1))] (I.ak 117 [(0,(fv k m))]))∧(¬(i:Int)=4→((i:Int)=7→(-9223372036854775808≤(i:Int)+1∧(i:Int)+1≤9223372036854775807)∧ad .normal [(1,.ptr (aC 0)),(4,.str d),(10,.int .i64 ((i:Int)+1))] (I.ak 117 [(0,(fv k m))]))∧(¬(i:Int)=7→((i:Int)=8→(-9223372036854775808≤(i:Int)+1∧(i:Int)+1≤9223372036854775807)∧ad .normal [(1,.ptr (aC 0)),(4,.str d),(10,.int .i64 ((i:Int)+1))] (I.ak 117 [(0,(fv k m))]))∧(¬(i:Int)=8→bu 65 [.int .i64 (i:Int)] (I.ak 114 [(0,(fv k m))]) (.int .i32 a) (I.ak 114 [(0,(fv k m))])∧mB 114 (I.ak 114 [(0,(fv k m))]) (I.ak 114 [(0,(fv k m))])=true∧(a=k→(0<k→(m=0→bu 47 [.int .i64 (i:Int)] (I.ak 123 [(0,(fv k m))]) (.str s) (I.ak 123 [(0,(fv k m))])∧Nat.le (Nat.succ (List.length (Array.toList (ByteArray.data {data:= #[27,91]}))+List.length s)) (2^62)∧Decidable.rec (fun h=>(fun x=>none) h) (fun h=>(fun x=>some (R.str ((27:UInt8)::(91:UInt8)::s++Array.toList (ByteArray.data {data:= #[126]})))) h) (Nat.decLt (List.length ((27:UInt8)::(91:UInt8)::s)+List.length (Array.toList (ByteArray.data {data:= #[126]}))) (2^62))=some (R.str v)∧ad .ret [(1,.ptr (aC 0)),(2,.str v),(3,.bool true),(4,.str d),(10,.int .i64 (i:Int))] (I.ak 123 [(0,(fv k m))]))∧(¬m=0→bu 47 [.int .i64 (i:Int)] (I.ak 126 [(0,(fv k m))]) (.str s) (I.ak 126 [(0,(fv k m))])∧Nat.le (Nat.succ (List.length (Array.toList (ByteArray.data {data:= #[27,91]}))+List.length s)) (2^62)∧Decidable.rec (fun h=>(fun x=>none) h) (fun h=>(fun x=>some (R.str ((27:UInt8)::(91:UInt8)::s++Array.toList (ByteArray.data {data:= #[59]})))) h) (Nat.decLt (List.length ((27:UInt8)::(91:UInt8)::s)+List.length (Array.toList (ByteArray.data {data:= #[59]}))) (2^62))=some (R.str u)∧Nat.le (Nat.succ (List.length u+List.length d)) (2^62)∧Decidable.rec (fun h=>(fun x=>none) h) (fun h=>(fun x=>some (R.str (u++d++Array.toList (ByteArray.data {data:= #[126]})))) h) (Nat.decLt (List.length (u++d)+List.length (Array.toList (ByteArray.data {data:= #[126]}))) (2^62))=some (R.str w)∧ad .ret [(1,.ptr (aC 0)),(2,.str w),(3,.bool true),(4,.str d),(10,.int .i64 (i:Int))] (I.ak 126 [(0,(fv k m))])))∧(¬0<k→(-9223372036854775808≤(i:Int)+1∧(i:Int)+1≤9223372036854775807)∧ad .normal [(1,.ptr (aC 0)),(4,.str d),(10,.int .i64 ((i:Int)+1))] (I.ak 117 [(0,(fv k m))])))∧(¬a=k→(-9223372036854775808≤(i:Int)+1∧(i:Int)+1≤9223372036854775807)∧ad .normal [(1,.ptr (aC 0)),(4,.str d),(10,.int .i64 ((i:Int)+1))] (I.ak 117 [(0,(fv k m))]))))))∧(¬(i:Int)<30→ad (.exit 2) [(1,.ptr (aC 0)),(4,.str d),(10,.int .i64 (i:Int))] (I.ak 92 [(0,(fv k m))]))) :
 ∃e aA aa,bK 0 150 (bw 37 1) [(1,.ptr (aC 0)),(4,.str d),(10,.int .i64 (i:Nat))] (I.ak 90 [(0,bo (aU 2 k m 0 0 []))]) e aA aa∧ad e aA aa :=
 eB dB mixed cl (hs:= .aO 24001 (.aO 26001 (ah 25001 .nil) (.aO 26004 (ah 25001 .nil) (.aO 26008 (ah 25001 .nil) (.ao (.val 26012 (.int .i32 a)) (.aO 26015 (.aO 26020 (.aO 27002 (.ao (.val 28001 (.str s)) (ah 28002 (.ao (.val 28003 (.str v)) .nil))) (.ao (.val 29001 (.str s)) (ah 29002 (.ao (.val 29003 (.str u)) (ah 29005 (.ao (.val 29006 (.str w)) .nil)))))) (ah 25001 .nil)) (ah 25001 .nil)))))) .nil) (keep:=[1,2,3,4,10]) aG aP
abbrev CO(k m n:Int):I:=(I.ak 51 [(0,ai.aq [(dR k m)] 6 true (some (42,6))),(9,ai.aq [.int .i64 0,.int .i64 13,.int .i64 9,.int .i64 127,.int .i64 27] 1 true),(27,ai.aq [.int .u8 n] 1 true)])
abbrev qp(k m n:Int):I:=(I.ak 55 [(0,ai.aq [(dR k m)] 6 true (some (42,6))),(9,ai.aq [.int .i64 0,.int .i64 13,.int .i64 9,.int .i64 127,.int .i64 27] 1 true),(27,ai.aq [.int .u8 n] 1 true)])
abbrev CP(k m n:Int)(s:Bytes)(ad:bT):Prop:=(¬k=2→bu 63 [.int .i64 n,.int .u8 m] (qp k m n) (.str s) (qp k m n)∧ad (.tuple [.str s,.bool true]) (qp k m n))
abbrev CQ(k m n:Int)(s:Bytes)(ad:bT):Prop:=(¬m=1→bu 63 [.int .i64 n,.int .u8 m] (qp k m n) (.str s) (qp k m n)∧ad (.tuple [.str s,.bool true]) (qp k m n))
theorem Lq(k m n:Int)(d s:Bytes)(ad:bT)(aP:(-9223372036854775808≤m∧m≤9223372036854775807)∧(-9223372036854775808≤m+1∧m+1≤9223372036854775807)∧bu 47 [.int .i64 (m+1)] (I.ak 9 [(0,ai.aq [(dR k m)] 6 true (some (42,6)))]) (.str d) (I.ak 9 [(0,ai.aq [(dR k m)] 6 true (some (42,6)))])∧some (R.bool (decide (k≥1)))=some (R.bool true)∧some (R.bool (decide (k≤4)))=some (R.bool true)∧(0≤k∧k<5)∧bp env.D 3 ⟨9,0,0+Int.toNat k,0,1⟩ (I.ak 25 [(0,ai.aq [(dR k m)] 6 true (some (42,6))),(9,ai.aq [.int .i64 0,.int .i64 13,.int .i64 9,.int .i64 127,.int .i64 27] 1 true)])=some (.int .i64 n)∧(0≤n∧n≤255)∧(m=0→ad (.tuple [.str [UInt8.ofNat (Int.toNat n)],.bool true]) (I.ak 36 [(0,ai.aq [(dR k m)] 6 true (some (42,6))),(9,ai.aq [.int .i64 0,.int .i64 13,.int .i64 9,.int .i64 127,.int .i64 27] 1 true),(27,ai.aq [.int .u8 n] 1 true)]))∧(¬m=0→(m=2→(k=4→(m=1→(k=2→ad (.tuple [.str [27,91,90],.bool true]) (CO k m n))∧(CP k m n s ad))∧(CQ k m n s ad))∧(¬k=4→ad (.tuple [.str [27,UInt8.ofNat (Int.toNat n)],.bool true]) (I.ak 45 [(0,ai.aq [(dR k m)] 6 true (some (42,6))),(9,ai.aq [.int .i64 0,.int .i64 13,.int .i64 9,.int .i64 127,.int .i64 27] 1 true),(27,ai.aq [.int .u8 n] 1 true)])))∧(¬m=2→(m=1→(k=2→ad (.tuple [.str [27,91,90],.bool true]) (CO k m n))∧(CP k m n s ad))∧(CQ k m n s ad)))) :
 bW 37 [aU 2 k m 0 0 []] (⟨0,.nil⟩) ad :=
 bZ cl (ah 1002 (ah 1003 (.ao (.val 1004 (.str d)) (.ao (.val 3002 (.bool true)) (.ao (.val 3006 (.bool true)) (ah 4003 (.ao (.val 4004 (.int .i64 n)) (ah 5001 (.aO 6002 .nil (.aO 8002 (.aO 8006 (.aO 10002 (.aO 10006 .nil (.ao (.val 12003 (.str s)) .nil)) (.ao (.val 12003 (.str s)) .nil)) .nil) (.aO 10002 (.aO 10006 .nil (.ao (.val 12003 (.str s)) .nil)) (.ao (.val 12003 (.str s)) .nil)))))))))))) aP
theorem Lr(k m:Int)(d s:Bytes)(H1:I)(x:R)(ad:bT)(aP:(-9223372036854775808≤m∧m≤9223372036854775807)∧(-9223372036854775808≤m+1∧m+1≤9223372036854775807)∧bu 47 [.int .i64 (m+1)] (I.ak 9 [(0,ai.aq [(dR k m)] 6 true (some (42,6)))]) (.str d) (I.ak 9 [(0,ai.aq [(dR k m)] 6 true (some (42,6)))])∧some (R.bool (decide (k≥1)))=some (R.bool true)∧some (R.bool (decide (k≤4)))=some (R.bool false)∧bK 0 150 (Code.loop (bw 37 0)) [(1,.ptr (aC 0)),(4,.str d),(8,gI),(9,.int .i64 0)] (I.ak 21 [(0,ai.aq [(dR k m)] 6 true (some (42,6))),(9,ai.aq [.int .i64 0,.int .i64 13,.int .i64 9,.int .i64 127,.int .i64 27] 1 true)]) .ret [(1,.ptr (aC 0)),(2,.str s),(3,.bool true),(4,.str d),(8,.str [65,66,67,68,72,70]),(9,x)] H1∧ad (.tuple [.str s,.bool true]) H1) :
 bW 37 [aU 2 k m 0 0 []] (⟨0,.nil⟩) ad :=
 bZ cl (ah 1002 (ah 1003 (.ao (.val 1004 (.str d)) (.ao (.val 3002 (.bool true)) (.ao (.val 3006 (.bool false)) (.ao (.keep [1,4,8,9]) (.ao (.loop [(1,.ptr (aC 0)),(2,.str s),(3,.bool true),(4,.str d),(8,.str [65,66,67,68,72,70]),(9,x)] H1 .ret) .nil))))))) aP
theorem Ls(k m:Int)(d s:Bytes)(H1:I)(x:R)(ad:bT)(aP:(-9223372036854775808≤m∧m≤9223372036854775807)∧(-9223372036854775808≤m+1∧m+1≤9223372036854775807)∧bu 47 [.int .i64 (m+1)] (I.ak 9 [(0,ai.aq [(dR k m)] 6 true (some (42,6)))]) (.str d) (I.ak 9 [(0,ai.aq [(dR k m)] 6 true (some (42,6)))])∧some (R.bool (decide (k≥1)))=some (R.bool true)∧some (R.bool (decide (k≤4)))=some (R.bool false)∧bK 0 150 (Code.loop (bw 37 0)) [(1,.ptr (aC 0)),(4,.str d),(8,gI),(9,.int .i64 0)] (I.ak 21 [(0,ai.aq [(dR k m)] 6 true (some (42,6))),(9,ai.aq [.int .i64 0,.int .i64 13,.int .i64 9,.int .i64 127,.int .i64 27] 1 true)]) (.exit 0) [(1,.ptr (aC 0)),(4,.str d),(8,.str [65,66,67,68,72,70]),(9,x)] H1∧bp env.D 21 ⟨0,0,0,1,6⟩ (I.mk (H1.U+13) (H1.2))=some (.int .i32 k)∧some (R.bool (decide (k≥21)))=some (R.bool true)∧bp env.D 21 ⟨0,0,0,1,6⟩ (I.mk (H1.U+13) (H1.2))=some (.int .i32 k)∧some (R.bool (decide (k<25)))=some (R.bool true)∧bp env.D 5 ⟨0,0,0,2,6⟩ (I.mk (H1.U+13) (H1.2))=some (.int .u8 m)∧some (R.bool (m == 0))=some (R.bool true)∧bp env.D 21 ⟨0,0,0,1,6⟩ (I.mk (H1.U+24) (H1.2))=some (.int .i32 k)∧(-2147483648≤k-21∧k-21≤2147483647)∧bp env.D 21 ⟨0,0,0,1,6⟩ (I.mk (H1.U+24) (H1.2))=some (.int .i32 k)∧(-2147483648≤k-21∧k-21≤2147483647)∧(-2147483648≤k-21+1∧k-21+1≤2147483647)∧eg env.D 9 (.str [80,81,82,83]) (some (.int .i32 (k-21))) (some (.int .i32 (k-21+1))) none=some (R.str s)∧Nat.le (Nat.succ (List.length (Array.toList (ByteArray.data {data:= #[27,79]}))+List.length s)) (2^62)∧ad (.tuple [.str ((27:UInt8)::(79:UInt8)::s),.bool true]) (I.mk (H1.U+13+11) (I.aB (I.mk (H1.U+13) (I.aB H1))))) :
 bW 37 [aU 2 k m 0 0 []] (⟨0,.nil⟩) ad :=
 bZ cl (ah 1002 (ah 1003 (.ao (.val 1004 (.str d)) (.ao (.val 3002 (.bool true)) (.ao (.val 3006 (.bool false)) (.ao (.keep [1,4,8,9]) (.ao (.loop [(1,.ptr (aC 0)),(4,.str d),(8,.str [65,66,67,68,72,70]),(9,x)] H1 (.exit 0)) (.ao (.val 21001 (.int .i32 k)) (.ao (.val 21002 (.bool true)) (.ao (.val 21005 (.int .i32 k)) (.ao (.val 21006 (.bool true)) (.ao (.val 21010 (.int .u8 m)) (.ao (.val 21011 (.bool true)) (.ao (.val 22001 (.int .i32 k)) (ah 22002 (.ao (.val 22004 (.int .i32 k)) (ah 22005 (ah 22006 (.ao (.val 22007 (.str s)) (ah 22008 .nil)))))))))))))))))))) aP
abbrev fR(H1:I):I:=(I.mk (H1.U+13) (H1.2))
abbrev Lt(H1:I):I:=(I.mk (H1.U+13) (I.aB H1))
abbrev Lu(d s:Bytes)(H2:I)(y:R):cv:=(.ao (.loop [(1,.ptr (aC 0)),(2,.str s),(3,.bool true),(4,.str d),(10,y)] H2 .ret) .nil)
abbrev nC(H1:I):I:=(I.mk (H1.U+13+1) (I.aB (Lt H1)))
abbrev uB(d s:Bytes)(H2:I)(y:R):cv:=(.ao (.val 21012 (.bool false)) (.ao (.keep [1,4,10]) (Lu d s H2 y)))
theorem Lv(k m:Int)(d s:Bytes)(H1 H2:I)(x y:R)(ad:bT)(aP:(-9223372036854775808≤m∧m≤9223372036854775807)∧(-9223372036854775808≤m+1∧m+1≤9223372036854775807)∧bu 47 [.int .i64 (m+1)] (I.ak 9 [(0,ai.aq [(dR k m)] 6 true (some (42,6)))]) (.str d) (I.ak 9 [(0,ai.aq [(dR k m)] 6 true (some (42,6)))])∧some (R.bool (decide (k≥1)))=some (R.bool true)∧some (R.bool (decide (k≤4)))=some (R.bool false)∧bK 0 150 (Code.loop (bw 37 0)) [(1,.ptr (aC 0)),(4,.str d),(8,gI),(9,.int .i64 0)] (I.ak 21 [(0,ai.aq [(dR k m)] 6 true (some (42,6))),(9,ai.aq [.int .i64 0,.int .i64 13,.int .i64 9,.int .i64 127,.int .i64 27] 1 true)]) (.exit 0) [(1,.ptr (aC 0)),(4,.str d),(8,.str [65,66,67,68,72,70]),(9,x)] H1∧bp env.D 21 ⟨0,0,0,1,6⟩ (fR H1)=some (.int .i32 k)∧(21≤k→bp env.D 21 ⟨0,0,0,1,6⟩ (fR H1)=some (.int .i32 k)∧(k<25→bp env.D 5 ⟨0,0,0,2,6⟩ (fR H1)=some (.int .u8 m)∧(m=0→bb env cz (H1.U+12) (aY [(99,.bool true),(98,.int .u8 m),(97,.ptr (some ⟨0,0,0,2,6⟩)),(96,.bool true),(95,.bool true),(94,.bool true),(93,.int .i32 k),(92,.ptr (some ⟨0,0,0,1,6⟩)),(91,.bool true),(90,.bool true),(89,.int .i32 k),(88,.ptr (some ⟨0,0,0,1,6⟩)),(1,.ptr (aC 0)),(4,.str d),(8,gI),(9,x)]) (fR H1) (Op.pick (Operand.tmp 96) (Operand.tmp 99) (Operand.const (Value.bool false)))=some (R.bool false,(fR H1))∧bK 0 150 (Code.loop (bw 37 1)) [(1,.ptr (aC 0)),(4,.str d),(10,.int .i64 2)] (nC H1) .ret [(1,.ptr (aC 0)),(2,.str s),(3,.bool true),(4,.str d),(10,y)] H2∧ad (.tuple [.str s,.bool true]) H2)∧(¬m=0→bb env cz (H1.U+12) (aY [(99,.bool false),(98,.int .u8 m),(97,.ptr (some ⟨0,0,0,2,6⟩)),(96,.bool true),(95,.bool true),(94,.bool true),(93,.int .i32 k),(92,.ptr (some ⟨0,0,0,1,6⟩)),(91,.bool true),(90,.bool true),(89,.int .i32 k),(88,.ptr (some ⟨0,0,0,1,6⟩)),(1,.ptr (aC 0)),(4,.str d),(8,gI),(9,x)]) (fR H1) (Op.pick (Operand.tmp 96) (Operand.tmp 99) (Operand.const (Value.bool false)))=some (R.bool false,(fR H1))∧bK 0 150 (Code.loop (bw 37 1)) [(1,.ptr (aC 0)),(4,.str d),(10,.int .i64 2)] (nC H1) .ret [(1,.ptr (aC 0)),(2,.str s),(3,.bool true),(4,.str d),(10,y)] H2∧ad (.tuple [.str s,.bool true]) H2))∧(¬k<25→bb env cz (H1.U+12) (aY [(99,.tuple []),(98,.tuple []),(97,.tuple []),(96,.bool false),(95,.bool false),(94,.bool false),(93,.int .i32 k),(92,.ptr (some ⟨0,0,0,1,6⟩)),(91,.bool true),(90,.bool true),(89,.int .i32 k),(88,.ptr (some ⟨0,0,0,1,6⟩)),(1,.ptr (aC 0)),(4,.str d),(8,gI),(9,x)]) (fR H1) (Op.pick (Operand.tmp 96) (Operand.tmp 99) (Operand.const (Value.bool false)))=some (R.bool false,(fR H1))∧bK 0 150 (Code.loop (bw 37 1)) [(1,.ptr (aC 0)),(4,.str d),(10,.int .i64 2)] (nC H1) .ret [(1,.ptr (aC 0)),(2,.str s),(3,.bool true),(4,.str d),(10,y)] H2∧ad (.tuple [.str s,.bool true]) H2))∧(¬21≤k→bb env cz (H1.U+12) (aY [(99,.tuple []),(98,.tuple []),(97,.tuple []),(96,.bool false),(95,.bool false),(94,.tuple []),(93,.tuple []),(92,.tuple []),(91,.bool false),(90,.bool false),(89,.int .i32 k),(88,.ptr (some ⟨0,0,0,1,6⟩)),(1,.ptr (aC 0)),(4,.str d),(8,gI),(9,x)]) (fR H1) (Op.pick (Operand.tmp 96) (Operand.tmp 99) (Operand.const (Value.bool false)))=some (R.bool false,(fR H1))∧bK 0 150 (Code.loop (bw 37 1)) [(1,.ptr (aC 0)),(4,.str d),(10,.int .i64 2)] (nC H1) .ret [(1,.ptr (aC 0)),(2,.str s),(3,.bool true),(4,.str d),(10,y)] H2∧ad (.tuple [.str s,.bool true]) H2)) :
 bW 37 [aU 2 k m 0 0 []] (⟨0,.nil⟩) ad :=
 bZ cl (ah 1002 (ah 1003 (.ao (.val 1004 (.str d)) (.ao (.val 3002 (.bool true)) (.ao (.val 3006 (.bool false)) (.ao (.keep [1,4,8,9]) (.ao (.loop [(1,.ptr (aC 0)),(4,.str d),(8,.str [65,66,67,68,72,70]),(9,x)] H1 (.exit 0)) (.ao (.val 21001 (.int .i32 k)) (.aO 21002 (.ao (.val 21005 (.int .i32 k)) (.aO 21006 (.ao (.val 21010 (.int .u8 m)) (.aO 21011 (uB d s H2 y) (uB d s H2 y))) (uB d s H2 y))) (uB d s H2 y)))))))))) aP
abbrev ls:R:=R.tuple [.str [],.bool false]
abbrev uC(H2:I):I:=(I.mk (H2.U+2) (I.aB H2))
abbrev Lw(d:Bytes)(H2:I)(y:R):cv:=(.ao (.loop [(1,.ptr (aC 0)),(4,.str d),(10,y)] H2 (.exit 2)) .nil)
abbrev uD(d:Bytes)(H2:I)(y:R):cv:=(.ao (.val 21012 (.bool false)) (.ao (.keep [1,4,10]) (Lw d H2 y)))
theorem Lx(k m:Int)(d s:Bytes)(H1 H2:I)(x y:R)(ad:bT)(aP:(-9223372036854775808≤m∧m≤9223372036854775807)∧(-9223372036854775808≤m+1∧m+1≤9223372036854775807)∧bu 47 [.int .i64 (m+1)] (I.ak 9 [(0,ai.aq [(dR k m)] 6 true (some (42,6)))]) (.str d) (I.ak 9 [(0,ai.aq [(dR k m)] 6 true (some (42,6)))])∧some (R.bool (decide (k≥1)))=some (R.bool true)∧some (R.bool (decide (k≤4)))=some (R.bool false)∧bK 0 150 (Code.loop (bw 37 0)) [(1,.ptr (aC 0)),(4,.str d),(8,gI),(9,.int .i64 0)] (I.ak 21 [(0,ai.aq [(dR k m)] 6 true (some (42,6))),(9,ai.aq [.int .i64 0,.int .i64 13,.int .i64 9,.int .i64 127,.int .i64 27] 1 true)]) (.exit 0) [(1,.ptr (aC 0)),(4,.str d),(8,.str [65,66,67,68,72,70]),(9,x)] H1∧bp env.D 21 ⟨0,0,0,1,6⟩ (fR H1)=some (.int .i32 k)∧(21≤k→bp env.D 21 ⟨0,0,0,1,6⟩ (fR H1)=some (.int .i32 k)∧(k<25→bp env.D 5 ⟨0,0,0,2,6⟩ (fR H1)=some (.int .u8 m)∧(m=0→bb env cz (H1.U+12) (aY [(99,.bool true),(98,.int .u8 m),(97,.ptr (some ⟨0,0,0,2,6⟩)),(96,.bool true),(95,.bool true),(94,.bool true),(93,.int .i32 k),(92,.ptr (some ⟨0,0,0,1,6⟩)),(91,.bool true),(90,.bool true),(89,.int .i32 k),(88,.ptr (some ⟨0,0,0,1,6⟩)),(1,.ptr (aC 0)),(4,.str d),(8,gI),(9,x)]) (fR H1) (Op.pick (Operand.tmp 96) (Operand.tmp 99) (Operand.const (Value.bool false)))=some (R.bool false,(fR H1))∧bK 0 150 (Code.loop (bw 37 1)) [(1,.ptr (aC 0)),(4,.str d),(10,.int .i64 2)] (nC H1) (.exit 2) [(1,.ptr (aC 0)),(4,.str d),(10,y)] H2∧ad (ls) (uC H2))∧(¬m=0→bb env cz (H1.U+12) (aY [(99,.bool false),(98,.int .u8 m),(97,.ptr (some ⟨0,0,0,2,6⟩)),(96,.bool true),(95,.bool true),(94,.bool true),(93,.int .i32 k),(92,.ptr (some ⟨0,0,0,1,6⟩)),(91,.bool true),(90,.bool true),(89,.int .i32 k),(88,.ptr (some ⟨0,0,0,1,6⟩)),(1,.ptr (aC 0)),(4,.str d),(8,gI),(9,x)]) (fR H1) (Op.pick (Operand.tmp 96) (Operand.tmp 99) (Operand.const (Value.bool false)))=some (R.bool false,(fR H1))∧bK 0 150 (Code.loop (bw 37 1)) [(1,.ptr (aC 0)),(4,.str d),(10,.int .i64 2)] (nC H1) (.exit 2) [(1,.ptr (aC 0)),(4,.str d),(10,y)] H2∧ad (ls) (uC H2)))∧(¬k<25→bb env cz (H1.U+12) (aY [(99,.tuple []),(98,.tuple []),(97,.tuple []),(96,.bool false),(95,.bool false),(94,.bool false),(93,.int .i32 k),(92,.ptr (some ⟨0,0,0,1,6⟩)),(91,.bool true),(90,.bool true),(89,.int .i32 k),(88,.ptr (some ⟨0,0,0,1,6⟩)),(1,.ptr (aC 0)),(4,.str d),(8,gI),(9,x)]) (fR H1) (Op.pick (Operand.tmp 96) (Operand.tmp 99) (Operand.const (Value.bool false)))=some (R.bool false,(fR H1))∧bK 0 150 (Code.loop (bw 37 1)) [(1,.ptr (aC 0)),(4,.str d),(10,.int .i64 2)] (nC H1) (.exit 2) [(1,.ptr (aC 0)),(4,.str d),(10,y)] H2∧ad (ls) (uC H2)))∧(¬21≤k→bb env cz (H1.U+12) (aY [(99,.tuple []),(98,.tuple []),(97,.tuple []),(96,.bool false),(95,.bool false),(94,.tuple []),(93,.tuple []),(92,.tuple []),(91,.bool false),(90,.bool false),(89,.int .i32 k),(88,.ptr (some ⟨0,0,0,1,6⟩)),(1,.ptr (aC 0)),(4,.str d),(8,gI),(9,x)]) (fR H1) (Op.pick (Operand.tmp 96) (Operand.tmp 99) (Operand.const (Value.bool false)))=some (R.bool false,(fR H1))∧bK 0 150 (Code.loop (bw 37 1)) [(1,.ptr (aC 0)),(4,.str d),(10,.int .i64 2)] (nC H1) (.exit 2) [(1,.ptr (aC 0)),(4,.str d),(10,y)] H2∧ad (ls) (uC H2))) :
 bW 37 [aU 2 k m 0 0 []] (⟨0,.nil⟩) ad :=
 bZ cl (ah 1002 (ah 1003 (.ao (.val 1004 (.str d)) (.ao (.val 3002 (.bool true)) (.ao (.val 3006 (.bool false)) (.ao (.keep [1,4,8,9]) (.ao (.loop [(1,.ptr (aC 0)),(4,.str d),(8,.str [65,66,67,68,72,70]),(9,x)] H1 (.exit 0)) (.ao (.val 21001 (.int .i32 k)) (.aO 21002 (.ao (.val 21005 (.int .i32 k)) (.aO 21006 (.ao (.val 21010 (.int .u8 m)) (.aO 21011 (uD d H2 y) (uD d H2 y))) (uD d H2 y))) (uD d H2 y)))))))))) aP
end Go.Proofs.YtddnafghiejcoaaGreatDoor
namespace Go.Proofs.YtddnafghiejcoaaGreatDoor
open Go.bh Go.Keys Go.Lib
set_option maxRecDepth 1000000
abbrev e'(k m:Nat):ai:=bo (aU 2 k m 0 0 [])
abbrev r9:Bytes:=[65,66,67,68,72,70]
abbrev oX(d:Bytes)(v:R):a':=[(1,.ptr (some ⟨0,0,0,0,6⟩)),(4,.str d),(8,.str r9),(9,v)]
abbrev lu(d:Bytes)(v:R):a':=[(1,.ptr (some ⟨0,0,0,0,6⟩)),(4,.str d),(10,v)]
theorem uE(k m:Nat)(d:Bytes)(i:Int)(h:I)(ah:h.get 0=some (e' k m)):cY 0 150 (oX d (.int .i64 i)) h (oX d (.int .i64 i)) (I.ak 40 [(0,e' k m)]):=by have bk:I.rows 40 [(0,e' k m)]=I.ak 40 [(0,e' k m)]:= aG;rw [←bk];exact cY.drop (K:=40) (l:=[(0,e' k m)]) (by simp only [List.map_cons,List.map_nil,ah]) (by rfl) (by rfl) (by rfl) (bm.cons (by simp [bH,Go.bh.ff]) (bm.cons trivial (bm.cons trivial (bm.cons trivial bm.nil)))) (bm.cons (mo _ _ _ _) bm.nil)
theorem uF(k m:Nat)(d:Bytes)(i:Int)(h:I)(ah:h.get 0=some (e' k m)):cY 0 150 (lu d (.int .i64 i)) h (lu d (.int .i64 i)) (I.ak 90 [(0,e' k m)]):=by have bk:I.rows 90 [(0,e' k m)]=I.ak 90 [(0,e' k m)]:= aG;rw [←bk];exact cY.drop (K:=90) (l:=[(0,e' k m)]) (by simp only [List.map_cons,List.map_nil,ah]) (by rfl) (by rfl) (by rfl) (bm.cons (by simp [bH,Go.bh.ff]) (bm.cons trivial (bm.cons trivial bm.nil))) (bm.cons (mo _ _ _ _) bm.nil)
theorem Ly{i:Nat}(ag:i<6):∃u a:Nat,∃s:Bytes,g' (bq.D env) 9 (.str r9) (.int .i64 (i:Nat))=some (.int .u8 (u:Nat))∧eg (bq.D env) 9 (.str r9) (some (.int .i64 (i:Nat))) (some (.int .i64 ((i:Nat)+1))) none=some (.str s)∧s.length=1∧a=5+i∧∀H,bE 64 [.int .u8 (u:Nat)] H (.int .i32 (a:Nat)) H:=by
 have q:∀n,n<8→ ∀H,bE 64 [.int .u8 ((n+65:Nat):Nat)] H (.int .i32 (CK (n+65):Nat)) H:=fun n aI H=>CL (Lp ⟨n,aI⟩) (by intro a aD;rw [List.mem_singleton.1 aD];exact cO.int _ _) H
 have al:i=0∨i=1∨i=2∨i=3∨i=4∨i=5:= J;rcases al with rfl|rfl|rfl|rfl|rfl|rfl
 ·exact⟨65,5,[65],aG,aG,rfl,rfl,q 0 J⟩
 ·exact⟨66,6,[66],aG,aG,rfl,rfl,q 1 J⟩
 ·exact⟨67,7,[67],aG,aG,rfl,rfl,q 2 J⟩
 ·exact⟨68,8,[68],aG,aG,rfl,rfl,q 3 J⟩
 ·exact⟨72,9,[72],aG,aG,rfl,rfl,q 7 J⟩
 ·exact⟨70,10,[70],aG,aG,rfl,rfl,q 5 J⟩
def CR(k m:Nat)(d:Bytes)(i:Nat):Prop:= ∃v aH,
 (eP 0 150 (bw 37 0) (oX d (.int .i64 (i:Nat))) (I.ak 40 [(0,e' k m)]) (.exit 0) (oX d v) aH∧aH.get 0=some (e' k m)∧¬(5+i≤k∧k≤10)) ∨
 ∃s,eP 0 150 (bw 37 0) (oX d (.int .i64 (i:Nat))) (I.ak 40 [(0,e' k m)]) .ret [(1,.ptr (some ⟨0,0,0,0,6⟩)),(2,.str s),(3,.bool true),(4,.str d),(8,.str r9),(9,v)] aH∧5≤k∧k≤10
theorem Lz(k m:Nat)(d:Bytes)(az:d.length<100):∀(t i:Nat),6-i≤t→i≤6→CR k m d i:=by
 have fin:∀i,i=6→CR k m d i:=by intro i ag;obtain⟨e,aA,aa,aR,rfl,rfl,ah⟩:=CM i (k:Nat) (m:Nat) 0 0 d [] [] (fun e aA aa=>e=.exit 0∧aA=oX d (.int .i64 (i:Nat))∧aa.get 0=some (e' k m)) ⟨fun h=>absurd h J,fun _=>⟨rfl,rfl,rfl⟩⟩;exact⟨_,_,.inl ⟨b8.last a1 aR,ah,J⟩⟩
 intro t;induction t with
 |zero=>exact fun i bz ag=>fin i J
 |succ t ih =>
  intro i bz ag;by_cases al:i<6
  ·obtain⟨u,a,s,aa,ae,aS,bj,cb⟩:=Ly al;have eY:((i:Int)+1)=((i+1:Nat):Int):= J;have hw:(if(27::91::49::59::d:Bytes).length+s.length<2^62 then some (R.str (27::91::49::59::d++s))else none)=some (R.str (27::91::49::59::d++s)):=if_pos (by simp only [List.length_cons];omega)
   obtain⟨e,aA,fX,aR,cH⟩:=CM i (k:Nat) (m:Nat) (a:Nat) (u:Nat) d s (27::91::49::59::d++s) (fun e aA aa=>(e=.normal∧aA=oX d (.int .i64 ((i:Int)+1))∧aa.get 0=some (e' k m)∧a≠k)∨ ∃s,e=.ret∧aA=[(1,.ptr (some ⟨0,0,0,0,6⟩)),(2,.str s),(3,.bool true),(4,.str d),(8,.str r9),(9,.int .i64 (i:Nat))]∧a=k)
    ⟨fun _=>⟨aa,⟨cb _⟩,Bg _ _,fun e=>⟨fun _=>⟨⟨J,J⟩,ae,by show 2+s.length+1≤2^62;omega,.inr ⟨_,rfl,rfl,J⟩⟩,fun _=>⟨by show 4+d.length+1≤2^62;omega,⟨J,J⟩,ae,hw,.inr ⟨_,rfl,rfl,J⟩⟩⟩,fun e=>⟨⟨J,J⟩,.inl ⟨rfl,rfl,rfl,J⟩⟩⟩,fun h=>absurd J h⟩
   rcases cH with ⟨rfl,rfl,ah,bJ⟩|⟨aX,rfl,rfl,he⟩
   ·obtain⟨v,aH,bA⟩:=ih (i+1) J J;rw [eY]at aR;rcases bA with ⟨ca,ic,ap⟩|⟨aX,ca,ap⟩
    ·exact⟨v,aH,.inl ⟨b8.round aR (uE k m d _ _ ah) ca,ic,J⟩⟩
    ·exact⟨v,aH,.inr ⟨aX,b8.round aR (uE k m d _ _ ah) ca,ap⟩⟩
   ·exact⟨_,_,.inr ⟨aX,b8.last a1 aR,J,J⟩⟩
  ·exact fin i J
def r'(k:Nat):Prop:=(11≤k∧k≤14)∨(21≤k∧k≤32)
theorem LA:∀n:Fin 30,2≤n.val→n.val≠4→n.val≠7→n.val≠8→(jn n.val=0∨(11≤jn n.val∧jn n.val≤14)∨(21≤jn n.val∧jn n.val≤32)):= cg
theorem LB:∀k:Fin 33,((11≤k.val∧k.val≤14)∨(21≤k.val∧k.val≤32))→ ∃n:Fin 30,2≤n.val∧n.val≠4∧n.val≠7∧n.val≠8∧jn n.val=k.val:= cg
theorem LC{n:Nat}(aI:n<30)(H:I):bE 65 [.int .i64 (n:Nat)] H (.int .i32 (jn n:Nat)) H:=CL (Lo ⟨n,aI⟩) (by intro a aD;rw [List.mem_singleton.1 aD];exact cO.int _ _) H
def CS(k m:Nat)(d:Bytes)(i:Nat):Prop:= ∃v aH,
 (eP 0 150 (bw 37 1) (lu d (.int .i64 (i:Nat))) (I.ak 90 [(0,e' k m)]) (.exit 2) (lu d v) aH∧∀n,i≤n→n<30→n≠4→n≠7→n≠8→jn n≠k) ∨
 ∃s,eP 0 150 (bw 37 1) (lu d (.int .i64 (i:Nat))) (I.ak 90 [(0,e' k m)]) .ret [(1,.ptr (some ⟨0,0,0,0,6⟩)),(2,.str s),(3,.bool true),(4,.str d),(10,v)] aH∧r' k
theorem LD(k m:Nat)(d:Bytes)(az:d.length<100)(NE:0<k):∀(t i:Nat),30-i≤t→2≤i→i≤30→CS k m d i:=by
 have fin:∀i,i=30→CS k m d i:=by intro i ag;obtain⟨e,aA,aa,aR,rfl,rfl,_⟩:=CN i (k:Nat) (m:Nat) 0 d [] [] [] [] (fun e aA aa=>e=.exit 2∧aA=lu d (.int .i64 (i:Nat))∧True) ⟨fun h=>absurd h J,fun _=>⟨rfl,rfl,trivial⟩⟩;exact⟨_,_,.inl ⟨b8.last a1 aR,fun n aa ae=> J⟩⟩
 intro t;induction t with
 |zero=>exact fun i bz ae ag=>fin i J
 |succ t ih =>
  intro i bz ae ag;by_cases al:i<30
  ·have eY :((i:Int)+1)=((i+1:Nat):Int):= J;have hs:=ns (n:=i) (k:=1) (by simp;omega);have cb:=LC al;have gJ:=r8 (n:=i) J;have p3:=LA ⟨i,al⟩ ae;generalize decDigits i=s at hs gJ;simp only at p3;have yB:∀{x y:Bytes},x.length+y.length<2^40→(if x.length+y.length<2^62 then some (R.str (x++y))else none)=some (R.str (x++y)):=fun h=>if_pos J
   have oY:∃e aA aa,bK 0 150 (bw 37 1) (lu d (.int .i64 (i:Nat))) (I.ak 90 [(0,e' k m)]) e aA aa∧((e=.normal∧aA=lu d (.int .i64 ((i:Int)+1))∧aa.get 0=some (e' k m)∧(i≠4→i≠7→i≠8→jn i≠k))∨ ∃s,e=.ret∧aA=[(1,.ptr (some ⟨0,0,0,0,6⟩)),(2,.str s),(3,.bool true),(4,.str d),(10,.int .i64 (i:Nat))]∧r' k):=by
    have no:∀{e:ch}{aA:a'}{aa:I},e=.normal→aA=lu d (.int .i64 ((i:Int)+1))→aa.get 0=some (e' k m)→(i≠4→i≠7→i≠8→jn i≠k)→(e=.normal∧aA=lu d (.int .i64 ((i:Int)+1))∧aa.get 0=some (e' k m)∧(i≠4→i≠7→i≠8→jn i≠k))∨ ∃s,e=.ret∧aA=[(1,.ptr (some ⟨0,0,0,0,6⟩)),(2,.str s),(3,.bool true),(4,.str d),(10,.int .i64 (i:Nat))]∧r' k:=fun a b c d=> .inl ⟨a,b,c,d⟩
    refine CN i (k:Nat) (m:Nat) (jn i:Nat) d s (27::91::s++[59]++d++[126]) (27::91::s++[126]) (27::91::s++[59]) _
     ⟨fun _=>⟨fun j1=>⟨⟨J,J⟩,no rfl rfl rfl (fun h=>absurd J h)⟩,fun n9=>⟨fun NF=>⟨⟨J,J⟩,no rfl rfl rfl (fun _ h=>absurd J h)⟩,fun NG=>⟨fun NH=>⟨⟨J,J⟩,no rfl rfl rfl (fun _ _ h=>absurd J h)⟩,
      fun NI=>⟨⟨cb _⟩,Bg _ _,fun e=>⟨fun _=>⟨fun _=>⟨⟨gJ _⟩,by show 2+s.length+1≤2^62;omega,yB (by simp only [List.length_cons,List.length_nil];omega),.inr ⟨_,rfl,rfl,?_⟩⟩,
       fun _=>⟨⟨gJ _⟩,by show 2+s.length+1≤2^62;omega,yB (by simp only [List.length_cons,List.length_nil];omega),by show _+1≤2^62;simp only [List.length_append,List.length_cons,List.length_nil];omega,yB (by simp only [List.length_append,List.length_cons,List.length_nil];omega),.inr ⟨_,rfl,rfl,?_⟩⟩⟩,fun h=>absurd J h⟩,
       fun e=>⟨⟨J,J⟩,no rfl rfl rfl (fun _ _ _ h=>e J)⟩⟩⟩⟩⟩,fun h=>absurd J h⟩
    all_goals
     have:=p3 J J J;unfold r';omega
   obtain⟨e,aA,fX,aR,cH⟩:=oY;rcases cH with ⟨rfl,rfl,ah,bJ⟩|⟨aX,rfl,rfl,he⟩
   ·obtain⟨v,aH,bA⟩:=ih (i+1) J J J;rw [eY]at aR;rcases bA with ⟨ca,ap⟩|⟨aX,ca,ap⟩
    ·refine⟨v,aH,.inl ⟨b8.round aR (uF k m d _ _ ah) ca,fun n bY bU ez ka uG=> ?_⟩⟩;by_cases e:n=i
     ·subst e;exact bJ ez ka uG
     ·exact ap n J bU ez ka uG
    ·exact⟨v,aH,.inr ⟨aX,b8.round aR (uF k m d _ _ ah) ca,ap⟩⟩
   ·exact⟨_,_,.inr ⟨aX,b8.last a1 aR,he⟩⟩
  ·exact fin i J
def gX(k:Nat):Bool:=Nat.ble 1 k&&Nat.ble k 14 || Nat.ble 21 k&&Nat.ble k 32
theorem LF{k:Nat}(aa:1≤k)(bj:k≤4):∃n:Nat,n<128∧(ai.aq [R.int .i64 0,R.int .i64 13,R.int .i64 9,R.int .i64 127,R.int .i64 27] 1 true).elem? 0 (0+k)=some (.int .i64 (n:Nat)):=by
 have al:k=1∨k=2∨k=3∨k=4:= J;rcases al with rfl|rfl|rfl|rfl
 ·exact⟨13,cg,rfl⟩
 ·exact⟨9,cg,rfl⟩
 ·exact⟨127,cg,rfl⟩
 ·exact⟨27,cg,rfl⟩
theorem LG{k m:Nat}(aa:1≤k)(kn:k≤32)(hm:m≤7)(H:I):∃s,bE 37 [cc ⟨2,k,m,0,0,[]⟩] H (.tuple [.str s,.bool (gX k)]) H:=by
 have gJ:=r8 (n:=m+1) J;have hs:=ns (n:=m+1) (k:=9) (by simp;omega);generalize decDigits (m+1)=d at hs gJ;have az:d.length<100:= J;have fin:(∃v aa,bE 37 [aU 2 k m 0 0 []] ⟨0,.nil⟩ v aa∧∃t,v=.tuple [.str t,.bool (gX k)])→ ∃s,bE 37 [cc ⟨2,k,m,0,0,[]⟩] H (.tuple [.str s,.bool (gX k)]) H:=fun⟨v,aa,h,t,e⟩=>⟨t,bn.cL ⟨v,aa,h,e⟩ rfl rfl H⟩
 have uH:(1≤k∧k≤14)∨(21≤k∧k≤32)→gX k=true:=by intro h;simp only [gX,Bool.or_eq_true,Bool.and_eq_true,Nat.ble_eq];exact h
 have not:¬((1≤k∧k≤14)∨(21≤k∧k≤32))→gX k=false:=by intro h;rw [Bool.eq_false_iff];intro q;simp only [gX,Bool.or_eq_true,Bool.and_eq_true,Nat.ble_eq]at q;exact h q
 refine fin ?_;by_cases eK:k≤4
 ·rw [uH J];obtain⟨n,aI,eh⟩:=LF aa eK;obtain⟨s,gW⟩:=CE (c:=n) (m:=m) J hm ⟨0,.nil⟩;have gW:∀K,bE 63 [.int .i64 (n:Nat),.int .u8 (m:Nat)] K (.str s) K:=fun K=>bn.cL ⟨_,_,gW,rfl⟩ rfl rfl K
  have lW:bp (bq.D env) 3 ⟨9,0,0+Int.toNat (k:Nat),0,1⟩ (I.ak 25 [(0,e' k m),(9,ai.aq [.int .i64 0,.int .i64 13,.int .i64 9,.int .i64 127,.int .i64 27] 1 true)])=some (.int .i64 (n:Nat)):=by have bt:(bq.D env 3).map (fun d=>d.kind.isAgg)=some false:= aG;obtain⟨x,aa,ae⟩:=Option.map_eq_some_iff.1 bt;have ah:(I.ak 25 [(0,e' k m),(9,ai.aq [.int .i64 0,.int .i64 13,.int .i64 9,.int .i64 127,.int .i64 27] 1 true)]).get 9=some (ai.aq [.int .i64 0,.int .i64 13,.int .i64 9,.int .i64 127,.int .i64 27] 1 true):=rfl;rw [Int.toNat_natCast];unfold bp;rw [aa,ah];simp only [eh,gK,ae];simp
  exact Lq (k:Nat) (m:Nat) (n:Nat) d s (fun v _=> ∃t,v=.tuple [.str t,.bool true]) ⟨⟨J,J⟩,⟨J,J⟩,⟨gJ _⟩,by simp;omega,by simp;omega,⟨J,J⟩,lW,⟨J,J⟩,
   fun _=>⟨_,rfl⟩,fun _=>⟨fun _=>⟨fun _=>⟨fun _=>⟨fun _=>⟨_,rfl⟩,fun _=>⟨⟨gW _⟩,_,rfl⟩⟩,fun _=>⟨⟨gW _⟩,_,rfl⟩⟩,fun _=>⟨_,rfl⟩⟩,fun _=>⟨fun _=>⟨fun _=>⟨_,rfl⟩,fun _=>⟨⟨gW _⟩,_,rfl⟩⟩,fun _=>⟨⟨gW _⟩,_,rfl⟩⟩⟩⟩
 obtain⟨x,H1,⟨ca,ah,ap⟩|⟨s,ca,ap⟩⟩:=Lz k m d az 6 0 J J
 ·have gu:=(cQ.ei ca).pre (show cY 0 150 _ (I.ak 21 [(0,e' k m),(9,ai.aq [.int .i64 0,.int .i64 13,.int .i64 9,.int .i64 127,.int .i64 27] 1 true)]) _ _ from uE k m d 0 _ rfl);have ic:∀j,(⟨H1.U+j,H1.aB⟩:I).get 0=some (e' k m):=fun j=>ah
  by_cases df:21≤k∧k<25∧m=0
  ·rw [uH J];obtain⟨iL,uI,rfl⟩:=df
   obtain⟨s,sY,NJ⟩:∃s,eg (bq.D env) 9 (.str [80,81,82,83]) (some (.int .i32 ((k:Nat)-21))) (some (.int .i32 ((k:Nat)-21+1))) none=some (.str s)∧s.length≤1:=by
    have al:k=21∨k=22∨k=23∨k=24:= J;rcases al with rfl|rfl|rfl|rfl
    ·exact⟨[80],aG,cg⟩
    ·exact⟨[81],aG,cg⟩
    ·exact⟨[82],aG,cg⟩
    ·exact⟨[83],aG,cg⟩
   exact Ls (k:Nat) (0:Nat) d s H1 x (fun v _=> ∃t,v=.tuple [.str t,.bool true]) ⟨⟨J,J⟩,⟨J,J⟩,⟨gJ _⟩,by simp;omega,by simp;omega,gu,hq (ic 13),by simp;omega,hq (ic 13),by simp;omega,hp (ic 13),rfl,
    hq (ic 24),⟨J,J⟩,hq (ic 24),⟨J,J⟩,⟨J,J⟩,sY,by show 2+s.length+1≤2^62;omega,_,rfl⟩
  ·obtain⟨y,H2,⟨jl,eW⟩|⟨s,jl,eW⟩⟩:=LD k m d az aa 28 2 J J J
   ·have hT:=(cQ.ei jl).pre (show cY 0 150 _ (⟨H1.U+13+1,H1.aB⟩:I) _ _ from uF k m d 2 _ ah);rw [not (fun h=> ?_)]
    ·exact Lx (k:Nat) (m:Nat) d [] H1 H2 x y (fun v _=> ∃t,v=.tuple [.str t,.bool false]) ⟨⟨J,J⟩,⟨J,J⟩,⟨gJ _⟩,by simp;omega,by simp;omega,gu,hq (ic 13),
     fun iL=>⟨hq (ic 13),fun uI=>⟨hp (ic 13),fun a6=>absurd (⟨J,J,J⟩:21≤k∧k<25∧m=0) df,fun a6=>⟨aG,hT,_,rfl⟩⟩,fun uI=>⟨aG,hT,_,rfl⟩⟩,fun iL=>⟨aG,hT,_,rfl⟩⟩
    ·have:=LB ⟨k,J⟩ (by show(11≤k∧k≤14)∨(21≤k∧k≤32);omega);obtain⟨n,bY,bU,ez,ka,uG⟩:=this;exact eW n.val bY n.isLt bU ez ka uG
   ·have hT:=(cQ.ei jl).pre (show cY 0 150 _ (⟨H1.U+13+1,H1.aB⟩:I) _ _ from uF k m d 2 _ ah);rw [uH (by unfold r' at eW;omega)]
    exact Lv (k:Nat) (m:Nat) d s H1 H2 x y (fun v _=> ∃t,v=.tuple [.str t,.bool true]) ⟨⟨J,J⟩,⟨J,J⟩,⟨gJ _⟩,by simp;omega,by simp;omega,gu,hq (ic 13),
     fun iL=>⟨hq (ic 13),fun uI=>⟨hp (ic 13),fun a6=>absurd (⟨J,J,J⟩:21≤k∧k<25∧m=0) df,fun a6=>⟨aG,hT,_,rfl⟩⟩,fun uI=>⟨aG,hT,_,rfl⟩⟩,fun iL=>⟨aG,hT,_,rfl⟩⟩
 ·have gu:=(cQ.ei ca).pre (show cY 0 150 _ (I.ak 21 [(0,e' k m),(9,ai.aq [.int .i64 0,.int .i64 13,.int .i64 9,.int .i64 127,.int .i64 27] 1 true)]) _ _ from uE k m d 0 _ rfl);rw [uH J];exact Lr (k:Nat) (m:Nat) d s H1 x (fun v _=> ∃t,v=.tuple [.str t,.bool true]) ⟨⟨J,J⟩,⟨J,J⟩,⟨gJ _⟩,by simp;omega,by simp;omega,gu,_,rfl⟩
end Go.Proofs.YtddnafghiejcoaaGreatDoor
namespace Go.Proofs.YtddnafghiejcoaaGreatDoor
open Go.bh Go.Keys Go.Lib
set_option maxRecDepth 1000000
abbrev uJ(k m:Int):I:=(I.ak 39 [(0,ai.aq [(dR k m)] 6 true (some (42,6))),(17,ai.aq [(dR k m)] 6 true (some (42,6)))])
theorem LH(k m:Int)(s:Bytes)(b:Bool)(ad:bT)(aP:some (R.bool (decide (m>7)))=some (R.bool false)∧bu 37 [(dR k m)] (uJ k m) (.tuple [.str s,.bool b]) (uJ k m)∧(b=true→ad (.tuple [.str s,.bool true]) (uJ k m))∧(b=false→ad (.tuple [.str s,.bool false]) (uJ k m))) :
 bW 20 [aU 2 k m 0 0 []] (⟨0,.nil⟩) ad :=
 bZ cl (he 7001 (.ao (.val 7006 (.bool false)) (.ao (.val 9001 (.tuple [.str s,.bool b])) (.aO 9003 .nil .nil)))) aP
abbrev uK(c m:Int):I:=(I.ak 47 [(0,ai.aq [(eC c m)] 6 true (some (42,6))),(31,ai.aq [(eC c m)] 6 true (some (42,6)))])
abbrev sa(c m:Int):I:=(I.ak 49 [(0,ai.aq [(eC c m)] 6 true (some (42,6))),(31,ai.aq [(eC c m)] 6 true (some (42,6)))])
abbrev yC(c m:Int):I:=(I.ak 51 [(0,ai.aq [(eC c m)] 6 true (some (42,6))),(31,ai.aq [(eC c m)] 6 true (some (42,6)))])
theorem LI(c m:Int)(s:Bytes)(ad:bT)(aP:some (R.bool (decide (m>7)))=some (R.bool false)∧(c<32→ad (ls) (sa c m))∧(¬c<32→(c=127→ad (ls) (sa c m))∧(¬c=127→bu 35 [.int .i32 c] (uK c m) (.bool true) (uK c m)∧bu 36 [(eC c m)] (yC c m) (.str s) (yC c m)∧ad (.tuple [.str s,.bool true]) (yC c m)))) :
 bW 20 [aU 1 c m 0 0 []] (⟨0,.nil⟩) ad :=
 bZ cl (he 3001 (.ao (.val 3006 (.bool false)) (.aO 3011 .nil (.aO 3016 .nil (.ao (.val 3021 (.bool true)) (.ao (.val 5001 (.str s)) .nil)))))) aP
theorem CT(c m:Int)(s:Bytes)(ad:bT)(aP:some (R.bool (decide (m>7)))=some (R.bool false)∧(c<32→ad (ls) (sa c m))∧(¬c<32→(c=127→ad (ls) (sa c m))∧(¬c=127→bu 35 [.int .i32 c] (uK c m) (.bool false) (uK c m)∧ad (ls) (sa c m)))) :
 bW 20 [aU 1 c m 0 0 []] (⟨0,.nil⟩) ad :=
 bZ cl (he 3001 (.ao (.val 3006 (.bool false)) (.aO 3011 .nil (.aO 3016 .nil (.ao (.val 3021 (.bool false)) .nil))))) aP
abbrev kt(k c m:Int):R:=R.agg [.int .i8 k,.int .i32 c,.int .u8 m,.int .i64 0,.int .i64 0,.str []]
theorem CU(k c m:Int)(s:Bytes)(ad:bT)(aP:bu 20 [(kt k c m)] (I.ak 10 [(0,ai.aq [(kt k c m)] 6 true (some (42,6)))]) (.tuple [.str s,.bool false]) (I.ak 10 [(0,ai.aq [(kt k c m)] 6 true (some (42,6)))])∧ad (ls) (I.ak 24 [(0,ai.aq [(kt k c m)] 6 true (some (42,6)))])) :
 bW 22 [aU k c m 0 0 []] (⟨0,.nil⟩) ad :=
 bZ cl (.ao (.val 1001 (.tuple [.str s,.bool false])) .nil) aP
abbrev LJ(w:Bytes):cv:=(ah 14005 (.ao (.val 14006 (.str w)) (ah 14007 .nil)))
abbrev LK(d:Bytes):cv:=(ah 15006 (.ao (.val 15007 (.str d)) (ah 15008 .nil)))
abbrev CV(w d:Bytes):cv:=(.aO 13005 (ah 14004 (LJ w)) (ah 15004 (ah 15005 (LK d))))
abbrev yD(k m:Int):I:=(I.ak 61 [(0,ai.aq [(dR k m)] 6 true (some (42,6))),(43,ai.aq [lk,lf,lr,lm,lc,lh,ll,lj,li,lg,lp,lo,ln,lq] 1 true)])
abbrev uL(k m:Int):I:=(I.ak 62 [(0,ai.aq [(dR k m)] 6 true (some (42,6))),(43,ai.aq [lk,lf,lr,lm,lc,lh,ll,lj,li,lg,lp,lo,ln,lq] 1 true)])
abbrev oZ(k m:Int):I:=(I.ak 64 [(0,ai.aq [(dR k m)] 6 true (some (42,6))),(46,ai.aq [lk,lf,lr,lm,lc,lh,ll,lj,li,lg,lp,lo,ln,lq] 1 true)])
abbrev lv(k m:Int):I:=(I.ak 65 [(0,ai.aq [(dR k m)] 6 true (some (42,6))),(46,ai.aq [lk,lf,lr,lm,lc,lh,ll,lj,li,lg,lp,lo,ln,lq] 1 true)])
abbrev o0(k m:Int):I:=(I.ak 67 [(0,ai.aq [(dR k m)] 6 true (some (42,6))),(49,ai.aq [lk,lf,lr,lm,lc,lh,ll,lj,li,lg,lp,lo,ln,lq] 1 true)])
abbrev lx(k m:Int):I:=(I.ak 68 [(0,ai.aq [(dR k m)] 6 true (some (42,6))),(49,ai.aq [lk,lf,lr,lm,lc,lh,ll,lj,li,lg,lp,lo,ln,lq] 1 true)])
abbrev yE(k m:Int):I:=(I.ak 70 [(0,ai.aq [(dR k m)] 6 true (some (42,6))),(52,ai.aq [lk,lf,lr,lm,lc,lh,ll,lj,li,lg,lp,lo,ln,lq] 1 true)])
abbrev uM(k m:Int):I:=(I.ak 71 [(0,ai.aq [(dR k m)] 6 true (some (42,6))),(52,ai.aq [lk,lf,lr,lm,lc,lh,ll,lj,li,lg,lp,lo,ln,lq] 1 true)])
abbrev uN(w d:Bytes):cv:=(.aO 9003 (he 12000 (ah 13002 (CV w d))) (he 12000 (ah 13002 (CV w d))))
theorem LL(k m:Int)(s w d:Bytes)(ad:bT)(aP:bu 20 [(dR k m)] (I.ak 10 [(0,ai.aq [(dR k m)] 6 true (some (42,6)))]) (.tuple [.str s,.bool true]) (I.ak 10 [(0,ai.aq [(dR k m)] 6 true (some (42,6)))])∧(((4:Int)=0→False)∧de .u8 (Int.tdiv m 4))∧((2:Int)=0→False)∧(Int.tmod (Int.tdiv m 4) 2=1→(((2:Int)=0→False)∧de .u8 (Int.tdiv m 2))∧((2:Int)=0→False)∧(Int.tmod (Int.tdiv m 2) 2=1→((2:Int)=0→False)∧(Int.tmod m 2=1→(-9223372036854775808≤k∧k≤9223372036854775807)∧(k≤14→(-2147483648≤k-1∧k-1≤2147483647)∧(0≤k-1∧k-1<14)∧bp env.D 9 ⟨52,0,0+Int.toNat (k-1),0,1⟩ (yE k m)=some (R.str w)∧Nat.le (Nat.succ (List.length [(99:UInt8),(116:UInt8),(114:UInt8),(108:UInt8),(43:UInt8),(97:UInt8),(108:UInt8),(116:UInt8),(43:UInt8),(115:UInt8),(104:UInt8),(105:UInt8),(102:UInt8),(116:UInt8),(43:UInt8)]+List.length w)) (2^62)∧ad (.tuple [.str ((99:UInt8)::(116:UInt8)::(114:UInt8)::(108:UInt8)::(43:UInt8)::(97:UInt8)::(108:UInt8)::(116:UInt8)::(43:UInt8)::(115:UInt8)::(104:UInt8)::(105:UInt8)::(102:UInt8)::(116:UInt8)::(43:UInt8)::w),.bool true]) (yE k m))∧(¬k≤14→(-9223372036854775808≤k∧k≤9223372036854775807)∧(-9223372036854775808≤k-21∧k-21≤9223372036854775807)∧(-9223372036854775808≤k-21+1∧k-21+1≤9223372036854775807)∧bu 47 [.int .i64 (k-21+1)] (uM k m) (.str d) (uM k m)∧Nat.le (Nat.succ (List.length [(99:UInt8),(116:UInt8),(114:UInt8),(108:UInt8),(43:UInt8),(97:UInt8),(108:UInt8),(116:UInt8),(43:UInt8),(115:UInt8),(104:UInt8),(105:UInt8),(102:UInt8),(116:UInt8),(43:UInt8),(102:UInt8)]+List.length d)) (2^62)∧ad (.tuple [.str ((99:UInt8)::(116:UInt8)::(114:UInt8)::(108:UInt8)::(43:UInt8)::(97:UInt8)::(108:UInt8)::(116:UInt8)::(43:UInt8)::(115:UInt8)::(104:UInt8)::(105:UInt8)::(102:UInt8)::(116:UInt8)::(43:UInt8)::(102:UInt8)::d),.bool true]) (uM k m)))∧(¬Int.tmod m 2=1→(-9223372036854775808≤k∧k≤9223372036854775807)∧(k≤14→(-2147483648≤k-1∧k-1≤2147483647)∧(0≤k-1∧k-1<14)∧bp env.D 9 ⟨49,0,0+Int.toNat (k-1),0,1⟩ (o0 k m)=some (R.str w)∧Nat.le (Nat.succ (List.length [(99:UInt8),(116:UInt8),(114:UInt8),(108:UInt8),(43:UInt8),(97:UInt8),(108:UInt8),(116:UInt8),(43:UInt8)]+List.length w)) (2^62)∧ad (.tuple [.str ((99:UInt8)::(116:UInt8)::(114:UInt8)::(108:UInt8)::(43:UInt8)::(97:UInt8)::(108:UInt8)::(116:UInt8)::(43:UInt8)::w),.bool true]) (o0 k m))∧(¬k≤14→(-9223372036854775808≤k∧k≤9223372036854775807)∧(-9223372036854775808≤k-21∧k-21≤9223372036854775807)∧(-9223372036854775808≤k-21+1∧k-21+1≤9223372036854775807)∧bu 47 [.int .i64 (k-21+1)] (lx k m) (.str d) (lx k m)∧Nat.le (Nat.succ (List.length [(99:UInt8),(116:UInt8),(114:UInt8),(108:UInt8),(43:UInt8),(97:UInt8),(108:UInt8),(116:UInt8),(43:UInt8),(102:UInt8)]+List.length d)) (2^62)∧ad (.tuple [.str ((99:UInt8)::(116:UInt8)::(114:UInt8)::(108:UInt8)::(43:UInt8)::(97:UInt8)::(108:UInt8)::(116:UInt8)::(43:UInt8)::(102:UInt8)::d),.bool true]) (lx k m))))∧(¬Int.tmod (Int.tdiv m 2) 2=1→((2:Int)=0→False)∧(Int.tmod m 2=1→(-9223372036854775808≤k∧k≤9223372036854775807)∧(k≤14→(-2147483648≤k-1∧k-1≤2147483647)∧(0≤k-1∧k-1<14)∧bp env.D 9 ⟨49,0,0+Int.toNat (k-1),0,1⟩ (o0 k m)=some (R.str w)∧Nat.le (Nat.succ (List.length [(99:UInt8),(116:UInt8),(114:UInt8),(108:UInt8),(43:UInt8),(115:UInt8),(104:UInt8),(105:UInt8),(102:UInt8),(116:UInt8),(43:UInt8)]+List.length w)) (2^62)∧ad (.tuple [.str ((99:UInt8)::(116:UInt8)::(114:UInt8)::(108:UInt8)::(43:UInt8)::(115:UInt8)::(104:UInt8)::(105:UInt8)::(102:UInt8)::(116:UInt8)::(43:UInt8)::w),.bool true]) (o0 k m))∧(¬k≤14→(-9223372036854775808≤k∧k≤9223372036854775807)∧(-9223372036854775808≤k-21∧k-21≤9223372036854775807)∧(-9223372036854775808≤k-21+1∧k-21+1≤9223372036854775807)∧bu 47 [.int .i64 (k-21+1)] (lx k m) (.str d) (lx k m)∧Nat.le (Nat.succ (List.length [(99:UInt8),(116:UInt8),(114:UInt8),(108:UInt8),(43:UInt8),(115:UInt8),(104:UInt8),(105:UInt8),(102:UInt8),(116:UInt8),(43:UInt8),(102:UInt8)]+List.length d)) (2^62)∧ad (.tuple [.str ((99:UInt8)::(116:UInt8)::(114:UInt8)::(108:UInt8)::(43:UInt8)::(115:UInt8)::(104:UInt8)::(105:UInt8)::(102:UInt8)::(116:UInt8)::(43:UInt8)::(102:UInt8)::d),.bool true]) (lx k m)))∧(¬Int.tmod m 2=1→(-9223372036854775808≤k∧k≤9223372036854775807)∧(k≤14→(-2147483648≤k-1∧k-1≤2147483647)∧(0≤k-1∧k-1<14)∧bp env.D 9 ⟨46,0,0+Int.toNat (k-1),0,1⟩ (oZ k m)=some (R.str w)∧Nat.le (Nat.succ (List.length [(99:UInt8),(116:UInt8),(114:UInt8),(108:UInt8),(43:UInt8)]+List.length w)) (2^62)∧ad (.tuple [.str ((99:UInt8)::(116:UInt8)::(114:UInt8)::(108:UInt8)::(43:UInt8)::w),.bool true]) (oZ k m))∧(¬k≤14→(-9223372036854775808≤k∧k≤9223372036854775807)∧(-9223372036854775808≤k-21∧k-21≤9223372036854775807)∧(-9223372036854775808≤k-21+1∧k-21+1≤9223372036854775807)∧bu 47 [.int .i64 (k-21+1)] (lv k m) (.str d) (lv k m)∧Nat.le (Nat.succ (List.length [(99:UInt8),(116:UInt8),(114:UInt8),(108:UInt8),(43:UInt8),(102:UInt8)]+List.length d)) (2^62)∧ad (.tuple [.str ((99:UInt8)::(116:UInt8)::(114:UInt8)::(108:UInt8)::(43:UInt8)::(102:UInt8)::d),.bool true]) (lv k m)))))∧(¬Int.tmod (Int.tdiv m 4) 2=1→(((2:Int)=0→False)∧de .u8 (Int.tdiv m 2))∧((2:Int)=0→False)∧(Int.tmod (Int.tdiv m 2) 2=1→((2:Int)=0→False)∧(Int.tmod m 2=1→(-9223372036854775808≤k∧k≤9223372036854775807)∧(k≤14→(-2147483648≤k-1∧k-1≤2147483647)∧(0≤k-1∧k-1<14)∧bp env.D 9 ⟨49,0,0+Int.toNat (k-1),0,1⟩ (o0 k m)=some (R.str w)∧Nat.le (Nat.succ (List.length [(97:UInt8),(108:UInt8),(116:UInt8),(43:UInt8),(115:UInt8),(104:UInt8),(105:UInt8),(102:UInt8),(116:UInt8),(43:UInt8)]+List.length w)) (2^62)∧ad (.tuple [.str ((97:UInt8)::(108:UInt8)::(116:UInt8)::(43:UInt8)::(115:UInt8)::(104:UInt8)::(105:UInt8)::(102:UInt8)::(116:UInt8)::(43:UInt8)::w),.bool true]) (o0 k m))∧(¬k≤14→(-9223372036854775808≤k∧k≤9223372036854775807)∧(-9223372036854775808≤k-21∧k-21≤9223372036854775807)∧(-9223372036854775808≤k-21+1∧k-21+1≤9223372036854775807)∧bu 47 [.int .i64 (k-21+1)] (lx k m) (.str d) (lx k m)∧Nat.le (Nat.succ (List.length [(97:UInt8),(108:UInt8),(116:UInt8),(43:UInt8),(115:UInt8),(104:UInt8),(105:UInt8),(102:UInt8),(116:UInt8),(43:UInt8),(102:UInt8)]+List.length d)) (2^62)∧ad (.tuple [.str ((97:UInt8)::(108:UInt8)::(116:UInt8)::(43:UInt8)::(115:UInt8)::(104:UInt8)::(105:UInt8)::(102:UInt8)::(116:UInt8)::(43:UInt8)::(102:UInt8)::d),.bool true]) (lx k m)))∧(¬Int.tmod m 2=1→(-9223372036854775808≤k∧k≤9223372036854775807)∧(k≤14→(-2147483648≤k-1∧k-1≤2147483647)∧(0≤k-1∧k-1<14)∧bp env.D 9 ⟨46,0,0+Int.toNat (k-1),0,1⟩ (oZ k m)=some (R.str w)∧Nat.le (Nat.succ (List.length [(97:UInt8),(108:UInt8),(116:UInt8),(43:UInt8)]+List.length w)) (2^62)∧ad (.tuple [.str ((97:UInt8)::(108:UInt8)::(116:UInt8)::(43:UInt8)::w),.bool true]) (oZ k m))∧(¬k≤14→(-9223372036854775808≤k∧k≤9223372036854775807)∧(-9223372036854775808≤k-21∧k-21≤9223372036854775807)∧(-9223372036854775808≤k-21+1∧k-21+1≤9223372036854775807)∧bu 47 [.int .i64 (k-21+1)] (lv k m) (.str d) (lv k m)∧Nat.le (Nat.succ (List.length [(97:UInt8),(108:UInt8),(116:UInt8),(43:UInt8),(102:UInt8)]+List.length d)) (2^62)∧ad (.tuple [.str ((97:UInt8)::(108:UInt8)::(116:UInt8)::(43:UInt8)::(102:UInt8)::d),.bool true]) (lv k m))))∧(¬Int.tmod (Int.tdiv m 2) 2=1→((2:Int)=0→False)∧(Int.tmod m 2=1→(-9223372036854775808≤k∧k≤9223372036854775807)∧(k≤14→(-2147483648≤k-1∧k-1≤2147483647)∧(0≤k-1∧k-1<14)∧bp env.D 9 ⟨46,0,0+Int.toNat (k-1),0,1⟩ (oZ k m)=some (R.str w)∧Nat.le (Nat.succ (List.length [(115:UInt8),(104:UInt8),(105:UInt8),(102:UInt8),(116:UInt8),(43:UInt8)]+List.length w)) (2^62)∧ad (.tuple [.str ((115:UInt8)::(104:UInt8)::(105:UInt8)::(102:UInt8)::(116:UInt8)::(43:UInt8)::w),.bool true]) (oZ k m))∧(¬k≤14→(-9223372036854775808≤k∧k≤9223372036854775807)∧(-9223372036854775808≤k-21∧k-21≤9223372036854775807)∧(-9223372036854775808≤k-21+1∧k-21+1≤9223372036854775807)∧bu 47 [.int .i64 (k-21+1)] (lv k m) (.str d) (lv k m)∧Nat.le (Nat.succ (List.length [(115:UInt8),(104:UInt8),(105:UInt8),(102:UInt8),(116:UInt8),(43:UInt8),(102:UInt8)]+List.length d)) (2^62)∧ad (.tuple [.str ((115:UInt8)::(104:UInt8)::(105:UInt8)::(102:UInt8)::(116:UInt8)::(43:UInt8)::(102:UInt8)::d),.bool true]) (lv k m)))∧(¬Int.tmod m 2=1→(-9223372036854775808≤k∧k≤9223372036854775807)∧(k≤14→(-2147483648≤k-1∧k-1≤2147483647)∧(0≤k-1∧k-1<14)∧bp env.D 9 ⟨43,0,0+Int.toNat (k-1),0,1⟩ (yD k m)=some (R.str w)∧Nat.le (Nat.succ (List.length ([]:List UInt8)+List.length w)) (2^62)∧ad (.tuple [.str w,.bool true]) (yD k m))∧(¬k≤14→(-9223372036854775808≤k∧k≤9223372036854775807)∧(-9223372036854775808≤k-21∧k-21≤9223372036854775807)∧(-9223372036854775808≤k-21+1∧k-21+1≤9223372036854775807)∧bu 47 [.int .i64 (k-21+1)] (uL k m) (.str d) (uL k m)∧Nat.le (Nat.succ (List.length [(102:UInt8)]+List.length d)) (2^62)∧ad (.tuple [.str ((102:UInt8)::d),.bool true]) (uL k m)))))) :
 bW 22 [aU 2 k m 0 0 []] (⟨0,.nil⟩) ad :=
 bZ cl (.ao (.val 1001 (.tuple [.str s,.bool true])) (ah 5002 (ah 5003 (.aO 5004 (ah 7002 (ah 7003 (.aO 7004 (ah 9002 (uN w d)) (ah 9002 (uN w d))))) (ah 7002 (ah 7003 (.aO 7004 (ah 9002 (uN w d)) (ah 9002 (uN w d))))))))) aP
abbrev CW(w:Bytes):cv:=(.aO 19000 .nil (.ao (.val 21003 (.str w)) (ah 21004 .nil)))
abbrev CX(w:Bytes):cv:=(.aO 9003 (.aO 17000 .nil (CW w)) (.aO 17000 .nil (CW w)))
abbrev uO(c m:Int):I:=(I.ak 51 [(0,ai.aq [(eC c m)] 6 true (some (42,6)))])
abbrev o1(c m:Int):I:=(I.ak 53 [(0,ai.aq [(eC c m)] 6 true (some (42,6)))])
abbrev uP(c m:Int):I:=(I.ak 54 [(0,ai.aq [(eC c m)] 6 true (some (42,6)))])
abbrev jo(c m:Int):I:=(I.ak 56 [(0,ai.aq [(eC c m)] 6 true (some (42,6)))])
abbrev ku(c m:Int):I:=(I.ak 59 [(0,ai.aq [(eC c m)] 6 true (some (42,6)))])
abbrev uQ(c m:Int):I:=(I.ak 62 [(0,ai.aq [(eC c m)] 6 true (some (42,6)))])
abbrev CY(w:Bytes):cv:=(ah 7002 (ah 7003 (.aO 7004 (ah 9002 (CX w)) (ah 9002 (CX w)))))
theorem LM(c m:Int)(s w:Bytes)(ad:bT)(aP:bu 20 [(eC c m)] (I.ak 10 [(0,ai.aq [(eC c m)] 6 true (some (42,6)))]) (.tuple [.str s,.bool true]) (I.ak 10 [(0,ai.aq [(eC c m)] 6 true (some (42,6)))])∧(((4:Int)=0→False)∧de .u8 (Int.tdiv m 4))∧((2:Int)=0→False)∧(Int.tmod (Int.tdiv m 4) 2=1→(((2:Int)=0→False)∧de .u8 (Int.tdiv m 2))∧((2:Int)=0→False)∧(Int.tmod (Int.tdiv m 2) 2=1→((2:Int)=0→False)∧(Int.tmod m 2=1→(c=32→ad (.tuple [.str [99,116,114,108,43,97,108,116,43,115,104,105,102,116,43,115,112,97,99,101],.bool true]) (I.ak 57 [(0,ai.aq [(eC c m)] 6 true (some (42,6)))]))∧(¬c=32→(c=43→ad (.tuple [.str [99,116,114,108,43,97,108,116,43,115,104,105,102,116,43,112,108,117,115],.bool true]) (ku c m))∧(¬c=43→bu 48 [.int .i32 c] (uQ c m) (.str w) (uQ c m)∧Nat.le (Nat.succ (List.length [(99:UInt8),(116:UInt8),(114:UInt8),(108:UInt8),(43:UInt8),(97:UInt8),(108:UInt8),(116:UInt8),(43:UInt8),(115:UInt8),(104:UInt8),(105:UInt8),(102:UInt8),(116:UInt8),(43:UInt8)]+List.length w)) (2^62)∧ad (.tuple [.str ((99:UInt8)::(116:UInt8)::(114:UInt8)::(108:UInt8)::(43:UInt8)::(97:UInt8)::(108:UInt8)::(116:UInt8)::(43:UInt8)::(115:UInt8)::(104:UInt8)::(105:UInt8)::(102:UInt8)::(116:UInt8)::(43:UInt8)::w),.bool true]) (uQ c m))))∧(¬Int.tmod m 2=1→(c=32→ad (.tuple [.str [99,116,114,108,43,97,108,116,43,115,112,97,99,101],.bool true]) (uP c m))∧(¬c=32→(c=43→ad (.tuple [.str [99,116,114,108,43,97,108,116,43,112,108,117,115],.bool true]) (jo c m))∧(¬c=43→bu 48 [.int .i32 c] (ku c m) (.str w) (ku c m)∧Nat.le (Nat.succ (List.length [(99:UInt8),(116:UInt8),(114:UInt8),(108:UInt8),(43:UInt8),(97:UInt8),(108:UInt8),(116:UInt8),(43:UInt8)]+List.length w)) (2^62)∧ad (.tuple [.str ((99:UInt8)::(116:UInt8)::(114:UInt8)::(108:UInt8)::(43:UInt8)::(97:UInt8)::(108:UInt8)::(116:UInt8)::(43:UInt8)::w),.bool true]) (ku c m)))))∧(¬Int.tmod (Int.tdiv m 2) 2=1→((2:Int)=0→False)∧(Int.tmod m 2=1→(c=32→ad (.tuple [.str [99,116,114,108,43,115,104,105,102,116,43,115,112,97,99,101],.bool true]) (uP c m))∧(¬c=32→(c=43→ad (.tuple [.str [99,116,114,108,43,115,104,105,102,116,43,112,108,117,115],.bool true]) (jo c m))∧(¬c=43→bu 48 [.int .i32 c] (ku c m) (.str w) (ku c m)∧Nat.le (Nat.succ (List.length [(99:UInt8),(116:UInt8),(114:UInt8),(108:UInt8),(43:UInt8),(115:UInt8),(104:UInt8),(105:UInt8),(102:UInt8),(116:UInt8),(43:UInt8)]+List.length w)) (2^62)∧ad (.tuple [.str ((99:UInt8)::(116:UInt8)::(114:UInt8)::(108:UInt8)::(43:UInt8)::(115:UInt8)::(104:UInt8)::(105:UInt8)::(102:UInt8)::(116:UInt8)::(43:UInt8)::w),.bool true]) (ku c m))))∧(¬Int.tmod m 2=1→(c=32→ad (.tuple [.str [99,116,114,108,43,115,112,97,99,101],.bool true]) (uO c m))∧(¬c=32→(c=43→ad (.tuple [.str [99,116,114,108,43,112,108,117,115],.bool true]) (o1 c m))∧(¬c=43→bu 48 [.int .i32 c] (jo c m) (.str w) (jo c m)∧Nat.le (Nat.succ (List.length [(99:UInt8),(116:UInt8),(114:UInt8),(108:UInt8),(43:UInt8)]+List.length w)) (2^62)∧ad (.tuple [.str ((99:UInt8)::(116:UInt8)::(114:UInt8)::(108:UInt8)::(43:UInt8)::w),.bool true]) (jo c m))))))∧(¬Int.tmod (Int.tdiv m 4) 2=1→(((2:Int)=0→False)∧de .u8 (Int.tdiv m 2))∧((2:Int)=0→False)∧(Int.tmod (Int.tdiv m 2) 2=1→((2:Int)=0→False)∧(Int.tmod m 2=1→(c=32→ad (.tuple [.str [97,108,116,43,115,104,105,102,116,43,115,112,97,99,101],.bool true]) (uP c m))∧(¬c=32→(c=43→ad (.tuple [.str [97,108,116,43,115,104,105,102,116,43,112,108,117,115],.bool true]) (jo c m))∧(¬c=43→bu 48 [.int .i32 c] (ku c m) (.str w) (ku c m)∧Nat.le (Nat.succ (List.length [(97:UInt8),(108:UInt8),(116:UInt8),(43:UInt8),(115:UInt8),(104:UInt8),(105:UInt8),(102:UInt8),(116:UInt8),(43:UInt8)]+List.length w)) (2^62)∧ad (.tuple [.str ((97:UInt8)::(108:UInt8)::(116:UInt8)::(43:UInt8)::(115:UInt8)::(104:UInt8)::(105:UInt8)::(102:UInt8)::(116:UInt8)::(43:UInt8)::w),.bool true]) (ku c m))))∧(¬Int.tmod m 2=1→(c=32→ad (.tuple [.str [97,108,116,43,115,112,97,99,101],.bool true]) (uO c m))∧(¬c=32→(c=43→ad (.tuple [.str [97,108,116,43,112,108,117,115],.bool true]) (o1 c m))∧(¬c=43→bu 48 [.int .i32 c] (jo c m) (.str w) (jo c m)∧Nat.le (Nat.succ (List.length [(97:UInt8),(108:UInt8),(116:UInt8),(43:UInt8)]+List.length w)) (2^62)∧ad (.tuple [.str ((97:UInt8)::(108:UInt8)::(116:UInt8)::(43:UInt8)::w),.bool true]) (jo c m)))))∧(¬Int.tmod (Int.tdiv m 2) 2=1→((2:Int)=0→False)∧(Int.tmod m 2=1→(c=32→ad (.tuple [.str [115,104,105,102,116,43,115,112,97,99,101],.bool true]) (uO c m))∧(¬c=32→(c=43→ad (.tuple [.str [115,104,105,102,116,43,112,108,117,115],.bool true]) (o1 c m))∧(¬c=43→bu 48 [.int .i32 c] (jo c m) (.str w) (jo c m)∧Nat.le (Nat.succ (List.length [(115:UInt8),(104:UInt8),(105:UInt8),(102:UInt8),(116:UInt8),(43:UInt8)]+List.length w)) (2^62)∧ad (.tuple [.str ((115:UInt8)::(104:UInt8)::(105:UInt8)::(102:UInt8)::(116:UInt8)::(43:UInt8)::w),.bool true]) (jo c m))))∧(¬Int.tmod m 2=1→(c=32→ad (.tuple [.str [115,112,97,99,101],.bool true]) (I.ak 48 [(0,ai.aq [(eC c m)] 6 true (some (42,6)))]))∧(¬c=32→(c=43→ad (.tuple [.str [112,108,117,115],.bool true]) (I.ak 50 [(0,ai.aq [(eC c m)] 6 true (some (42,6)))]))∧(¬c=43→bu 48 [.int .i32 c] (o1 c m) (.str w) (o1 c m)∧Nat.le (Nat.succ (List.length ([]:List UInt8)+List.length w)) (2^62)∧ad (.tuple [.str w,.bool true]) (o1 c m))))))) :
 bW 22 [aU 1 c m 0 0 []] (⟨0,.nil⟩) ad :=
 bZ cl (.ao (.val 1001 (.tuple [.str s,.bool true])) (ah 5002 (ah 5003 (.aO 5004 (CY w) (CY w))))) aP
end Go.Proofs.YtddnafghiejcoaaGreatDoor
namespace Go.Proofs.YtddnafghiejcoaaGreatDoor
open Go.bh Go.Keys Go.Lib
set_option maxRecDepth 1000000
def yF(e:b1):R:=match e4 e with|some s=> .tuple [.str s,.bool true]|none=> .tuple [.str [],.bool false]
theorem LN{c m:Nat}(hs:shown (c:Nat)=true)(hm:m≤7):(enc ⟨1,c,m,0,0,[]⟩).isSome=true:=by unfold enc;rw [if_neg (by show ¬(1:Int)=3;decide),if_neg (by show ¬(7:Int)<(m:Nat);omega),if_pos ⟨rfl,rfl,hs⟩];rfl
theorem CZ{k m:Nat}(aa:1≤k)(kn:k≤32)(hm:m≤7)(H:I):∃s,bE 20 [cc ⟨2,k,m,0,0,[]⟩] H (.tuple [.str s,.bool (gX k)]) H:=by
 obtain⟨s,ap⟩:=LG aa kn hm ⟨0,.nil⟩;have ap:∀K,bE 37 [cc ⟨2,k,m,0,0,[]⟩] K (.tuple [.str s,.bool (gX k)]) K:=fun K=>bn.cL ⟨_,_,ap,rfl⟩ rfl rfl K
 refine⟨s,bn.cL (LH (k:Nat) (m:Nat) s (gX k) (fun v _=>v=.tuple [.str s,.bool (gX k)]) ⟨by simp;omega,⟨ap _⟩,fun h=>by rw [h],fun h=>by rw [h]⟩) rfl rfl H⟩
theorem C0{c m:Nat}(hm:m≤7)(H:I):∃s,bE 20 [cc ⟨1,c,m,0,0,[]⟩] H (.tuple [.str s,.bool (shown (c:Nat))]) H:=by
 have fin:(∃v aa,bE 20 [aU 1 c m 0 0 []] ⟨0,.nil⟩ v aa∧∃t,v=.tuple [.str t,.bool (shown (c:Nat))])→ ∃s,bE 20 [cc ⟨1,c,m,0,0,[]⟩] H (.tuple [.str s,.bool (shown (c:Nat))]) H:=fun⟨v,aa,h,t,e⟩=>⟨t,bn.cL ⟨v,aa,h,e⟩ rfl rfl H⟩
 refine fin ?_;have o2:=yA (c:Nat);cases ac:ks (c:Nat)with
 |true =>
  rw [ac]at o2;have ly:Scalar c:=by simp [ks]at ac;unfold Scalar;omega
  obtain⟨s,ay⟩:=Ln ly hm ⟨0,.nil⟩;have ay:∀K,bE 36 [cc ⟨1,c,m,0,0,[]⟩] K (.str s) K:=fun K=>bn.cL ⟨_,_,ay,rfl⟩ rfl rfl K
  refine LI (c:Nat) (m:Nat) s (fun v _=> ∃t,v=.tuple [.str t,.bool (shown (c:Nat))]) ⟨by simp;omega,fun h=>⟨[],?_⟩,fun h=>⟨fun e=>⟨[],?_⟩,fun n=>⟨⟨o2 _⟩,⟨ay _⟩,s,?_⟩⟩⟩
  ·rw [show shown (c:Nat)=false by rw [Bool.eq_false_iff];intro q;simp [shown]at q;omega]
  ·rw [show shown (c:Nat)=false by rw [Bool.eq_false_iff];intro q;simp [shown]at q;omega]
  ·rw [show shown (c:Nat)=true by simp [ks]at ac;simp [shown];omega]
 |false =>
  rw [ac]at o2
  have aI:shown (c:Nat)=false:=by rw [Bool.eq_false_iff]at ac⊢;intro q;apply ac;simp [shown]at q;simp [ks];omega
  rw [aI];exact CT (c:Nat) (m:Nat) [] (fun v _=> ∃t,v=.tuple [.str t,.bool false]) ⟨by simp;omega,fun h=>⟨[],rfl⟩,fun h=>⟨fun e=>⟨[],rfl⟩,fun n=>⟨⟨o2 _⟩,[],rfl⟩⟩⟩
theorem dk{m:Nat}(C1 bl aJ:Bool)(bj:if C1 then Int.tmod (Int.tdiv (m:Nat) 4) 2=1 else ¬Int.tmod (Int.tdiv (m:Nat) 4) 2=1)(ae:if bl then Int.tmod (Int.tdiv (m:Nat) 2) 2=1 else ¬Int.tmod (Int.tdiv (m:Nat) 2) 2=1)(aa:if aJ then Int.tmod (m:Nat) 2=1 else ¬Int.tmod (m:Nat) 2=1) :
 dJ m=(if C1 then cr else [])++((if bl then cm else [])++if aJ then cE else []):=by
 have j1:Int.tmod (Int.tdiv (m:Nat) 4) 2=((m/4%2:Nat):Int):=rfl;have bV:Int.tmod (Int.tdiv (m:Nat) 2) 2=((m/2%2:Nat):Int):=rfl;have bk:Int.tmod (m:Nat) 2=((m%2:Nat):Int):=rfl;rw [j1]at bj;rw [bV]at ae;rw [bk]at aa;unfold dJ
 have q:∀{b:Bool}{n:Nat}{x:Bytes},(if b then(n:Int)=1 else ¬(n:Int)=1)→(if n=1 then x else [])=if b then x else []:=by
  intro b n x h;cases b with
  |true=>rw [if_pos (by simp at h;omega)];rfl
  |false=>rw [if_neg (by simp at h;omega)];rfl
 rw [q bj,q ae,q aa]
theorem nD{h:I}{q i:Nat}{z:Int}(ah:h.get q=some fi)(ag:i<14)(ds:Int.toNat z=i):bp (bq.D env) 9 ⟨q,0,0+Int.toNat z,0,1⟩ h=some (.str (fh.getD i [])):=by
 have bt:(bq.D env 9).map (fun d=>d.kind.isAgg)=some false:= aG;obtain⟨x,aa,ae⟩:=Option.map_eq_some_iff.1 bt
 have eh:fi.elem? 0 (0+i)=some (.str (fh.getD i [])):=by rw [Nat.zero_add];exact yo ag
 unfold bp;rw [ds,aa,ah];simp only [eh,gK,ae];simp
theorem LO{c m:Nat}(hs:shown (c:Nat)=true)(hm:m≤7)(H:I):bE 22 [cc ⟨1,c,m,0,0,[]⟩] H (.tuple [.str (dJ m++fP c),.bool true]) H:=by
 have ly:=(nt hs).1;rw [Int.toNat_natCast]at ly;obtain⟨s,he⟩:=C0 hm ⟨0,.nil⟩;rw [hs]at he;have he:∀K,bE 20 [cc ⟨1,c,m,0,0,[]⟩] K (.tuple [.str s,.bool true]) K:=fun K=>bn.cL ⟨_,_,he,rfl⟩ rfl rfl K
 have an:=CD ly;have ay:=tX c
 have sb:∀{k:Int},0<k→de .u8 (Int.tdiv (m:Nat) k):=by intro k ap;rw [Int.tdiv_eq_ediv_of_nonneg J];have aa:(0:Int)≤(m:Nat)/k:=Int.ediv_nonneg J J;have ae:(m:Int)/k≤(m:Nat):=Int.ediv_le_self _ J;show 0≤(m:Int)/k∧(m:Int)/k≤255;omega
 have NK:0<(2:Int):= cg
 have hU:∀{p:Bytes}(k:Nat),dJ m=p→((c:Nat):Int)=(k:Nat)→k=32∨k=43→(R.tuple [.str (p++fP k),.bool true])=.tuple [.str (dJ m++fP c),.bool true]:=by intro p k e h _;obtain rfl:c=k:= J;rw [e]
 have nE:∀{p:Bytes},dJ m=p→ ¬((c:Nat):Int)=32→ ¬((c:Nat):Int)=43→(R.tuple [.str (p++put c),.bool true])=.tuple [.str (dJ m++fP c),.bool true]:=by intro p e aa ae;rw [e];unfold fP;rw [if_neg J,if_neg J]
 refine bn.cL (LM (c:Nat) (m:Nat) s (put c) (fun v _=>v=.tuple [.str (dJ m++fP c),.bool true]) ?_) rfl rfl H
 delta o1 eC jo uO ku uP uQ
 have yG:=sb (by decide:(0:Int)<4);have sc:=sb (by decide:(0:Int)<2);exact⟨⟨he _⟩,⟨J,yG⟩,J,fun bj=>⟨⟨J,sc⟩,J,fun ae=>⟨J,fun aa=>⟨fun dK=>hU 32 (dk true true true bj ae aa) dK (.inl rfl),fun dK=>⟨fun dL=>hU 43 (dk true true true bj ae aa) dL (.inr rfl),fun dL=>⟨⟨an _⟩,by show _+1≤2^62;simp only [List.length_cons,List.length_nil];omega,nE (dk true true true bj ae aa) dK dL⟩⟩⟩,fun aa=>⟨fun dK=>hU 32 (dk true true false bj ae aa) dK (.inl rfl),fun dK=>⟨fun dL=>hU 43 (dk true true false bj ae aa) dL (.inr rfl),fun dL=>⟨⟨an _⟩,by show _+1≤2^62;simp only [List.length_cons,List.length_nil];omega,nE (dk true true false bj ae aa) dK dL⟩⟩⟩⟩,fun ae=>⟨J,fun aa=>⟨fun dK=>hU 32 (dk true false true bj ae aa) dK (.inl rfl),fun dK=>⟨fun dL=>hU 43 (dk true false true bj ae aa) dL (.inr rfl),fun dL=>⟨⟨an _⟩,by show _+1≤2^62;simp only [List.length_cons,List.length_nil];omega,nE (dk true false true bj ae aa) dK dL⟩⟩⟩,fun aa=>⟨fun dK=>hU 32 (dk true false false bj ae aa) dK (.inl rfl),fun dK=>⟨fun dL=>hU 43 (dk true false false bj ae aa) dL (.inr rfl),fun dL=>⟨⟨an _⟩,by show _+1≤2^62;simp only [List.length_cons,List.length_nil];omega,nE (dk true false false bj ae aa) dK dL⟩⟩⟩⟩⟩,fun bj=>⟨⟨J,sc⟩,J,fun ae=>⟨J,fun aa=>⟨fun dK=>hU 32 (dk false true true bj ae aa) dK (.inl rfl),fun dK=>⟨fun dL=>hU 43 (dk false true true bj ae aa) dL (.inr rfl),fun dL=>⟨⟨an _⟩,by show _+1≤2^62;simp only [List.length_cons,List.length_nil];omega,nE (dk false true true bj ae aa) dK dL⟩⟩⟩,fun aa=>⟨fun dK=>hU 32 (dk false true false bj ae aa) dK (.inl rfl),fun dK=>⟨fun dL=>hU 43 (dk false true false bj ae aa) dL (.inr rfl),fun dL=>⟨⟨an _⟩,by show _+1≤2^62;simp only [List.length_cons,List.length_nil];omega,nE (dk false true false bj ae aa) dK dL⟩⟩⟩⟩,fun ae=>⟨J,fun aa=>⟨fun dK=>hU 32 (dk false false true bj ae aa) dK (.inl rfl),fun dK=>⟨fun dL=>hU 43 (dk false false true bj ae aa) dL (.inr rfl),fun dL=>⟨⟨an _⟩,by show _+1≤2^62;simp only [List.length_cons,List.length_nil];omega,nE (dk false false true bj ae aa) dK dL⟩⟩⟩,fun aa=>⟨fun dK=>hU 32 (dk false false false bj ae aa) dK (.inl rfl),fun dK=>⟨fun dL=>hU 43 (dk false false false bj ae aa) dL (.inr rfl),fun dL=>⟨⟨an _⟩,by show _+1≤2^62;simp only [List.length_cons,List.length_nil];omega,nE (dk false false false bj ae aa) dK dL⟩⟩⟩⟩⟩⟩
theorem LP{k m:Nat}(ap:(1≤k∧k≤14)∨(21≤k∧k≤32))(hm:m≤7)(H:I):bE 22 [cc ⟨2,k,m,0,0,[]⟩] H (.tuple [.str (dJ m++iM k),.bool true]) H:=by
 obtain⟨s,he⟩:=CZ (k:=k) (m:=m) J J hm ⟨0,.nil⟩;rw [show gX k=true by simp only [gX,Bool.or_eq_true,Bool.and_eq_true,Nat.ble_eq];exact ap]at he;have he:∀K,bE 20 [cc ⟨2,k,m,0,0,[]⟩] K (.tuple [.str s,.bool true]) K:=fun K=>bn.cL ⟨_,_,he,rfl⟩ rfl rfl K
 have sb:∀{j:Int},0<j→de .u8 (Int.tdiv (m:Nat) j):=by intro j aW;rw [Int.tdiv_eq_ediv_of_nonneg J];have aa:(0:Int)≤(m:Nat)/j:=Int.ediv_nonneg J J;have ae:(m:Int)/j≤(m:Nat):=Int.ediv_le_self _ J;show 0≤(m:Int)/j∧(m:Int)/j≤255;omega
 have yG:=sb (by decide:(0:Int)<4);have sc:=sb (by decide:(0:Int)<2)
 have zE:(fh.getD (k-1) []).length≤9:=by have:∀i:Fin 40,(fh.getD i.val []).length≤9:= cg;exact this ⟨k-1,J⟩
 have gJ:¬((k:Nat):Int)≤14→ ∀K,bE 47 [.int .i64 ((k:Nat)-21+1)] K (.str (decDigits (k-20))) K:=by
  intro h K;have:=r8 (n:=k-20) J K
  rwa [show((k-20:Nat):Int)=(k:Nat)-21+1 by omega]at this
 have zW:=ns (n:=k-20) (k:=9) (by simp;omega)
 have nF:∀{p:Bytes},dJ m=p→((k:Nat):Int)≤14→(R.tuple [.str (p++fh.getD (k-1) []),.bool true])=.tuple [.str (dJ m++iM k),.bool true]:=by intro p e h;rw [e];unfold iM;rw [if_neg J]
 have nG:∀{p:Bytes},dJ m=p→ ¬((k:Nat):Int)≤14→(R.tuple [.str (p++[102]++decDigits (k-20)),.bool true])=.tuple [.str (dJ m++iM k),.bool true]:=by intro p e h;rw [e];unfold iM;rw [if_pos J,List.append_assoc];rfl
 refine bn.cL (LL (k:Nat) (m:Nat) s (fh.getD (k-1) []) (decDigits (k-20)) (fun v _=>v=.tuple [.str (dJ m++iM k),.bool true]) ?_) rfl rfl H
 delta uL lq ln lo lp lg li lj ll lh lc lm lr lf lk dR yD lv oZ lx o0 uM yE
 exact⟨⟨he _⟩,⟨J,yG⟩,J,fun bj=>⟨⟨J,sc⟩,J,fun ae=>⟨J,fun aa=>⟨⟨J,J⟩,fun dp=>⟨⟨J,J⟩,⟨J,J⟩,nD rfl J J,by show _+1≤2^62;simp only [List.length_cons,List.length_nil];omega,nF (dk true true true bj ae aa) dp⟩,fun dp=>⟨⟨J,J⟩,⟨J,J⟩,⟨J,J⟩,⟨gJ dp _⟩,by show _+1≤2^62;simp only [List.length_cons,List.length_nil];omega,nG (dk true true true bj ae aa) dp⟩⟩,fun aa=>⟨⟨J,J⟩,fun dp=>⟨⟨J,J⟩,⟨J,J⟩,nD rfl J J,by show _+1≤2^62;simp only [List.length_cons,List.length_nil];omega,nF (dk true true false bj ae aa) dp⟩,fun dp=>⟨⟨J,J⟩,⟨J,J⟩,⟨J,J⟩,⟨gJ dp _⟩,by show _+1≤2^62;simp only [List.length_cons,List.length_nil];omega,nG (dk true true false bj ae aa) dp⟩⟩⟩,fun ae=>⟨J,fun aa=>⟨⟨J,J⟩,fun dp=>⟨⟨J,J⟩,⟨J,J⟩,nD rfl J J,by show _+1≤2^62;simp only [List.length_cons,List.length_nil];omega,nF (dk true false true bj ae aa) dp⟩,fun dp=>⟨⟨J,J⟩,⟨J,J⟩,⟨J,J⟩,⟨gJ dp _⟩,by show _+1≤2^62;simp only [List.length_cons,List.length_nil];omega,nG (dk true false true bj ae aa) dp⟩⟩,fun aa=>⟨⟨J,J⟩,fun dp=>⟨⟨J,J⟩,⟨J,J⟩,nD rfl J J,by show _+1≤2^62;simp only [List.length_cons,List.length_nil];omega,nF (dk true false false bj ae aa) dp⟩,fun dp=>⟨⟨J,J⟩,⟨J,J⟩,⟨J,J⟩,⟨gJ dp _⟩,by show _+1≤2^62;simp only [List.length_cons,List.length_nil];omega,nG (dk true false false bj ae aa) dp⟩⟩⟩⟩,fun bj=>⟨⟨J,sc⟩,J,fun ae=>⟨J,fun aa=>⟨⟨J,J⟩,fun dp=>⟨⟨J,J⟩,⟨J,J⟩,nD rfl J J,by show _+1≤2^62;simp only [List.length_cons,List.length_nil];omega,nF (dk false true true bj ae aa) dp⟩,fun dp=>⟨⟨J,J⟩,⟨J,J⟩,⟨J,J⟩,⟨gJ dp _⟩,by show _+1≤2^62;simp only [List.length_cons,List.length_nil];omega,nG (dk false true true bj ae aa) dp⟩⟩,fun aa=>⟨⟨J,J⟩,fun dp=>⟨⟨J,J⟩,⟨J,J⟩,nD rfl J J,by show _+1≤2^62;simp only [List.length_cons,List.length_nil];omega,nF (dk false true false bj ae aa) dp⟩,fun dp=>⟨⟨J,J⟩,⟨J,J⟩,⟨J,J⟩,⟨gJ dp _⟩,by show _+1≤2^62;simp only [List.length_cons,List.length_nil];omega,nG (dk false true false bj ae aa) dp⟩⟩⟩,fun ae=>⟨J,fun aa=>⟨⟨J,J⟩,fun dp=>⟨⟨J,J⟩,⟨J,J⟩,nD rfl J J,by show _+1≤2^62;simp only [List.length_cons,List.length_nil];omega,nF (dk false false true bj ae aa) dp⟩,fun dp=>⟨⟨J,J⟩,⟨J,J⟩,⟨J,J⟩,⟨gJ dp _⟩,by show _+1≤2^62;simp only [List.length_cons,List.length_nil];omega,nG (dk false false true bj ae aa) dp⟩⟩,fun aa=>⟨⟨J,J⟩,fun dp=>⟨⟨J,J⟩,⟨J,J⟩,nD rfl J J,by show _+1≤2^62;simp only [List.length_cons,List.length_nil];omega,nF (dk false false false bj ae aa) dp⟩,fun dp=>⟨⟨J,J⟩,⟨J,J⟩,⟨J,J⟩,⟨gJ dp _⟩,by show _+1≤2^62;simp only [List.length_cons,List.length_nil];omega,nG (dk false false false bj ae aa) dp⟩⟩⟩⟩⟩
end Go.Proofs.YtddnafghiejcoaaGreatDoor
namespace Go.Proofs.YtddnafghiejcoaaGreatDoor
open Go.bh Go.Keys Go.Lib
set_option maxRecDepth 1000000
def uR(m:Nat)(e:b1):Prop:=(∃k:Nat,1≤k∧k≤32∧e=⟨2,k,m,0,0,[]⟩)∨ ∃c:Int,e=⟨1,c,m,0,0,[]⟩
theorem C2{k m:Nat}(hm:m≤7)(ap:k≤32):(iJ k m).isSome=gX k:=by have:∀k:Fin 33,∀m:Fin 8,(iJ k.val m.val).isSome=gX k.val:= cg;exact this ⟨k,J⟩ ⟨m,J⟩
theorem C3{k m:Nat}(hm:m≤7):enc ⟨2,k,m,0,0,[]⟩=iJ k m:=by unfold enc;rw [if_neg (by show ¬(2:Int)=3;decide),if_neg (by show ¬(7:Int)<(m:Nat);omega),if_neg (by intro q;exact absurd q.1 (by show ¬(2:Int)=1;decide)),if_pos ⟨rfl,rfl⟩,if_pos (by show(0:Int)≤(k:Nat);omega)];rfl
theorem LQ{c:Int}{m:Nat}(hm:m≤7)(H:I):∃s,bE 20 [cc ⟨1,c,m,0,0,[]⟩] H (.tuple [.str s,.bool (shown c)]) H:=by
 by_cases h:0≤c
 ·obtain⟨n,rfl⟩:=Int.eq_ofNat_of_zero_le h;exact C0 hm H
 ·have ac:ks c=false:=by rw [Bool.eq_false_iff];intro q;simp [ks]at q;omega
  have aI:shown c=false:=by rw [Bool.eq_false_iff];intro q;simp [shown]at q;omega
  have o2:=yA c;rw [ac]at o2;rw [aI];exact⟨[],bn.cL (CT c (m:Nat) [] (fun v _=>v=.tuple [.str [],.bool false]) ⟨by simp;omega,fun h=>rfl,fun h=>⟨fun e=>rfl,fun n=>⟨⟨o2 _⟩,rfl⟩⟩⟩) rfl rfl H⟩
theorem LR{c:Int}{m:Nat}(hs:shown c=true)(hm:m≤7):(enc ⟨1,c,m,0,0,[]⟩).isSome=true:=by have:=(nt hs).2.2.2;rw [←this]at hs⊢;exact LN hs hm
theorem LS{e:b1}{m:Nat}(aI:e4 e=none)(al:uR m e)(hm:m≤7)(H:I):bE 22 [cc e] H (.tuple [.str [],.bool false]) H:=by
 rcases al with ⟨k,aa,kn,rfl⟩|⟨c,rfl⟩
 ·obtain⟨s,he⟩:=CZ (k:=k) (m:=m) aa kn hm ⟨0,.nil⟩
  have bx:gX k=false:=by rw [Bool.eq_false_iff];intro q;rw [←C2 hm kn,←C3 hm]at q;unfold e4 at aI;rw [if_pos ⟨q,.inr rfl⟩]at aI;cases aI
  rw [bx]at he;have he:∀K,bE 20 [cc ⟨2,k,m,0,0,[]⟩] K (.tuple [.str s,.bool false]) K:=fun K=>bn.cL ⟨_,_,he,rfl⟩ rfl rfl K
  exact bn.cL (CU 2 (k:Nat) (m:Nat) s (fun v _=>v=.tuple [.str [],.bool false]) ⟨⟨he _⟩,rfl⟩) rfl rfl H
 ·obtain⟨s,he⟩:=LQ (c:=c) (m:=m) hm ⟨0,.nil⟩
  have bx:shown c=false:=by rw [Bool.eq_false_iff];intro q;unfold e4 at aI;rw [if_pos ⟨LR q hm,.inl rfl⟩]at aI;cases aI
  rw [bx]at he;have he:∀K,bE 20 [cc ⟨1,c,m,0,0,[]⟩] K (.tuple [.str s,.bool false]) K:=fun K=>bn.cL ⟨_,_,he,rfl⟩ rfl rfl K
  exact bn.cL (CU 1 c (m:Nat) s (fun v _=>v=.tuple [.str [],.bool false]) ⟨⟨he _⟩,rfl⟩) rfl rfl H
theorem LU{e:b1}{m:Nat}(al:uR m e)(hm:m≤7)(H:I):bE 22 [cc e] H (yF e) H:=by
 unfold yF;cases aI:e4 e with
 |none=>exact LS aI al hm H
 |some s =>
  rcases al with ⟨k,aa,kn,rfl⟩|⟨c,rfl⟩
  ·have hc:=aI;unfold e4 at hc;split at hc
   ·rename_i q;have ap:gX k=true:=by rw [←C2 hm kn,←C3 hm];exact q.1
    simp only [gX,Bool.or_eq_true,Bool.and_eq_true,Nat.ble_eq]at ap;obtain⟨b,an⟩:=Option.isSome_iff_exists.1 q.1;rw [um an]at aI;simp only [Option.some.injEq]at aI;subst aI;exact LP ap hm H
   ·cases hc
  ·have hc:=aI;unfold e4 at hc;split at hc
   ·rename_i q;obtain⟨b,an⟩:=Option.isSome_iff_exists.1 q.1;obtain⟨dm,eF,bk,_,hs⟩:=ul (e:=⟨1,c,m,0,0,[]⟩) (by show(0:Int)≤(m:Nat);omega) an rfl;simp only [b1.mk.injEq]at bk;obtain⟨_,rfl,_⟩:=bk;rw [qb an]at aI;simp only [Option.some.injEq]at aI;subst aI;exact LO hs hm H
   ·cases hc
end Go.Proofs.YtddnafghiejcoaaGreatDoor
namespace Go.Proofs.YtddnafghiejcoaaGreatDoor
open Go.bh Go.Keys Go.Lib
abbrev qq(aE ag n cM cN off:Int):R:= .agg [.int .i64 aE,.int .i64 ag,.int .i64 n,.int .i64 cM,.int .i64 cN,.int .i64 off]
end Go.Proofs.YtddnafghiejcoaaGreatDoor
namespace Go.Proofs.YtddnafghiejcoaaGreatDoor
open Go.bh Go.Keys Go.Lib
set_option maxRecDepth 1000000
abbrev kv(aE ag n cM cN off:Int):R:=R.agg [.int .i64 aE,.int .i64 ag,.int .i64 n,.int .i64 cM,.int .i64 cN,.int .i64 off]
theorem C4(k:Nat)(s:Bytes)(aE ag n cM cN off b:Int)(ad:ch→a'→I→Prop)(aP:((k:Int)<n→((k:Int)<(↑(List.length s):Int)→g' env.D 9 (.str s) (.int .i64 (k:Int))=some (.int .u8 b)∧(-9223372036854775808≤b∧b≤9223372036854775807)∧((k:Int)=1→(b<cM→ad .ret [(0,.str s),(3,.ptr (aC 0)),(4,.int .i64 (k:Int)),(5,.int .i64 (k:Int))] (I.ak 65 [(0,ai.aq [(kv aE ag n cM cN off)] 6 true (some (120,6)))]))∧(¬b<cM→(cN<b→ad .ret [(0,.str s),(3,.ptr (aC 0)),(4,.int .i64 (k:Int)),(5,.int .i64 (k:Int))] (I.ak 65 [(0,ai.aq [(kv aE ag n cM cN off)] 6 true (some (120,6)))]))∧(¬cN<b→(-9223372036854775808≤(k:Int)+1∧(k:Int)+1≤9223372036854775807)∧ad .normal [(0,.str s),(3,.ptr (aC 0)),(5,.int .i64 ((k:Int)+1))] (I.ak 66 [(0,ai.aq [(kv aE ag n cM cN off)] 6 true (some (120,6)))]))))∧(¬(k:Int)=1→(b<128→ad .ret [(0,.str s),(3,.ptr (aC 0)),(4,.int .i64 (k:Int)),(5,.int .i64 (k:Int))] (I.ak 59 [(0,ai.aq [(kv aE ag n cM cN off)] 6 true (some (120,6)))]))∧(¬b<128→(191<b→ad .ret [(0,.str s),(3,.ptr (aC 0)),(4,.int .i64 (k:Int)),(5,.int .i64 (k:Int))] (I.ak 59 [(0,ai.aq [(kv aE ag n cM cN off)] 6 true (some (120,6)))]))∧(¬191<b→(-9223372036854775808≤(k:Int)+1∧(k:Int)+1≤9223372036854775807)∧ad .normal [(0,.str s),(3,.ptr (aC 0)),(5,.int .i64 ((k:Int)+1))] (I.ak 60 [(0,ai.aq [(kv aE ag n cM cN off)] 6 true (some (120,6)))])))))∧(¬(k:Int)<(↑(List.length s):Int)→ad (.exit 0) [(0,.str s),(3,.ptr (aC 0)),(5,.int .i64 (k:Int))] (I.ak 40 [(0,ai.aq [(kv aE ag n cM cN off)] 6 true (some (120,6)))])))∧(¬(k:Int)<n→ad (.exit 0) [(0,.str s),(3,.ptr (aC 0)),(5,.int .i64 (k:Int))] (I.ak 40 [(0,ai.aq [(kv aE ag n cM cN off)] 6 true (some (120,6)))]))) :
 ∃e aA aa,bK 0 60 (bw 80 0) [(0,.str s),(3,.ptr (aC 0)),(5,.int .i64 (k:Nat))] (I.ak 30 [(0,ai.aq [qq aE ag n cM cN off] 6 true (some (120,6)))]) e aA aa∧ad e aA aa :=
 eB dB mixed cl (hs:= .aO 4003 (.aO 4008 (.ao (.val 5002 (.int .u8 b)) (ah 5003 (.aO 7001 (.aO 9002 .nil (.aO 9006 .nil (ah 11001 .nil))) (.aO 9002 .nil (.aO 9006 .nil (ah 11001 .nil)))))) .nil) .nil) (keep:=[0,3,4,5]) aG aP
abbrev nH(aE ag n cM cN off:Int):I:=(I.ak 22 [(0,ai.aq [(kv aE ag n cM cN off)] 6 true (some (120,6)))])
theorem LV(s:Bytes)(aE ag n cM cN off b:Int)(H1:I)(x:R)(ad:bT)(aP:((↑(List.length s):Int)=0→ad (.int .i64 0) (nH aE ag n cM cN off))∧(¬(↑(List.length s):Int)=0→g' env.D 9 (.str s) (.int .i64 0)=some (.int .u8 b)∧(-9223372036854775808≤b∧b≤9223372036854775807)∧(b<aE→ad (.int .i64 0) (nH aE ag n cM cN off))∧(¬b<aE→g' env.D 9 (.str s) (.int .i64 0)=some (.int .u8 b)∧(-9223372036854775808≤b∧b≤9223372036854775807)∧(ag<b→ad (.int .i64 0) (nH aE ag n cM cN off))∧(¬ag<b→bK 0 60 (Code.loop (bw 80 0)) [(0,.str s),(3,.ptr (aC 0)),(5,.int .i64 1)] (nH aE ag n cM cN off) (.exit 0) [(0,.str s),(3,.ptr (aC 0)),(5,x)] H1∧ad x (I.mk (H1.U+2) (I.aB H1)))))) :
 bW 80 [.str s,qq aE ag n cM cN off] (⟨0,.nil⟩) ad :=
 bZ cl (.aO 1002 .nil (.ao (.val 1005 (.int .u8 b)) (ah 1006 (.aO 1009 .nil (.ao (.val 1013 (.int .u8 b)) (ah 1014 (.aO 1017 .nil (.ao (.keep [0,3,5]) (.ao (.loop [(0,.str s),(3,.ptr (aC 0)),(5,x)] H1 (.exit 0)) .nil))))))))) aP
theorem LW(s:Bytes)(aE ag n cM cN off b:Int)(H1:I)(x y:R)(ad:bT)(aP:((↑(List.length s):Int)=0→ad (.int .i64 0) (nH aE ag n cM cN off))∧(¬(↑(List.length s):Int)=0→g' env.D 9 (.str s) (.int .i64 0)=some (.int .u8 b)∧(-9223372036854775808≤b∧b≤9223372036854775807)∧(b<aE→ad (.int .i64 0) (nH aE ag n cM cN off))∧(¬b<aE→g' env.D 9 (.str s) (.int .i64 0)=some (.int .u8 b)∧(-9223372036854775808≤b∧b≤9223372036854775807)∧(ag<b→ad (.int .i64 0) (nH aE ag n cM cN off))∧(¬ag<b→bK 0 60 (Code.loop (bw 80 0)) [(0,.str s),(3,.ptr (aC 0)),(5,.int .i64 1)] (nH aE ag n cM cN off) .ret [(0,.str s),(3,.ptr (aC 0)),(4,y),(5,x)] H1∧ad y H1)))) :
 bW 80 [.str s,qq aE ag n cM cN off] (⟨0,.nil⟩) ad :=
 bZ cl (.aO 1002 .nil (.ao (.val 1005 (.int .u8 b)) (ah 1006 (.aO 1009 .nil (.ao (.val 1013 (.int .u8 b)) (ah 1014 (.aO 1017 .nil (.ao (.keep [0,3,5]) (.ao (.loop [(0,.str s),(3,.ptr (aC 0)),(4,y),(5,x)] H1 .ret) .nil))))))))) aP
theorem C5(j k:Nat)(s:Bytes)(n b:Int)(ad:ch→a'→I→Prop)(aP:((j:Int)<(k:Int)→(-9223372036854775808≤n*64∧n*64≤9223372036854775807)∧g' env.D 9 (.str s) (.int .i64 (j:Int))=some (.int .u8 b)∧(-9223372036854775808≤b∧b≤9223372036854775807)∧(-9223372036854775808≤n*64+b∧n*64+b≤9223372036854775807)∧(-9223372036854775808≤n*64+b-128∧n*64+b-128≤9223372036854775807)∧(-9223372036854775808≤(j:Int)+1∧(j:Int)+1≤9223372036854775807)∧ad .normal [(0,.str s),(6,.int .i64 (k:Int)),(7,.int .i64 (n*64+b-128)),(8,.int .i64 ((j:Int)+1))] (I.ak 75 []))∧(¬(j:Int)<(k:Int)→ad (.exit 2) [(0,.str s),(6,.int .i64 (k:Int)),(7,.int .i64 n),(8,.int .i64 (j:Int))] (I.ak 63 []))) :
 ∃e aA aa,bK 0 60 (bw 52 1) [(0,.str s),(6,.int .i64 (k:Nat)),(7,.int .i64 n),(8,.int .i64 (j:Nat))] (I.ak 60 []) e aA aa∧ad e aA aa :=
 eB dB mixed cl (hs:= .aO 13002 (ah 15001 (.ao (.val 15004 (.int .u8 b)) (ah 15005 (ah 15006 (ah 15007 (ah 14001 .nil)))))) .nil) (keep:=[0,6,7,8]) aG aP
end Go.Proofs.YtddnafghiejcoaaGreatDoor
namespace Go.Proofs.YtddnafghiejcoaaGreatDoor
open Go.bh Go.Keys Go.Lib
set_option maxRecDepth 1000000
structure ej where
 aE:Nat
 ag:Nat
 n:Nat
 cM:Nat
 cN:Nat
 off:Nat
def ej.v(r:ej):R:=qq r.aE r.ag r.n r.cM r.cN r.off
def ev:List ej:=[⟨0,127,1,0,0,0⟩,⟨194,223,2,128,191,192⟩,⟨224,224,3,160,191,224⟩,⟨225,236,3,128,191,224⟩,⟨238,239,3,128,191,224⟩,⟨237,237,3,128,159,224⟩,⟨240,240,4,144,191,240⟩,⟨241,243,4,128,191,240⟩,⟨244,244,4,128,143,240⟩]
def b2(s:Bytes)(k:Nat):Nat:=(s.getD k 0).toNat
def lz(s:Bytes)(r:ej)(k:Nat):Bool:=_root_.cond (Nat.beq k 1) (Nat.blt (b2 s k) r.cM || Nat.blt r.cN (b2 s k)) (Nat.blt (b2 s k) 128 || Nat.blt 191 (b2 s k))
def lA(s:Bytes)(r:ej):Nat→Nat→Nat
 |0,k=>k
 |t+1,k=>if k<r.n∧k<s.length then if lz s r k=true then k else lA s r t (k+1)else k
def dX(s:Bytes)(r:ej):Nat:=if s.length=0∨b2 s 0<r.aE∨r.ag<b2 s 0 then 0 else lA s r 4 1
theorem uS{s:Bytes}{k:Nat}(h:k<s.length):g' (bq.D env) 9 (.str s) (.int .i64 (k:Nat))=some (.int .u8 (b2 s k:Nat)):=by have bt:(bq.D env 9).map (fun d=>d.kind)=some .string:= aG;obtain⟨x,aa,ae⟩:=Option.map_eq_some_iff.1 bt;unfold g';rw [aa];simp only [ae];rw [if_pos J,Int.toNat_natCast,List.getElem?_eq_getElem h];simp [b2,h]
theorem uT(s:Bytes)(k:Nat):b2 s k<256:=(s.getD k 0).toNat_lt
abbrev nI(s:Bytes)(v:R):a':=[(0,.str s),(3,.ptr (some ⟨0,0,0,0,6⟩)),(5,v)]
abbrev kw(r:ej):ai:=ai.aq [r.v] 6 true (some (120,6))
theorem uU(r:ej)(s:Bytes)(i:Int)(h:I)(ah:h.get 0=some (kw r)):cY 0 60 (nI s (.int .i64 i)) h (nI s (.int .i64 i)) (I.ak 30 [(0,kw r)]):=by
 have bk:I.rows 30 [(0,kw r)]=I.ak 30 [(0,kw r)]:= aG;rw [←bk]
 exact cY.drop (K:=30) (l:=[(0,kw r)]) (by simp only [List.map_cons,List.map_nil,ah]) (by rfl) (by rfl) (by rfl) (bm.cons trivial (bm.cons (by simp [bH,Go.bh.ff]) (bm.cons trivial bm.nil))) (bm.cons (by
  intro e he;obtain rfl:e=r.v:=by simpa [ai.aq]using he
  exact(cO.of rfl).ha _) bm.nil)
def C6(r:ej)(s:Bytes)(k q:Nat):Prop:= ∃aH,
 eP 0 60 (bw 80 0) (nI s (.int .i64 (k:Nat))) (I.ak 30 [(0,kw r)]) (.exit 0) (nI s (.int .i64 (q:Nat))) aH ∨
 ∃x,eP 0 60 (bw 80 0) (nI s (.int .i64 (k:Nat))) (I.ak 30 [(0,kw r)]) .ret [(0,.str s),(3,.ptr (some ⟨0,0,0,0,6⟩)),(4,.int .i64 (q:Nat)),(5,x)] aH
theorem LX(r:ej)(s:Bytes)(aI:r.n≤4):∀(t k:Nat),4-k≤t→1≤k→k≤4→C6 r s k (lA s r t k):=by
 have fin:∀k,k≤4→ ¬(k<r.n∧k<s.length)→C6 r s k k:=by intro k bj h;obtain⟨e,aA,aa,aR,rfl,rfl⟩:=C4 k s r.aE r.ag r.n r.cM r.cN r.off 0 (fun e aA aa=>e=.exit 0∧aA=nI s (.int .i64 (k:Nat))) ⟨fun aa=>⟨fun ae=>absurd ⟨J,J⟩ h,fun _=>⟨rfl,rfl⟩⟩,fun _=>⟨rfl,rfl⟩⟩;exact⟨_,.inl (b8.last a1 aR)⟩
 intro t;induction t with
 |zero=>intro k aa ae aS;exact fin k aS J
 |succ t ih =>
  intro k aa ae aS;unfold lA;by_cases al:k<r.n∧k<s.length
  ·rw [if_pos al];have an:=uT s k;have eY:((k:Int)+1)=((k+1:Nat):Int):= J
   have oY:∃e aA aa,bK 0 60 (bw 80 0) (nI s (.int .i64 (k:Nat))) (I.ak 30 [(0,kw r)]) e aA aa∧((lz s r k=false∧e=.normal∧aA=nI s (.int .i64 ((k:Int)+1))∧aa.get 0=some (kw r))∨(lz s r k=true∧e=.ret∧aA=[(0,.str s),(3,.ptr (some ⟨0,0,0,0,6⟩)),(4,.int .i64 (k:Nat)),(5,.int .i64 (k:Nat))])):=by
    have uV:(k=1∧(b2 s k<r.cM∨r.cN<b2 s k)∨k≠1∧(b2 s k<128∨191<b2 s k))→lz s r k=true:=by
     intro h;unfold lz;rcases h with ⟨h,q⟩|⟨h,q⟩
     ·rw [show Nat.beq k 1=true by rw [Nat.beq_eq];exact h];simpa [Nat.blt_eq]using q
     ·rw [show Nat.beq k 1=false by rw [Bool.eq_false_iff];intro e;exact h (by rwa [Nat.beq_eq]at e)];simpa [Nat.blt_eq]using q
    have hC:¬(k=1∧(b2 s k<r.cM∨r.cN<b2 s k)∨k≠1∧(b2 s k<128∨191<b2 s k))→lz s r k=false:=by
     intro h;rw [Bool.eq_false_iff];intro q;apply h;unfold lz at q;by_cases e:k=1
     ·rw [show Nat.beq k 1=true by rw [Nat.beq_eq];exact e]at q;exact .inl ⟨e,by simpa [Nat.blt_eq]using q⟩
     ·rw [show Nat.beq k 1=false by rw [Bool.eq_false_iff];intro cn;exact e (by rwa [Nat.beq_eq]at cn)]at q;exact .inr ⟨e,by simpa [Nat.blt_eq]using q⟩
    exact C4 k s r.aE r.ag r.n r.cM r.cN r.off (b2 s k:Nat) _
     ⟨fun _=>⟨fun _=>⟨uS al.2,⟨J,J⟩,
      fun e=>⟨fun q=> .inr ⟨uV J,rfl,rfl⟩,fun bY=>⟨fun q=> .inr ⟨uV J,rfl,rfl⟩,fun bU=>⟨⟨J,J⟩,.inl ⟨hC J,rfl,rfl,rfl⟩⟩⟩⟩,
      fun e=>⟨fun q=> .inr ⟨uV J,rfl,rfl⟩,fun bY=>⟨fun q=> .inr ⟨uV J,rfl,rfl⟩,fun bU=>⟨⟨J,J⟩,.inl ⟨hC J,rfl,rfl,rfl⟩⟩⟩⟩⟩,fun h=>absurd J h⟩,fun h=>absurd J h⟩
   obtain⟨e,aA,fX,aR,⟨yH,rfl,rfl,ah⟩|⟨yH,rfl,rfl⟩⟩:=oY
   ·rw [yH,if_neg cg];obtain⟨aH,bA⟩:=ih (k+1) J J J;rw [eY]at aR;rcases bA with ca|⟨x,ca⟩
    ·exact⟨aH,.inl (b8.round aR (uU r s _ _ ah) ca)⟩
    ·exact⟨aH,.inr ⟨x,b8.round aR (uU r s _ _ ah) ca⟩⟩
   ·rw [yH,if_pos rfl];exact⟨_,.inr ⟨_,b8.last a1 aR⟩⟩
  ·rw [if_neg al];exact fin k aS al
theorem LY(r:ej)(s:Bytes)(aI:r.n≤4)(H:I):bE 80 [.str s,r.v] H (.int .i64 (dX s r:Nat)) H:=by
 have fin:(∃v aa,bE 80 [.str s,qq r.aE r.ag r.n r.cM r.cN r.off] ⟨0,.nil⟩ v aa∧v=.int .i64 (dX s r:Nat))→bE 80 [.str s,r.v] H (.int .i64 (dX s r:Nat)) H:=fun h=>bn.cL h rfl rfl H
 refine fin ?_;have an:=uT s 0;have z:(s.length=0∨b2 s 0<r.aE∨r.ag<b2 s 0)→(R.int .i64 0:R)=.int .i64 (dX s r:Nat):=by intro h;unfold dX;rw [if_pos h];rfl
 have C7:¬(s.length=0∨b2 s 0<r.aE∨r.ag<b2 s 0)→dX s r=lA s r 4 1:=by intro h;unfold dX;rw [if_neg h]
 have a0:¬((s.length:Nat):Int)=0→g' (bq.D env) 9 (.str s) (.int .i64 0)=some (.int .u8 (b2 s 0:Nat)):=fun h=>uS (k:=0) J
 obtain⟨aH,ca|⟨x,ca⟩⟩:=LX r s aI 4 1 J J J
 ·have gu:=(cQ.ei ca).pre (show cY 0 60 _ (I.ak 22 [(0,kw r)]) _ _ from uU r s 1 _ rfl)
  exact LV s r.aE r.ag r.n r.cM r.cN r.off (b2 s 0:Nat) aH _ (fun v _=>v=.int .i64 (dX s r:Nat))
   ⟨fun h=>z J,fun h=>⟨a0 h,⟨J,J⟩,fun q=>z J,fun bY=>⟨a0 h,⟨J,J⟩,fun q=>z J,fun bU=>⟨gu,by rw [C7 J]⟩⟩⟩⟩
 ·have gu:=(cQ.ei ca).pre (show cY 0 60 _ (I.ak 22 [(0,kw r)]) _ _ from uU r s 1 _ rfl)
  exact LW s r.aE r.ag r.n r.cM r.cN r.off (b2 s 0:Nat) aH x _ (fun v _=>v=.int .i64 (dX s r:Nat))
   ⟨fun h=>z J,fun h=>⟨a0 h,⟨J,J⟩,fun q=>z J,fun bY=>⟨a0 h,⟨J,J⟩,fun q=>z J,fun bU=>⟨gu,by rw [C7 J]⟩⟩⟩⟩
end Go.Proofs.YtddnafghiejcoaaGreatDoor
namespace Go.Proofs.YtddnafghiejcoaaGreatDoor
open Go.bh Go.Keys Go.Lib
set_option maxRecDepth 1000000
theorem C8(i k:Nat)(s:Bytes)(eA:ai)(aE ag n cM cN off b v:Int)(y:R)(H1:I)(ad:ch→a'→I→Prop)(aP:((i:Int)<9→(0≤(i:Int)∧(i:Int)<9)∧bp env.D 120 ⟨17,0,0+Int.toNat (i:Int),0,6⟩ (I.ak 71 [(17,eA)])=some ((kv aE ag n cM cN off))∧bu 80 [.str s,(kv aE ag n cM cN off)] (I.ak 71 [(17,eA)]) (.int .i64 (k:Int)) (I.ak 71 [(17,eA)])∧((k:Int)=0→(-9223372036854775808≤(i:Int)+1∧(i:Int)+1≤9223372036854775807)∧ad .normal [(0,.str s),(4,.slice (aC 17) 9 9),(5,.int .i64 ((i:Int)+1))] (I.ak 76 [(17,eA)]))∧(¬(k:Int)=0→(0≤(i:Int)∧(i:Int)<9)∧bp env.D 3 ⟨17,0,0+Int.toNat (i:Int),2,6⟩ (I.ak 80 [(17,eA)])=some (.int .i64 n)∧((k:Int)<n→ad .ret [(0,.str s),(2,.int .i32 65533),(3,.int .i64 (k:Int)),(4,.slice (aC 17) 9 9),(5,.int .i64 (i:Int))] (I.ak 83 [(17,eA)]))∧(¬(k:Int)<n→g' env.D 9 (.str s) (.int .i64 0)=some (.int .u8 b)∧(-9223372036854775808≤b∧b≤9223372036854775807)∧(0≤(i:Int)∧(i:Int)<9)∧bp env.D 3 ⟨17,0,0+Int.toNat (i:Int),5,6⟩ (I.ak 90 [(17,eA)])=some (.int .i64 off)∧(-9223372036854775808≤b-off∧b-off≤9223372036854775807)∧bK 0 60 (Code.loop (bw 52 1)) [(0,.str s),(6,.int .i64 (k:Int)),(7,.int .i64 (b-off)),(8,.int .i64 1)] (I.ak 91 [(17,eA)]) (.exit 2) [(0,.str s),(6,.int .i64 (k:Int)),(7,.int .i64 v),(8,y)] H1∧(-2147483648≤v∧v≤2147483647)∧ad .ret [(0,.str s),(2,.int .i32 v),(3,.int .i64 (k:Int))] (I.mk (H1.U+5) (I.aB H1)))))∧(¬(i:Int)<9→ad (.exit 0) [(0,.str s),(4,.slice (aC 17) 9 9),(5,.int .i64 (i:Int))] (I.ak 64 [(17,eA)]))) :
 ∃e aA aa,bK 0 60 (bw 52 0) [(0,.str s),(4,.slice (aC 17) 9 9),(5,.int .i64 (i:Nat))] (I.ak 60 [(17,eA)]) e aA aa∧ad e aA aa :=
 eB dB mixed cl (hs:= .aO 5003 (ah 7003 (.ao (.val 7004 (qq aE ag n cM cN off)) (.ao (.val 7005 (.int .i64 (k:Int))) (.aO 8001 (ah 6001 .nil) (ah 9003 (.ao (.val 9005 (.int .i64 n)) (.aO 9006 .nil (.ao (.val 11001 (.int .u8 b)) (ah 11002 (ah 11005 (.ao (.val 11007 (.int .i64 off)) (ah 11008 (.ao (.keep [0,6,7,8]) (.ao (.loop [(0,.str s),(6,.int .i64 (k:Int)),(7,.int .i64 v),(8,y)] H1 (.exit 2)) (ah 16001 .nil))))))))))))))) .nil) (keep:=[0,2,3,4,5]) aG aP
theorem C9(s:Bytes)(H1:I)(x:R)(ad:bT)(aP:((↑(List.length s):Int)=0→ad (.tuple [.int .i32 0,.int .i64 0]) (I.ak 7 []))∧(¬(↑(List.length s):Int)=0→bK 0 60 (Code.loop (bw 52 0)) [(0,.str s),(4,.slice (aC 17) 9 9),(5,.int .i64 0)] (I.ak 20 [(17,ai.aq [.agg [.int .i64 0,.int .i64 127,.int .i64 1,.int .i64 0,.int .i64 0,.int .i64 0],.agg [.int .i64 194,.int .i64 223,.int .i64 2,.int .i64 128,.int .i64 191,.int .i64 192],.agg [.int .i64 224,.int .i64 224,.int .i64 3,.int .i64 160,.int .i64 191,.int .i64 224],.agg [.int .i64 225,.int .i64 236,.int .i64 3,.int .i64 128,.int .i64 191,.int .i64 224],.agg [.int .i64 238,.int .i64 239,.int .i64 3,.int .i64 128,.int .i64 191,.int .i64 224],.agg [.int .i64 237,.int .i64 237,.int .i64 3,.int .i64 128,.int .i64 159,.int .i64 224],.agg [.int .i64 240,.int .i64 240,.int .i64 4,.int .i64 144,.int .i64 191,.int .i64 240],.agg [.int .i64 241,.int .i64 243,.int .i64 4,.int .i64 128,.int .i64 191,.int .i64 240],.agg [.int .i64 244,.int .i64 244,.int .i64 4,.int .i64 128,.int .i64 143,.int .i64 240]] 6 true)]) (.exit 0) [(0,.str s),(4,.slice (aC 17) 9 9),(5,x)] H1∧ad (.tuple [.int .i32 65533,.int .i64 1]) (I.mk (H1.U+2) (I.aB H1)))) :
 bW 52 [.str s] (⟨0,.nil⟩) ad :=
 bZ cl (.aO 1002 .nil (he 3000 (.ao (.keep [0,4,5]) (.ao (.loop [(0,.str s),(4,.slice (aC 17) 9 9),(5,x)] H1 (.exit 0)) .nil)))) aP
theorem LZ(s:Bytes)(H1:I)(a d:R)(ad:bT)(aP:((↑(List.length s):Int)=0→ad (.tuple [.int .i32 0,.int .i64 0]) (I.ak 7 []))∧(¬(↑(List.length s):Int)=0→bK 0 60 (Code.loop (bw 52 0)) [(0,.str s),(4,.slice (aC 17) 9 9),(5,.int .i64 0)] (I.ak 20 [(17,ai.aq [.agg [.int .i64 0,.int .i64 127,.int .i64 1,.int .i64 0,.int .i64 0,.int .i64 0],.agg [.int .i64 194,.int .i64 223,.int .i64 2,.int .i64 128,.int .i64 191,.int .i64 192],.agg [.int .i64 224,.int .i64 224,.int .i64 3,.int .i64 160,.int .i64 191,.int .i64 224],.agg [.int .i64 225,.int .i64 236,.int .i64 3,.int .i64 128,.int .i64 191,.int .i64 224],.agg [.int .i64 238,.int .i64 239,.int .i64 3,.int .i64 128,.int .i64 191,.int .i64 224],.agg [.int .i64 237,.int .i64 237,.int .i64 3,.int .i64 128,.int .i64 159,.int .i64 224],.agg [.int .i64 240,.int .i64 240,.int .i64 4,.int .i64 144,.int .i64 191,.int .i64 240],.agg [.int .i64 241,.int .i64 243,.int .i64 4,.int .i64 128,.int .i64 191,.int .i64 240],.agg [.int .i64 244,.int .i64 244,.int .i64 4,.int .i64 128,.int .i64 143,.int .i64 240]] 6 true)]) .ret [(0,.str s),(2,a),(3,d)] H1∧ad (.tuple [a,d]) H1)) :
 bW 52 [.str s] (⟨0,.nil⟩) ad :=
 bZ cl (.aO 1002 .nil (he 3000 (.ao (.keep [0,4,5]) (.ao (.loop [(0,.str s),(2,a),(3,d)] H1 .ret) .nil)))) aP
end Go.Proofs.YtddnafghiejcoaaGreatDoor
namespace Go.Proofs.YtddnafghiejcoaaGreatDoor
open Go.bh Go.Keys Go.Lib
set_option maxRecDepth 1000000
def iP(s:Bytes)(k:Nat):Nat→Nat→Int→Int
 |0,_,n=>n
 |t+1,j,n=>if j<k then iP s k t (j+1) (n*64+b2 s j-128)else n
def nJ:Nat→Int
 |1=>256
 |2=>16512
 |3=>1056896
 |_=>67641472
abbrev nK(s:Bytes)(k:Nat)(n v:R):a':=[(0,.str s),(6,.int .i64 (k:Nat)),(7,n),(8,v)]
theorem C'(k:Nat)(s:Bytes)(n i:Int)(h:I):cY 0 60 (nK s k (.int .i64 n) (.int .i64 i)) h (nK s k (.int .i64 n) (.int .i64 i)) (I.ak 60 []):=by have bk:I.rows 60 []=I.ak 60 []:= aG;rw [←bk];exact cY.drop (K:=60) (l:=[]) rfl (by rfl) (by rfl) (by rfl) (bm.cons trivial (bm.cons trivial (bm.cons trivial (bm.cons trivial bm.nil)))) bm.nil
theorem Da(j:Nat):nJ j≤67641472:=by unfold nJ;split<;>decide
theorem L0(s:Bytes)(k:Nat)(ap:k≤s.length)(bj:k≤4):∀(t j:Nat)(n:Int),4-j≤t→1≤j→j≤4→ -nJ j≤n→n≤nJ j→ ∃y aH,eP 0 60 (bw 52 1) (nK s k (.int .i64 n) (.int .i64 (j:Nat))) (I.ak 60 []) (.exit 2) (nK s k (.int .i64 (iP s k t j n)) y) aH∧ -67641472≤iP s k t j n∧iP s k t j n≤67641472:=by
 have fin:∀(j:Nat)(n:Int),¬j<k→ -nJ j≤n→n≤nJ j→ ∃y aH,eP 0 60 (bw 52 1) (nK s k (.int .i64 n) (.int .i64 (j:Nat))) (I.ak 60 []) (.exit 2) (nK s k (.int .i64 n) y) aH∧ -67641472≤n∧n≤67641472:=by intro j n h aJ bl;have:=Da j;obtain⟨e,aA,aa,aR,rfl,rfl⟩:=C5 j k s n 0 (fun e aA aa=>e=.exit 2∧aA=nK s k (.int .i64 n) (.int .i64 (j:Nat))) ⟨fun aa=>absurd J h,fun _=>⟨rfl,rfl⟩⟩;exact⟨_,_,b8.last a1 aR,J,J⟩
 intro t;induction t with
 |zero=>intro j n aa ae aS aJ bl;exact fin j n J aJ bl
 |succ t ih =>
  intro j n aa ae aS aJ bl;unfold iP;by_cases al:j<k
  ·rw [if_pos al];have an:=uT s j;have NL:=Da j;have eY:((j:Int)+1)=((j+1:Nat):Int):= J
   have gF:64*nJ j+128≤nJ (j+1):=by have:j=1∨j=2∨j=3:= J;rcases this with rfl|rfl|rfl<;>decide
   obtain⟨e,aA,fX,aR,rfl,rfl⟩:=C5 j k s n (b2 s j:Nat) (fun e aA aa=>e=.normal∧aA=nK s k (.int .i64 (n*64+b2 s j-128)) (.int .i64 ((j:Int)+1))) ⟨fun _=>⟨⟨J,J⟩,uS J,⟨J,J⟩,⟨J,J⟩,⟨J,J⟩,⟨J,J⟩,rfl,rfl⟩,fun h=>absurd J h⟩;obtain⟨y,aH,ca,bY,bU⟩:=ih (j+1) (n*64+b2 s j-128) J J J J J;rw [eY]at aR;exact⟨y,aH,b8.round aR (C' k s _ _ _) ca,bY,bU⟩
  ·rw [if_neg al];exact fin j n al aJ bl
def gY(s:Bytes):List ej→Int×Int
 |[]=>(65533,1)
 |r::l=>if dX s r=0 then gY s l else if dX s r<r.n then(65533,(dX s r:Nat))else(iP s (dX s r) 3 1 ((b2 s 0:Nat)- (r.off:Nat)),(dX s r:Nat))
theorem yI(s:Bytes)(r:ej)(M:Nat)(L1:r.n≤M∨s.length≤M):∀(t k:Nat),k≤M→lA s r t k≤M
 |0,k,h=>h
 |t +1,k,h=>by
  unfold lA;split
  ·split
   ·exact h
   ·exact yI s r M L1 t (k+1) J
  ·exact h
theorem L2(s:Bytes)(r:ej)(aa:1≤r.n):dX s r≤r.n∧dX s r≤s.length:=by
 unfold dX;split
 ·exact⟨J,J⟩
 ·exact⟨yI s r _ (.inl (Nat.le_refl _)) 4 1 aa,yI s r _ (.inr (Nat.le_refl _)) 4 1 J⟩
theorem L3:∀i:Fin 9,1≤(ev[i.val]'(by exact i.isLt)).n∧(ev[i.val]'(by exact i.isLt)).n≤4∧(ev[i.val]'(by exact i.isLt)).off≤240:= cg
abbrev fS:ai:=ai.aq (ev.map ej.v) 6 true
theorem Db{i:Nat}(ag:i<9):fS.elem? 0 (0+i)=some ((ev[i]'ag).v):=by have ay:i<(ev.map ej.v).length:=ag;simp [ai.elem?,ai.bL,ai.aq,fS,ay];exact⟨ag,_,List.getElem?_eq_getElem ag,rfl⟩
theorem Dc{h:I}{i:Nat}(ah:h.get 17=some fS)(ag:i<9):bp (bq.D env) 120 ⟨17,0,0+Int.toNat (i:Nat),0,6⟩ h=some ((ev[i]'ag).v):=by have bt:(bq.D env 120).map (fun d=>(d.kind.isAgg,d.size))=some (true,6):= aG;obtain⟨x,aa,ae⟩:=Option.map_eq_some_iff.1 bt;simp only [Prod.mk.injEq]at ae;unfold bp;rw [aa,ah,Int.toNat_natCast];simp only [Db ag,gK,ae.1,ae.2];simp [ej.v]
theorem Dd{h:I}{i:Nat}(ah:h.get 17=some fS)(ag:i<9):bp (bq.D env) 3 ⟨17,0,0+Int.toNat (i:Nat),2,6⟩ h=some (.int .i64 ((ev[i]'ag).n:Nat))∧bp (bq.D env) 3 ⟨17,0,0+Int.toNat (i:Nat),5,6⟩ h=some (.int .i64 ((ev[i]'ag).off:Nat)):=by have bt:(bq.D env 3).map (fun d=>d.kind.isAgg)=some false:= aG;obtain⟨x,aa,ae⟩:=Option.map_eq_some_iff.1 bt;unfold bp;rw [aa,ah,Int.toNat_natCast];simp only [Db ag,gK,ae];exact⟨by simp [ej.v],by simp [ej.v]⟩
abbrev nL(s:Bytes)(v:R):a':=[(0,.str s),(4,.slice (some ⟨17,0,0,0,6⟩) 9 9),(5,v)]
theorem uW(s:Bytes)(i:Int)(h:I)(ah:h.get 17=some fS):cY 0 60 (nL s (.int .i64 i)) h (nL s (.int .i64 i)) (I.ak 60 [(17,fS)]):=by
 have bk:I.rows 60 [(17,fS)]=I.ak 60 [(17,fS)]:= aG;rw [←bk]
 exact cY.drop (K:=60) (l:=[(17,fS)]) (by simp only [List.map_cons,List.map_nil,ah]) (by rfl) (by rfl) (by rfl) (bm.cons trivial (bm.cons (by simp [bH,Go.bh.ff]) (bm.cons trivial bm.nil))) (bm.cons (by
  intro e he;obtain⟨r,_,rfl⟩:=List.mem_map.1 (show e∈ev.map ej.v from he)
  exact(cO.of rfl).ha _) bm.nil)
abbrev De(s:Bytes)(x:Int×Int):a':=[(0,.str s),(2,.int .i32 x.1),(3,.int .i64 x.2)]
def Df(s:Bytes)(i:Nat):Prop:= ∃aH,
 (∃v,eP 0 60 (bw 52 0) (nL s (.int .i64 (i:Nat))) (I.ak 60 [(17,fS)]) (.exit 0) (nL s v) aH∧gY s (ev.drop i)=(65533,1)) ∨
 ∃cj,eP 0 60 (bw 52 0) (nL s (.int .i64 (i:Nat))) (I.ak 60 [(17,fS)]) .ret cj aH∧a'.le (De s (gY s (ev.drop i))) cj
theorem L4(s:Bytes)(hs:s≠[]):∀(t i:Nat),9-i≤t→i≤9→Df s i:=by
 have hlen:0<s.length:=List.length_pos_iff.2 hs
 have fin:∀i,i=9→Df s i:=by intro i ag;obtain⟨e,aA,aa,aR,rfl,rfl⟩:=C8 i 0 s fS 0 0 0 0 0 0 0 0 .undef ⟨0,.nil⟩ (fun e aA aa=>e=.exit 0∧aA=nL s (.int .i64 (i:Nat))) ⟨fun aa=>absurd aa J,fun _=>⟨rfl,rfl⟩⟩;exact⟨_,.inl ⟨_,b8.last a1 aR,by subst ag;rfl⟩⟩
 intro t;induction t with
 |zero=>exact fun i aa ae=>fin i J
 |succ t ih =>
  intro i aa ae;by_cases al:i<9
  ·obtain⟨dY,yJ,Dg⟩:=L3 ⟨i,al⟩;simp only at dY yJ Dg;have sd:ev.drop i=ev[i]'al::ev.drop (i+1):=List.drop_eq_getElem_cons al;have lW:=fun {n:Nat} =>Dc (h:=I.ak n [(17,fS)]) (i:=i)
   have Dh:bp (bq.D env) 120 ⟨17,0,0+Int.toNat (i:Nat),0,6⟩ (I.ak 71 [(17,fS)])=some ((ev[i]'al).v):=Dc rfl al;have Di:=(Dd (h:=I.ak 80 [(17,fS)]) rfl al).1;have Dj:=(Dd (h:=I.ak 90 [(17,fS)]) rfl al).2;generalize ev[i]'al=r at dY yJ Dg sd Dh Di Dj;obtain⟨f1,f2⟩:=L2 s r dY;have aM:=LY r s yJ;have an:=uT s 0;have eY:((i:Int)+1)=((i+1:Nat):Int):= J;have nA:gY s (ev.drop i)=if dX s r=0 then gY s (ev.drop (i+1))else if dX s r<r.n then(65533,(dX s r:Nat))else(iP s (dX s r) 3 1 ((b2 s 0:Nat)- (r.off:Nat)),(dX s r:Nat)):=by rw [sd];rfl
   obtain⟨y,H1,ca,bY,bU⟩:=L0 s (dX s r) f2 J 3 1 ((b2 s 0:Nat)- (r.off:Nat)) J J J (by show-(256:Int)≤_;omega) (by show _≤(256:Int);omega);have gu:=(cQ.ei ca).pre (show cY 0 60 _ (I.ak 91 [(17,fS)]) _ _ from C' _ s _ 1 _)
   have oY:∃e aA aa,bK 0 60 (bw 52 0) (nL s (.int .i64 (i:Nat))) (I.ak 60 [(17,fS)]) e aA aa∧((dX s r=0∧e=.normal∧aA=nL s (.int .i64 ((i:Int)+1))∧aa.get 17=some fS)∨(¬dX s r=0∧e=.ret∧a'.le (De s (gY s (ev.drop i))) aA)):=by
    refine C8 i (dX s r) s fS r.aE r.ag r.n r.cM r.cN r.off (b2 s 0:Nat) _ y H1 _
     ⟨fun _=>⟨⟨J,J⟩,Dh,⟨aM _⟩,fun z=>⟨⟨J,J⟩,.inl ⟨J,rfl,rfl,rfl⟩⟩,
      fun z=>⟨⟨J,J⟩,Di,fun l=> .inr ⟨J,rfl,?_⟩,fun l=>⟨uS (k:=0) hlen,⟨J,J⟩,⟨J,J⟩,Dj,⟨J,J⟩,gu,⟨J,J⟩,.inr ⟨J,rfl,?_⟩⟩⟩⟩,fun h=>absurd J h⟩
    ·rw [nA,if_neg J,if_pos J];exact a'.pK [(0,.str s),(2,.int .i32 65533),(3,.int .i64 (dX s r:Nat)),(4,.slice (some ⟨17,0,0,0,6⟩) 9 9),(5,.int .i64 (i:Nat))] [0,2,3]
    ·rw [nA,if_neg J,if_neg J];exact fun t v h=>h
   obtain⟨e,aA,fX,aR,⟨z,rfl,rfl,ah⟩|⟨z,rfl,hle⟩⟩:=oY
   ·rw [eY]at aR;obtain⟨aH,⟨v,jl,az⟩|⟨cj,jl,az⟩⟩:=ih (i+1) J J
    ·exact⟨aH,.inl ⟨v,b8.round aR (uW s _ _ ah) jl,by rw [nA,if_pos z];exact az⟩⟩
    ·exact⟨aH,.inr ⟨cj,b8.round aR (uW s _ _ ah) jl,by rw [nA,if_pos z];exact az⟩⟩
   ·exact⟨_,.inr ⟨_,b8.last a1 aR,hle⟩⟩
  ·exact fin i J
theorem L5{s:Bytes}(hs:s≠[])(H:I):bE 52 [.str s] H (.tuple [.int .i32 (gY s ev).1,.int .i64 (gY s ev).2]) H:=by
 have hlen:0<s.length:=List.length_pos_iff.2 hs;have ds:¬((s.length:Nat):Int)=0:= J;obtain⟨aH,⟨v,ca,az⟩|⟨cj,ca,az⟩⟩:=L4 s hs 9 0 J J
 ·have gu:=(cQ.ei ca).pre (show cY 0 60 _ (I.ak 20 [(17,fS)]) _ _ from uW s 0 _ rfl);have az:gY s ev=(65533,1):=az;rw [az];exact bn.cL (C9 s aH v (fun v _=>v=.tuple [.int .i32 65533,.int .i64 1]) ⟨fun h=>absurd h ds,fun _=>⟨gu,rfl⟩⟩) rfl rfl H
 ·have gu:=((cQ.ei ca).pre (show cY 0 60 _ (I.ak 20 [(17,fS)]) _ _ from uW s 0 _ rfl)).post (cY.facts az);exact bn.cL (LZ s aH _ _ (fun v _=>v=.tuple [.int .i32 (gY s ev).1,.int .i64 (gY s ev).2]) ⟨fun h=>absurd h ds,fun _=>⟨gu,rfl⟩⟩) rfl rfl H
end Go.Proofs.YtddnafghiejcoaaGreatDoor
namespace Go.Proofs.YtddnafghiejcoaaGreatDoor
open Go.bh Go.Keys Go.Lib
set_option maxRecDepth 1000000
theorem L6{s:Bytes}{r:ej}(h:b2 s 0<r.aE∨r.ag<b2 s 0):dX s r=0:=by unfold dX;rw [if_pos (.inr h)]
theorem L7{s:Bytes}{r:ej}{k:Nat}(h:(k=1∧r.cM≤b2 s k∧b2 s k≤r.cN)∨(k≠1∧128≤b2 s k∧b2 s k≤191)):¬lz s r k=true:=by
 intro q;unfold lz at q;rcases h with ⟨e,h⟩|⟨e,h⟩
 ·rw [show Nat.beq k 1=true by rw [Nat.beq_eq];exact e]at q;simp [Nat.blt_eq]at q;omega
 ·rw [show Nat.beq k 1=false by rw [Bool.eq_false_iff];intro cn;exact e (by rwa [Nat.beq_eq]at cn)]at q;simp [Nat.blt_eq]at q;omega
theorem L8{s:Bytes}{r:ej}{k:Nat}(ay:s.length=r.n)(hm:∀j,k≤j→j<r.n→ ¬lz s r j=true):∀t,r.n-k≤t→k≤r.n→lA s r t k=r.n:=by
 intro t;induction t generalizing k with
 |zero=>intro aa ae;unfold lA;omega
 |succ t ih =>
  intro aa ae;unfold lA;by_cases al:k<r.n
  ·rw [if_pos ⟨al,J⟩,if_neg (hm k (Nat.le_refl _) al)];exact ih (fun j bY bU=>hm j J bU) J J
  ·rw [if_neg (fun q=>al q.1)];omega
theorem L9{s:Bytes}{r:ej}(ay:s.length=r.n)(aa:1≤r.n)(bj:r.n≤4)(an:r.aE≤b2 s 0∧b2 s 0≤r.ag)(hm:∀j,1≤j→j<r.n→(j=1∧r.cM≤b2 s j∧b2 s j≤r.cN)∨(j≠1∧128≤b2 s j∧b2 s j≤191)):dX s r=r.n:=by unfold dX;rw [if_neg J];exact L8 ay (fun j bY bU=>L7 (hm j bY bU)) 4 J aa
theorem iQ{s:Bytes}{r:ej}{l:List ej}(h:b2 s 0<r.aE∨r.ag<b2 s 0):gY s (r::l)=gY s l:=by show(if dX s r=0 then _ else _)=_;rw [if_pos (L6 h)]
theorem uX{s:Bytes}{r:ej}{l:List ej}(ay:s.length=r.n)(aa:1≤r.n)(bj:r.n≤4)(an:r.aE≤b2 s 0∧b2 s 0≤r.ag)(hm:∀j,1≤j→j<r.n→(j=1∧r.cM≤b2 s j∧b2 s j≤r.cN)∨(j≠1∧128≤b2 s j∧b2 s j≤191)):gY s (r::l)=(iP s r.n 3 1 ((b2 s 0:Nat)- (r.off:Nat)),((r.n:Nat):Int)):=by show(if dX s r=0 then _ else if dX s r<r.n then _ else _)=_;rw [L9 ay aa bj an hm,if_neg J,if_neg J]
theorem L'(s:Bytes)(n:Int):iP s 2 3 1 n=n*64+b2 s 1-128:=rfl
theorem Ma(s:Bytes)(n:Int):iP s 3 3 1 n=(n*64+b2 s 1-128)*64+b2 s 2-128:=rfl
theorem Mb(s:Bytes)(n:Int):iP s 4 3 1 n=((n*64+b2 s 1-128)*64+b2 s 2-128)*64+b2 s 3-128:=rfl
theorem lB{n:Nat}(h:n<256):(u8 n).toNat=n:=jj h
theorem Mc{c:Nat}(hs:Scalar c):(gY (put c) ev).1=(c:Nat):=by
 have ly:=hs;unfold Scalar at ly;rcases Nat.lt_or_ge c 128 with h|h
 ·rw [Keys.oO h];have aw:b2 [u8 c] 0=c:=lB J;unfold ev;rw [uX rfl cg cg ⟨by rw [aw];show 0≤c;omega,by rw [aw];show c≤127;omega⟩ (fun j bY bU=>absurd bU (by show ¬j<1;omega)),aw];show((c:Nat):Int)- ((0:Nat):Int)=_;omega
 rcases Nat.lt_or_ge c 2048 with ae|ae
 ·rw [Keys.rO h ae];generalize bF: [u8 (192+c/64),u8 (128+c%64)]=s;have aw:b2 s 0=192+c/64:=by rw [←bF];exact lB J
  have aJ:b2 s 1=128+c%64:=by rw [←bF];exact lB J
  have ay:s.length=2:=by rw [←bF];rfl
  unfold ev
  rw [iQ (.inr (by rw [aw];show 127<_;omega)),uX ay cg cg ⟨by rw [aw];show 194≤_;omega,by rw [aw];show _≤223;omega⟩ (fun j bY bU=>by
   obtain rfl:j=1:=by have:j<2:=bU;omega
   exact .inl ⟨rfl,by rw [aJ];show 128≤_;omega,by rw [aJ];show _≤191;omega⟩)]
  show iP s 2 3 1 ((b2 s 0:Nat)- ((192:Nat):Int))=_;rw [L',aw,aJ];omega
 rcases Nat.lt_or_ge c 65536 with aS|aS
 ·rw [Keys.pX hs ae aS];generalize bF: [u8 (224+c/4096),u8 (128+c/64%64),u8 (128+c%64)]=s;have aw:b2 s 0=224+c/4096:=by rw [←bF];exact lB J
  have aJ:b2 s 1=128+c/64%64:=by rw [←bF];exact lB J
  have bl:b2 s 2=128+c%64:=by rw [←bF];exact lB J
  have ay:s.length=3:=by rw [←bF];rfl
  have fin:∀{r:ej}{l:List ej},r.n=3→r.off=224→r.aE≤224+c/4096→224+c/4096≤r.ag→r.cM≤128+c/64%64→128+c/64%64≤r.cN→(gY s (r::l)).1=(c:Nat):=by
   intro r l i' o bY bU ez ka
   rw [uX (ay.trans i'.symm) J J ⟨by rw [aw];exact bY,by rw [aw];exact bU⟩ (fun j eZ eM=>by
    have:j=1∨j=2:= J;rcases this with rfl|rfl
    ·exact .inl ⟨rfl,by rw [aJ];exact ez,by rw [aJ];exact ka⟩
    ·exact .inr ⟨cg,by rw [bl];omega,by rw [bl];omega⟩)]
   show iP s r.n 3 1 ((b2 s 0:Nat)- (r.off:Nat))=_;rw [i',o,Ma,aw,aJ,bl];omega
  unfold ev;rw [iQ (.inr (by rw [aw];show 127<_;omega)),iQ (.inr (by rw [aw];show 223<_;omega))];by_cases e0:c/4096=0
  ·exact fin rfl rfl (by show 224≤_;omega) (by show _≤224;omega) (by show 160≤_;omega) (by show _≤191;omega)
  rw [iQ (.inr (by rw [aw];show 224<_;omega))];by_cases bk:c/4096≤12
  ·exact fin rfl rfl (by show 225≤_;omega) (by show _≤236;omega) (by show 128≤_;omega) (by show _≤191;omega)
  rw [iQ (.inr (by rw [aw];show 236<_;omega))];by_cases bV:14≤c/4096
  ·exact fin rfl rfl (by show 238≤_;omega) (by show _≤239;omega) (by show 128≤_;omega) (by show _≤191;omega)
  rw [iQ (.inl (by rw [aw];show _<238;omega))];exact fin rfl rfl (by show 237≤_;omega) (by show _≤237;omega) (by show 128≤_;omega) (by show _≤159;omega)
 ·rw [Keys.rP hs aS];generalize bF: [u8 (240+c/262144),u8 (128+c/4096%64),u8 (128+c/64%64),u8 (128+c%64)]=s;have aw:b2 s 0=240+c/262144:=by rw [←bF];exact lB J
  have aJ:b2 s 1=128+c/4096%64:=by rw [←bF];exact lB J
  have bl:b2 s 2=128+c/64%64:=by rw [←bF];exact lB J
  have cZ:b2 s 3=128+c%64:=by rw [←bF];exact lB J
  have ay:s.length=4:=by rw [←bF];rfl
  have fin:∀{r:ej}{l:List ej},r.n=4→r.off=240→r.aE≤240+c/262144→240+c/262144≤r.ag→r.cM≤128+c/4096%64→128+c/4096%64≤r.cN→(gY s (r::l)).1=(c:Nat):=by
   intro r l n9 o bY bU ez ka
   rw [uX (ay.trans n9.symm) J J ⟨by rw [aw];exact bY,by rw [aw];exact bU⟩ (fun j eZ eM=>by
    have:j=1∨j=2∨j=3:= J;rcases this with rfl|rfl|rfl
    ·exact .inl ⟨rfl,by rw [aJ];exact ez,by rw [aJ];exact ka⟩
    ·exact .inr ⟨cg,by rw [bl];omega,by rw [bl];omega⟩
    ·exact .inr ⟨cg,by rw [cZ];omega,by rw [cZ];omega⟩)]
   show iP s r.n 3 1 ((b2 s 0:Nat)- (r.off:Nat))=_;rw [n9,o,Mb,aw,aJ,bl,cZ];omega
  unfold ev;rw [iQ (.inr (by rw [aw];show 127<_;omega)),iQ (.inr (by rw [aw];show 223<_;omega)),iQ (.inr (by rw [aw];show 224<_;omega)),iQ (.inr (by rw [aw];show 236<_;omega)),iQ (.inr (by rw [aw];show 239<_;omega)),iQ (.inr (by rw [aw];show 237<_;omega))];by_cases e0:c/262144=0
  ·exact fin rfl rfl (by show 240≤_;omega) (by show _≤240;omega) (by show 144≤_;omega) (by show _≤191;omega)
  rw [iQ (.inr (by rw [aw];show 240<_;omega))];by_cases bk:c/262144≤3
  ·exact fin rfl rfl (by show 241≤_;omega) (by show _≤243;omega) (by show 128≤_;omega) (by show _≤191;omega)
  rw [iQ (.inr (by rw [aw];show 243<_;omega))];exact fin rfl rfl (by show 244≤_;omega) (by show _≤244;omega) (by show 128≤_;omega) (by show _≤143;omega)
end Go.Proofs.YtddnafghiejcoaaGreatDoor
namespace Go.Proofs.YtddnafghiejcoaaGreatDoor
open Go.bh Go.Keys Go.Lib
set_option maxRecDepth 1000000
abbrev Dk(m:Int):R:=R.agg [.int .i8 0,.int .i32 0,.int .u8 m,.int .i64 0,.int .i64 0,.str []]
abbrev qs(m:Int):I:=(I.ak 35 [(0,cA),(2,(ai.aq ([(Dk m)]) 6 true (some (42,6)))),(5,ai.aq [fQ,gf,fG] 1 true),(7,ai.aq [.int .u8 4,.int .u8 2,.int .u8 1] 1 true)])
theorem Md(m:Int)(s t u r:Bytes)(ad:ch→a'→I→Prop)(aP:(5≤(↑(List.length t):Int)→eg env.D 9 (.str t) none (some (.int .i64 5)) none=some (R.str u)∧(u=[(99:UInt8),(116:UInt8),(114:UInt8),(108:UInt8),(43:UInt8)]→(0≤m+4∧m+4≤255)∧eg env.D 9 (.str t) (some (.int .i64 5)) none none=some (R.str r)∧ad .normal [(0,.str s),(2,.ptr (aC 0)),(4,.ptr (aC 2)),(5,.str r),(6,.slice (bS 5) 3 3),(7,.slice (bS 7) 3 3),(8,.int .i64 1)] (I.ak 48 [(0,cA),(2,(ai.aq ([.agg [.int .i8 0,.int .i32 0,.int .u8 (m+4),.int .i64 0,.int .i64 0,.str []]]) 6 true (some (42,6)))),(5,ai.aq [fQ,gf,fG] 1 true),(7,ai.aq [.int .u8 4,.int .u8 2,.int .u8 1] 1 true)]))∧(¬u=[(99:UInt8),(116:UInt8),(114:UInt8),(108:UInt8),(43:UInt8)]→ad .normal [(0,.str s),(2,.ptr (aC 0)),(4,.ptr (aC 2)),(5,.str t),(6,.slice (bS 5) 3 3),(7,.slice (bS 7) 3 3),(8,.int .i64 1)] (qs m)))∧(¬5≤(↑(List.length t):Int)→ad .normal [(0,.str s),(2,.ptr (aC 0)),(4,.ptr (aC 2)),(5,.str t),(6,.slice (bS 5) 3 3),(7,.slice (bS 7) 3 3),(8,.int .i64 1)] (qs m))) :
 ∃e aA aa,bK 0 109 (bw 24 0) [(0,.str s),(2,.ptr (aC 0)),(4,.ptr (aC 2)),(5,.str t),(6,.slice (bS 5) 3 3),(7,.slice (bS 7) 3 3),(8,.int .i64 0)] (I.ak 10 [(0,bo (aU 0 0 0 0 0 [])),(2,bo (aU 0 0 m 0 0 [])),(5,ai.aq [.str cr,.str cm,.str cE] 1 true),(7,ai.aq [.int .u8 4,.int .u8 2,.int .u8 1] 1 true)]) e aA aa∧ad e aA aa :=
 eB dB mixed cl (hs:= .aO 9003 (.ao (.val 9007 (.str u)) (.aO 9012 (ah 10006 (.ao (.val 11002 (.str r)) .nil)) .nil)) .nil) (keep:=[0,2,4,5,6,7,8]) aG aP
theorem Me(m:Int)(s t u r:Bytes)(ad:ch→a'→I→Prop)(aP:(4≤(↑(List.length t):Int)→eg env.D 9 (.str t) none (some (.int .i64 4)) none=some (R.str u)∧(u=[(97:UInt8),(108:UInt8),(116:UInt8),(43:UInt8)]→(0≤m+2∧m+2≤255)∧eg env.D 9 (.str t) (some (.int .i64 4)) none none=some (R.str r)∧ad .normal [(0,.str s),(2,.ptr (aC 0)),(4,.ptr (aC 2)),(5,.str r),(6,.slice (bS 5) 3 3),(7,.slice (bS 7) 3 3),(8,.int .i64 2)] (I.ak 48 [(0,cA),(2,(ai.aq ([.agg [.int .i8 0,.int .i32 0,.int .u8 (m+2),.int .i64 0,.int .i64 0,.str []]]) 6 true (some (42,6)))),(5,ai.aq [fQ,gf,fG] 1 true),(7,ai.aq [.int .u8 4,.int .u8 2,.int .u8 1] 1 true)]))∧(¬u=[(97:UInt8),(108:UInt8),(116:UInt8),(43:UInt8)]→ad .normal [(0,.str s),(2,.ptr (aC 0)),(4,.ptr (aC 2)),(5,.str t),(6,.slice (bS 5) 3 3),(7,.slice (bS 7) 3 3),(8,.int .i64 2)] (qs m)))∧(¬4≤(↑(List.length t):Int)→ad .normal [(0,.str s),(2,.ptr (aC 0)),(4,.ptr (aC 2)),(5,.str t),(6,.slice (bS 5) 3 3),(7,.slice (bS 7) 3 3),(8,.int .i64 2)] (qs m))) :
 ∃e aA aa,bK 0 109 (bw 24 0) [(0,.str s),(2,.ptr (aC 0)),(4,.ptr (aC 2)),(5,.str t),(6,.slice (bS 5) 3 3),(7,.slice (bS 7) 3 3),(8,.int .i64 1)] (I.ak 10 [(0,bo (aU 0 0 0 0 0 [])),(2,bo (aU 0 0 m 0 0 [])),(5,ai.aq [.str cr,.str cm,.str cE] 1 true),(7,ai.aq [.int .u8 4,.int .u8 2,.int .u8 1] 1 true)]) e aA aa∧ad e aA aa :=
 eB dB mixed cl (hs:= .aO 9003 (.ao (.val 9007 (.str u)) (.aO 9012 (ah 10006 (.ao (.val 11002 (.str r)) .nil)) .nil)) .nil) (keep:=[0,2,4,5,6,7,8]) aG aP
theorem Mf(m:Int)(s t u r:Bytes)(ad:ch→a'→I→Prop)(aP:(6≤(↑(List.length t):Int)→eg env.D 9 (.str t) none (some (.int .i64 6)) none=some (R.str u)∧(u=[(115:UInt8),(104:UInt8),(105:UInt8),(102:UInt8),(116:UInt8),(43:UInt8)]→(0≤m+1∧m+1≤255)∧eg env.D 9 (.str t) (some (.int .i64 6)) none none=some (R.str r)∧ad .normal [(0,.str s),(2,.ptr (aC 0)),(4,.ptr (aC 2)),(5,.str r),(6,.slice (bS 5) 3 3),(7,.slice (bS 7) 3 3),(8,.int .i64 3)] (I.ak 48 [(0,cA),(2,(ai.aq ([.agg [.int .i8 0,.int .i32 0,.int .u8 (m+1),.int .i64 0,.int .i64 0,.str []]]) 6 true (some (42,6)))),(5,ai.aq [fQ,gf,fG] 1 true),(7,ai.aq [.int .u8 4,.int .u8 2,.int .u8 1] 1 true)]))∧(¬u=[(115:UInt8),(104:UInt8),(105:UInt8),(102:UInt8),(116:UInt8),(43:UInt8)]→ad .normal [(0,.str s),(2,.ptr (aC 0)),(4,.ptr (aC 2)),(5,.str t),(6,.slice (bS 5) 3 3),(7,.slice (bS 7) 3 3),(8,.int .i64 3)] (qs m)))∧(¬6≤(↑(List.length t):Int)→ad .normal [(0,.str s),(2,.ptr (aC 0)),(4,.ptr (aC 2)),(5,.str t),(6,.slice (bS 5) 3 3),(7,.slice (bS 7) 3 3),(8,.int .i64 3)] (qs m))) :
 ∃e aA aa,bK 0 109 (bw 24 0) [(0,.str s),(2,.ptr (aC 0)),(4,.ptr (aC 2)),(5,.str t),(6,.slice (bS 5) 3 3),(7,.slice (bS 7) 3 3),(8,.int .i64 2)] (I.ak 10 [(0,bo (aU 0 0 0 0 0 [])),(2,bo (aU 0 0 m 0 0 [])),(5,ai.aq [.str cr,.str cm,.str cE] 1 true),(7,ai.aq [.int .u8 4,.int .u8 2,.int .u8 1] 1 true)]) e aA aa∧ad e aA aa :=
 eB dB mixed cl (hs:= .aO 9003 (.ao (.val 9007 (.str u)) (.aO 9012 (ah 10006 (.ao (.val 11002 (.str r)) .nil)) .nil)) .nil) (keep:=[0,2,4,5,6,7,8]) aG aP
theorem Mg(m:Int)(s t u r:Bytes)(ad:ch→a'→I→Prop)(aP:ad (.exit 0) [(0,.str s),(2,.ptr (aC 0)),(4,.ptr (aC 2)),(5,.str t),(6,.slice (bS 5) 3 3),(7,.slice (bS 7) 3 3),(8,.int .i64 3)] (I.ak 12 [(0,cA),(2,(ai.aq ([(Dk m)]) 6 true (some (42,6)))),(5,ai.aq [fQ,gf,fG] 1 true),(7,ai.aq [.int .u8 4,.int .u8 2,.int .u8 1] 1 true)])) :
 ∃e aA aa,bK 0 109 (bw 24 0) [(0,.str s),(2,.ptr (aC 0)),(4,.ptr (aC 2)),(5,.str t),(6,.slice (bS 5) 3 3),(7,.slice (bS 7) 3 3),(8,.int .i64 3)] (I.ak 10 [(0,bo (aU 0 0 0 0 0 [])),(2,bo (aU 0 0 m 0 0 [])),(5,ai.aq [.str cr,.str cm,.str cE] 1 true),(7,ai.aq [.int .u8 4,.int .u8 2,.int .u8 1] 1 true)]) e aA aa∧ad e aA aa :=
 eB dB mixed cl (hs:= .nil) (keep:=[0,2,4,5,6,7,8]) aG aP
theorem Dl(H H1 H2:I)(B k y:Nat)(m:Int)(s t:Bytes)(c8 w:R)(ad:ch→a'→I→Prop)(aP:aV B (H.U) (((k:Int)<33→aV B (H.U+2) ((-2147483648≤(k:Int)∧(k:Int)≤2147483647)∧bp env.D 5 ⟨2,0,0,2,6⟩ (I.mk (H.U+11) (H.2))=some (.int .u8 m)∧bb env cz (H.U+8) (aY [(63,.agg [.int .i8 2,.int .i32 (k:Int),.int .u8 m,.int .i64 0,.int .i64 0,.str []]),(62,.int .u8 m),(61,.ptr (some ⟨2,0,0,2,6⟩)),(60,.int .i32 (k:Int)),(59,.int .i64 (k:Int)),(58,c8),(55,.bool true),(54,.int .i64 (k:Int)),(0,.str s),(2,.ptr (aC 0)),(4,.ptr (aC 2)),(5,.str t),(10,c8),(11,.int .i64 (k:Int))]) (I.mk (H.U+11) (H.2)) (Op.buildSlice 56 1 {toList:=[(0,Operand.tmp 63)]})=some (R.slice (aC y) 1 1,H1)∧e5 env Builtin.append {toList:=[56,56]} [c8,.slice (aC y) 1 1] (H.U+9) H1=some (w,H2)∧aV B (H2.U) ((-9223372036854775808≤(k:Int)+1∧(k:Int)+1≤9223372036854775807)∧ad .normal [(0,.str s),(2,.ptr (aC 0)),(4,.ptr (aC 2)),(5,.str t),(10,w),(11,.int .i64 ((k:Int)+1))] (I.mk (H2.U+3) (I.aB H2)))))∧(¬(k:Int)<33→ad (.exit 2) [(0,.str s),(2,.ptr (aC 0)),(4,.ptr (aC 2)),(5,.str t),(10,c8),(11,.int .i64 (k:Int))] (I.mk (H.U+2) (I.aB H))))) :
 ∃e aA aa,bK B 109 (bw 24 1) [(0,.str s),(2,.ptr (aC 0)),(4,.ptr (aC 2)),(5,.str t),(10,c8),(11,.int .i64 (k:Nat))] H e aA aa∧ad e aA aa :=
 eB dB mixed cl (hs:= .aO 14001 (ah 16002 (.ao (.val 16004 (.int .u8 m)) (.ao (.act 16006 (.slice (aC y) 1 1) fun x=>H1) (.ao (.act 16007 w fun x=>H2) (ah 15001 .nil))))) .nil) (keep:=[0,2,4,5,10,11]) aG aP
abbrev mq(o dc n:Nat):R:=R.slice (some ⟨o,dc,0,0,6⟩) n n
theorem Mh(H H1:I)(B i o dc n:Nat)(k c m:Int)(s u:Bytes)(ad:ch→a'→I→Prop)(aP:aV B (H.U) (((i:Int)<(n:Int)→aV B (H.U+4) ((0≤(i:Int)∧(i:Int)<(n:Int))∧bp env.D 42 ⟨o,dc,0+Int.toNat (i:Int),0,6⟩ (I.mk (H.U+14) (H.2))=some ((kt k c m))∧bu 22 [(kt k c m)] (I.mk (H.U+14) (H.2)) (.tuple [.str u,.bool true]) (I.mk (H.U+14) (H.2))∧aV B (H.U+14) ((u=s→aV B (H.U+20) ((0≤(i:Int)∧(i:Int)<(n:Int))∧bp env.D 42 ⟨o,dc,0+Int.toNat (i:Int),0,6⟩ (I.mk (H.U+26) (H.2))=some ((kt k c m))∧bb env cz (H.U+24) (aY [(107,(kt k c m)),(106,.ptr (some ⟨o,dc,0+Int.toNat (i:Int),0,6⟩)),(105,.int .i64 (i:Int)),(104,(mq o dc n)),(103,.bool true),(102,.bool true),(101,.str s),(100,.str u),(99,.bool true),(98,.bool true),(16,.bool true),(15,.str u),(97,.bool true),(96,.str u),(90,.tuple [.str u,.bool true]),(95,.tuple [.str u,.bool true]),(94,(kt k c m)),(93,.ptr (some ⟨o,dc,0+Int.toNat (i:Int),0,6⟩)),(92,.int .i64 (i:Int)),(91,(mq o dc n)),(87,.bool true),(86,.int .i64 (n:Int)),(85,(mq o dc n)),(84,.int .i64 (i:Int)),(0,.str s),(2,.ptr (aC 0)),(10,(mq o dc n)),(14,.int .i64 (i:Int))]) (I.mk (H.U+26) (H.2)) (Op.store 42 (Operand.tmp 2) (Operand.tmp 107))=some (R.tuple [],H1)∧ad .ret [(0,.str s),(2,.ptr (aC 0)),(3,.bool true),(10,(mq o dc n)),(14,.int .i64 (i:Int))] H1))∧(¬u=s→aV B (H.U+20) ((-9223372036854775808≤(i:Int)+1∧(i:Int)+1≤9223372036854775807)∧ad .normal [(0,.str s),(2,.ptr (aC 0)),(10,(mq o dc n)),(14,.int .i64 ((i:Int)+1))] (I.mk (H.U+20+3) (I.aB (I.mk (H.U+14+6) (I.aB (I.mk (H.U+4+10) (I.aB (I.mk (H.U+4) (I.aB H)))))))))))))∧(¬(i:Int)<(n:Int)→ad (.exit 4) [(0,.str s),(2,.ptr (aC 0)),(10,(mq o dc n)),(14,.int .i64 (i:Int))] (I.mk (H.U+4) (I.aB H))))) :
 ∃e aA aa,bK B 109 (bw 24 2) [(0,.str s),(2,.ptr (aC 0)),(10,.slice (some ⟨o,dc,0,0,6⟩) n n),(14,.int .i64 (i:Nat))] H e aA aa∧ad e aA aa :=
 eB dB mixed cl (hs:= .aO 20003 (ah 22002 (.ao (.val 22003 (aU k c m 0 0 [])) (.ao (.val 22004 (.tuple [.str u,.bool true])) (.aO 23004 (ah 24002 (.ao (.val 24003 (aU k c m 0 0 [])) (.ao (.act 24004 (.tuple []) fun x=>H1) .nil))) (ah 21001 .nil))))) .nil) (keep:=[0,2,3,10,14]) aG aP
theorem Dm(H:I)(B i o dc n:Nat)(k c m:Int)(s u:Bytes)(ad:ch→a'→I→Prop)(aP:aV B (H.U) (((i:Int)<(n:Int)→aV B (H.U+4) ((0≤(i:Int)∧(i:Int)<(n:Int))∧bp env.D 42 ⟨o,dc,0+Int.toNat (i:Int),0,6⟩ (I.mk (H.U+14) (H.2))=some ((kt k c m))∧bu 22 [(kt k c m)] (I.mk (H.U+14) (H.2)) (.tuple [.str u,.bool false]) (I.mk (H.U+14) (H.2))∧aV B (H.U+14) (aV B (H.U+20) ((-9223372036854775808≤(i:Int)+1∧(i:Int)+1≤9223372036854775807)∧ad .normal [(0,.str s),(2,.ptr (aC 0)),(10,(mq o dc n)),(14,.int .i64 ((i:Int)+1))] (I.mk (H.U+20+3) (I.aB (I.mk (H.U+14+6) (I.aB (I.mk (H.U+4+10) (I.aB (I.mk (H.U+4) (I.aB H))))))))))))∧(¬(i:Int)<(n:Int)→ad (.exit 4) [(0,.str s),(2,.ptr (aC 0)),(10,(mq o dc n)),(14,.int .i64 (i:Int))] (I.mk (H.U+4) (I.aB H))))) :
 ∃e aA aa,bK B 109 (bw 24 2) [(0,.str s),(2,.ptr (aC 0)),(10,.slice (some ⟨o,dc,0,0,6⟩) n n),(14,.int .i64 (i:Nat))] H e aA aa∧ad e aA aa :=
 eB dB mixed cl (hs:= .aO 20003 (ah 22002 (.ao (.val 22003 (aU k c m 0 0 [])) (.ao (.val 22004 (.tuple [.str u,.bool false])) (ah 21001 .nil)))) .nil) (keep:=[0,2,3,10,14]) aG aP
abbrev nM(r n:Int):R:=R.tuple [.int .i32 r,.int .i64 n]
theorem Mi(s t:Bytes)(H1 H2 bd cd:I)(y:Nat)(m r n:Int)(x z c8 w:R)(ad:bT)(aP:bK 0 109 (Code.loop (bw 24 0)) [(0,.str s),(2,.ptr (aC 0)),(4,.ptr (aC 2)),(5,.str s),(6,.slice (bS 5) 3 3),(7,.slice (bS 7) 3 3),(8,.int .i64 0)] (I.ak 10 [(0,ai.aq [jP] 6 true (some (42,6))),(2,ai.aq [jP] 6 true (some (42,6))),(5,ai.aq [fQ,gf,fG] 1 true),(7,ai.aq [.int .u8 4,.int .u8 2,.int .u8 1] 1 true)]) (.exit 0) [(0,.str s),(2,.ptr (aC 0)),(4,.ptr (aC 2)),(5,.str t),(8,x)] H1∧bK 0 109 (Code.loop (bw 24 1)) [(0,.str s),(2,.ptr (aC 0)),(4,.ptr (aC 2)),(5,.str t),(10,.slice none 0 0),(11,.int .i64 1)] (I.mk (H1.U+1+1) (I.aB (I.mk (H1.U+1) (I.aB H1)))) (.exit 2) [(0,.str s),(2,.ptr (aC 0)),(4,.ptr (aC 2)),(5,.str t),(10,c8),(11,z)] H2∧bu 52 [.str t] (I.mk (H2.U+7) (H2.2)) ((nM r n)) (I.mk (H2.U+7) (H2.2))∧bp env.D 5 ⟨2,0,0,2,6⟩ (I.mk (H2.U+21) (H2.2))=some (.int .u8 m)∧bp env.D 5 ⟨2,0,0,2,6⟩ (I.mk (H2.U+21) (H2.2))=some (.int .u8 m)∧bp env.D 5 ⟨2,0,0,2,6⟩ (I.mk (H2.U+21) (H2.2))=some (.int .u8 m)∧bb env cz (H2.U+18) (aY [(81,.agg [.int .i8 1,.int .i32 r,.int .u8 m,.int .i64 0,.int .i64 0,.str []]),(80,.int .u8 m),(79,.ptr (some ⟨2,0,0,2,6⟩)),(78,.int .i32 r),(77,(oU m)),(76,.int .u8 m),(75,.ptr (some ⟨2,0,0,2,6⟩)),(74,(oT m)),(73,.int .u8 m),(72,.ptr (some ⟨2,0,0,2,6⟩)),(71,c8),(13,.int .i64 n),(12,.int .i32 r),(70,.int .i64 n),(69,.int .i32 r),(66,(nM r n)),(68,(nM r n)),(67,.str t),(0,.str s),(2,.ptr (aC 0)),(4,.ptr (aC 2)),(5,.str t),(10,c8),(11,z)]) (I.mk (H2.U+21) (H2.2)) (Op.buildSlice 56 3 {toList:=[(0,Operand.tmp 74),(1,Operand.tmp 77),(2,Operand.tmp 81)]})=some (R.slice (aC y) 3 3,bd)∧e5 env Builtin.append {toList:=[56,56]} [c8,.slice (aC y) 3 3] (H2.U+19) bd=some (w,cd)∧bK 0 109 (Code.loop (bw 24 2)) [(0,.str s),(2,.ptr (aC 0)),(10,w),(14,.int .i64 0)] (I.mk (cd.U+1) (I.aB cd)) (.exit 4) [(2,.ptr (aC 0))] (I.ak 300 [(0,bo (aU 0 0 0 0 0 []))])∧ad (.tuple [jP,.bool false]) (I.ak 303 [(0,cA)])) :
 bW 24 [.str s] (⟨0,.nil⟩) ad :=
 bZ cl (.ao (.keep [0,2,4,5,6,7,8]) (.ao (.loop [(0,.str s),(2,.ptr (aC 0)),(4,.ptr (aC 2)),(5,.str t),(8,x)] H1 (.exit 0)) (.ao (.keep [0,2,4,5,10,11]) (.ao (.loop [(0,.str s),(2,.ptr (aC 0)),(4,.ptr (aC 2)),(5,.str t),(10,c8),(11,z)] H2 (.exit 2)) (.ao (.val 17001 ((nM r n))) (.ao (.val 18002 (.int .u8 m)) (.ao (.val 18005 (.int .u8 m)) (.ao (.val 18009 (.int .u8 m)) (.ao (.act 18011 (.slice (aC y) 3 3) fun x=>bd) (.ao (.act 18012 w fun x=>cd) (.ao (.keep [0,2,10,14]) (.ao (.loop [(2,.ptr (aC 0))] (I.ak 300 [(0,bo (aU 0 0 0 0 0 []))]) (.exit 4)) .nil)))))))))))) aP
abbrev Dn(m k c:Int):R:=R.agg [.int .i8 k,.int .i32 c,.int .u8 m,.int .i64 0,.int .i64 0,.str []]
theorem Mj(s t:Bytes)(H1 H2 bd cd:I)(y:Nat)(m r n k c:Int)(x z c8 w:R)(ad:bT)(aP:bK 0 109 (Code.loop (bw 24 0)) [(0,.str s),(2,.ptr (aC 0)),(4,.ptr (aC 2)),(5,.str s),(6,.slice (bS 5) 3 3),(7,.slice (bS 7) 3 3),(8,.int .i64 0)] (I.ak 10 [(0,ai.aq [jP] 6 true (some (42,6))),(2,ai.aq [jP] 6 true (some (42,6))),(5,ai.aq [fQ,gf,fG] 1 true),(7,ai.aq [.int .u8 4,.int .u8 2,.int .u8 1] 1 true)]) (.exit 0) [(0,.str s),(2,.ptr (aC 0)),(4,.ptr (aC 2)),(5,.str t),(8,x)] H1∧bK 0 109 (Code.loop (bw 24 1)) [(0,.str s),(2,.ptr (aC 0)),(4,.ptr (aC 2)),(5,.str t),(10,.slice none 0 0),(11,.int .i64 1)] (I.mk (H1.U+1+1) (I.aB (I.mk (H1.U+1) (I.aB H1)))) (.exit 2) [(0,.str s),(2,.ptr (aC 0)),(4,.ptr (aC 2)),(5,.str t),(10,c8),(11,z)] H2∧bu 52 [.str t] (I.mk (H2.U+7) (H2.2)) ((nM r n)) (I.mk (H2.U+7) (H2.2))∧bp env.D 5 ⟨2,0,0,2,6⟩ (I.mk (H2.U+21) (H2.2))=some (.int .u8 m)∧bp env.D 5 ⟨2,0,0,2,6⟩ (I.mk (H2.U+21) (H2.2))=some (.int .u8 m)∧bp env.D 5 ⟨2,0,0,2,6⟩ (I.mk (H2.U+21) (H2.2))=some (.int .u8 m)∧bb env cz (H2.U+18) (aY [(81,.agg [.int .i8 1,.int .i32 r,.int .u8 m,.int .i64 0,.int .i64 0,.str []]),(80,.int .u8 m),(79,.ptr (some ⟨2,0,0,2,6⟩)),(78,.int .i32 r),(77,(oU m)),(76,.int .u8 m),(75,.ptr (some ⟨2,0,0,2,6⟩)),(74,(oT m)),(73,.int .u8 m),(72,.ptr (some ⟨2,0,0,2,6⟩)),(71,c8),(13,.int .i64 n),(12,.int .i32 r),(70,.int .i64 n),(69,.int .i32 r),(66,(nM r n)),(68,(nM r n)),(67,.str t),(0,.str s),(2,.ptr (aC 0)),(4,.ptr (aC 2)),(5,.str t),(10,c8),(11,z)]) (I.mk (H2.U+21) (H2.2)) (Op.buildSlice 56 3 {toList:=[(0,Operand.tmp 74),(1,Operand.tmp 77),(2,Operand.tmp 81)]})=some (R.slice (aC y) 3 3,bd)∧e5 env Builtin.append {toList:=[56,56]} [c8,.slice (aC y) 3 3] (H2.U+19) bd=some (w,cd)∧bK 0 109 (Code.loop (bw 24 2)) [(0,.str s),(2,.ptr (aC 0)),(10,w),(14,.int .i64 0)] (I.mk (cd.U+1) (I.aB cd)) .ret [(2,.ptr (aC 0)),(3,.bool true)] (I.ak 300 [(0,bo (aU k c m 0 0 []))])∧ad (.tuple [(Dn m k c),.bool true]) (I.ak 300 [(0,(ai.aq ([(Dn m k c)]) 6 true (some (42,6))))])) :
 bW 24 [.str s] (⟨0,.nil⟩) ad :=
 bZ cl (.ao (.keep [0,2,4,5,6,7,8]) (.ao (.loop [(0,.str s),(2,.ptr (aC 0)),(4,.ptr (aC 2)),(5,.str t),(8,x)] H1 (.exit 0)) (.ao (.keep [0,2,4,5,10,11]) (.ao (.loop [(0,.str s),(2,.ptr (aC 0)),(4,.ptr (aC 2)),(5,.str t),(10,c8),(11,z)] H2 (.exit 2)) (.ao (.val 17001 ((nM r n))) (.ao (.val 18002 (.int .u8 m)) (.ao (.val 18005 (.int .u8 m)) (.ao (.val 18009 (.int .u8 m)) (.ao (.act 18011 (.slice (aC y) 3 3) fun x=>bd) (.ao (.act 18012 w fun x=>cd) (.ao (.keep [0,2,10,14]) (.ao (.loop [(2,.ptr (aC 0)),(3,.bool true)] (I.ak 300 [(0,bo (aU k c m 0 0 []))]) .ret) .nil)))))))))))) aP
end Go.Proofs.YtddnafghiejcoaaGreatDoor
namespace Go.Proofs.YtddnafghiejcoaaGreatDoor
open Go.bh Go.Keys
set_option maxRecDepth 1000000
theorem Mk{h:I}{x:Nat}{k c m y z dS dm eF eJ dF:Int}{t dw:Bytes}(e:h.get x=some (bo (aU k c m y z t))):ii (bq.D env) 42 ⟨x,0,0,0,6⟩ (aU dS dm eF eJ dF dw) h=some (h.set x (bo (aU dS dm eF eJ dF dw))):=by have bt:(bq.D env 42).map (fun d=>(d.kind.isAgg,d.size))=some (true,6):= aG;obtain⟨x,aa,ae⟩:=Option.map_eq_some_iff.1 bt;simp only [Prod.mk.injEq]at ae;unfold ii;rw [aa,e];simp [R.fits,ae.1,ae.2,ai.aq,o6,R.cells,gx];exact⟨rfl,rfl,rfl,rfl,rfl,rfl⟩
theorem Ml{F:a'}{nid a:Nat}{H:I}{k c m x y:Int}{t:Bytes}(aD:aY F (.tmp a)=aU k c m x y t):bb env cz nid (aY F) H (Op.buildSlice 56 1 {toList:=[(0,Operand.tmp a)]})=some (.slice (some ⟨nid,0,0,0,6⟩) 1 1,H.set nid (ai.aq [aU k c m x y t] 6 true)):=by
 have eX:∀(K:I)(y:Nat)(k c m x z:Int)(t:Bytes),ij (bq.D env) 56 1 [(0,aU k c m x z t)] y K=some (.slice (some ⟨y,0,0,0,6⟩) 1 1,K.set y (ai.aq [aU k c m x z t] 6 true)):=by intro K y k c m x z t;kernel_rfl
 show ij (bq.D env) 56 1 [(0,aY F (.tmp a))] _ _=_;rw [aD];exact eX _ _ _ _ _ _ _ _
end Go.Proofs.YtddnafghiejcoaaGreatDoor
namespace Go.Proofs.YtddnafghiejcoaaGreatDoor
open Go.bh Go.Keys Go.Lib
set_option maxRecDepth 1000000
theorem Dp{t:Bytes}{n:Nat}(h:n≤t.length):eg (bq.D env) 9 (.str t) none (some (.int .i64 (n:Nat))) none=some (.str (t.take n))∧eg (bq.D env) 9 (.str t) (some (.int .i64 (n:Nat))) none none=some (.str (t.drop n)):=by
 have bt:(bq.D env 9).map (fun d=>d.kind)=some .string:= aG;obtain⟨x,aa,ae⟩:=Option.map_eq_some_iff.1 bt;unfold eg;rw [aa];simp only [ae];constructor
 ·simp [eD,h]
 ·simp [eD,h]
abbrev fj(m:Nat):List (Nat×ai):=[(0,bo (aU 0 0 0 0 0 [])),(2,bo (aU 0 0 m 0 0 [])),(5,ai.aq [.str cr,.str cm,.str cE] 1 true),(7,ai.aq [.int .u8 4,.int .u8 2,.int .u8 1] 1 true)]
abbrev fT(s t:Bytes)(i:Int):a':=[(0,.str s),(2,.ptr (some ⟨0,0,0,0,6⟩)),(4,.ptr (some ⟨2,0,0,0,6⟩)),(5,.str t),(6,.slice (some ⟨5,0,0,0,1⟩) 3 3),(7,.slice (some ⟨7,0,0,0,1⟩) 3 3),(8,.int .i64 i)]
theorem yK(s t:Bytes)(m K:Nat)(i:Int):cY 0 109 (fT s t i) (I.ak K (fj m)) (fT s t i) (I.ak 10 (fj m)):=by
 have bk:I.rows 10 (fj m)=I.ak 10 (fj m):= aG;rw [←bk]
 exact cY.drop (K:=10) (l:=fj m) aG (by rfl) (by rfl) (by rfl) (bm.cons trivial (bm.cons (by simp [bH,Go.bh.ff]) (bm.cons (by simp [bH,Go.bh.ff]) (bm.cons trivial (bm.cons (by simp [bH,Go.bh.ff]) (bm.cons (by simp [bH,Go.bh.ff]) (bm.cons trivial bm.nil)))))))
  (bm.cons (mo _ _ _ _) (bm.cons (mo _ _ _ _) (bm.cons (by
   intro e he;simp only [ai.aq,List.mem_cons,List.not_mem_nil,or_false]at he
   rcases he with rfl|rfl|rfl<;>exact(cO.str _).ha _) (bm.cons (by
   intro e he;simp only [ai.aq,List.mem_cons,List.not_mem_nil,or_false]at he
   rcases he with rfl|rfl|rfl<;>exact(cO.int _ _).ha _) bm.nil))))
theorem yL {s t:Bytes}{m b i:Nat}{w:Bytes}(h:∀(u r:Bytes)(ad:ch→a'→I→Prop),
 (((w.length:Nat):Int)≤(t.length:Nat)→eg (bq.D env) 9 (.str t) none (some (.int .i64 (w.length:Nat))) none=some (.str u)∧(u=w→(0≤((m:Nat):Int)+(b:Nat)∧((m:Nat):Int)+(b:Nat)≤255)∧eg (bq.D env) 9 (.str t) (some (.int .i64 (w.length:Nat))) none none=some (.str r)∧∀K,ad .normal (fT s r ((i:Int)+1)) (I.ak K (fj (m+b))))∧(¬u=w→ ∀K,ad .normal (fT s t ((i:Int)+1)) (I.ak K (fj m)))) ∧
 (¬((w.length:Nat):Int)≤(t.length:Nat)→ ∀K,ad .normal (fT s t ((i:Int)+1)) (I.ak K (fj m))) →
 ∃e aA aa,bK 0 109 (bw 24 0) (fT s t i) (I.ak 10 (fj m)) e aA aa∧ad e aA aa) (an:m+b≤255) :
 ∃K,bK 0 109 (bw 24 0) (fT s t i) (I.ak 10 (fj m)) .normal (fT s (cV w t) ((i:Int)+1)) (I.ak K (fj (m+if w.isPrefixOf t then b else 0))):=by
 have eZ:t.take w.length=w→w.isPrefixOf t=true:=pre_true;have eM:¬t.take w.length=w→w.isPrefixOf t=false:=pY;have gP:¬w.length≤t.length→w.isPrefixOf t=false:=fun ay=>pY (take_len ay)
 have cH:=h (t.take w.length) (t.drop w.length) (fun e aA aa=>e=.normal∧aA=fT s (cV w t) ((i:Int)+1)∧∃K,aa=I.ak K (fj (m+if w.isPrefixOf t then b else 0)))
  ⟨fun ay=>⟨(Dp J).1,fun e=>⟨⟨J,J⟩,(Dp J).2,fun K=>⟨rfl,by unfold cV;rw [if_pos (eZ e)],K,by rw [if_pos (eZ e)]⟩⟩,fun e K=>⟨rfl,by unfold cV;rw [eM e,if_neg cg],K,by rw [eM e];rfl⟩⟩,
   fun ay K=>⟨rfl,by unfold cV;rw [gP J,if_neg cg],K,by rw [gP J];rfl⟩⟩
 obtain⟨e,aA,aa,aR,rfl,rfl,K,rfl⟩:=cH;exact⟨K,aR⟩
theorem Mm(s:Bytes):∃K,10≤K∧eP 0 109 (bw 24 0) (fT s s 0) (I.ak 10 (fj 0)) (.exit 0) (fT s (bG s) 3) (I.ak K (fj (b9 s))):=by
 have jB:∀(m:Nat)(t:Bytes),m+4≤255→ ∃K,bK 0 109 (bw 24 0) (fT s t (0:Nat)) (I.ak 10 (fj m)) .normal (fT s (cV cr t) ((0:Nat)+1)) (I.ak K (fj (m+if cr.isPrefixOf t then 4 else 0))):=fun m t hm=>yL (w:=cr) (b:=4) (i:=0) (fun u r ad bx=>Md (m:Nat) s t u r ad ⟨fun ay=>⟨(bx.1 ay).1,fun e=>⟨((bx.1 ay).2.1 e).1,((bx.1 ay).2.1 e).2.1,((bx.1 ay).2.1 e).2.2 _⟩,fun e=>(bx.1 ay).2.2 e _⟩,fun ay=>bx.2 ay _⟩) hm
 have s1:∀(m:Nat)(t:Bytes),m+2≤255→ ∃K,bK 0 109 (bw 24 0) (fT s t (1:Nat)) (I.ak 10 (fj m)) .normal (fT s (cV cm t) ((1:Nat)+1)) (I.ak K (fj (m+if cm.isPrefixOf t then 2 else 0))):=fun m t hm=>yL (w:=cm) (b:=2) (i:=1) (fun u r ad bx=>Me (m:Nat) s t u r ad ⟨fun ay=>⟨(bx.1 ay).1,fun e=>⟨((bx.1 ay).2.1 e).1,((bx.1 ay).2.1 e).2.1,((bx.1 ay).2.1 e).2.2 _⟩,fun e=>(bx.1 ay).2.2 e _⟩,fun ay=>bx.2 ay _⟩) hm
 have s2:∀(m:Nat)(t:Bytes),m+1≤255→ ∃K,bK 0 109 (bw 24 0) (fT s t (2:Nat)) (I.ak 10 (fj m)) .normal (fT s (cV cE t) ((2:Nat)+1)) (I.ak K (fj (m+if cE.isPrefixOf t then 1 else 0))):=fun m t hm=>yL (w:=cE) (b:=1) (i:=2) (fun u r ad bx=>Mf (m:Nat) s t u r ad ⟨fun ay=>⟨(bx.1 ay).1,fun e=>⟨((bx.1 ay).2.1 e).1,((bx.1 ay).2.1 e).2.1,((bx.1 ay).2.1 e).2.2 _⟩,fun e=>(bx.1 ay).2.2 e _⟩,fun ay=>bx.2 ay _⟩) hm
 have fin:∀(m:Nat)(t:Bytes),∃K,10≤K∧bK 0 109 (bw 24 0) (fT s t 3) (I.ak 10 (fj m)) (.exit 0) (fT s t 3) (I.ak K (fj m)):=by intro m t;obtain⟨e,aA,aa,aR,rfl,rfl,rfl⟩:=Mg (m:Nat) s t [] [] (fun e aA aa=>e=.exit 0∧aA=fT s t 3∧aa=I.ak 12 (fj m)) ⟨rfl,rfl,rfl⟩;exact⟨12,J,aR⟩
 obtain⟨ad,gh⟩:=jB 0 s J;have Cv:(if cr.isPrefixOf s then 4 else 0)≤4:=by split<;>omega
 obtain⟨uv,dY⟩:=s1 (0+if cr.isPrefixOf s then 4 else 0) (e9 s) J;have NM:(if cm.isPrefixOf (e9 s)then 2 else 0)≤2:=by split<;>omega
 obtain⟨nw,eH⟩:=s2 ((0+if cr.isPrefixOf s then 4 else 0)+if cm.isPrefixOf (e9 s)then 2 else 0) (ib s) J;obtain⟨Mn,Mo,nv⟩:=fin (((0+if cr.isPrefixOf s then 4 else 0)+if cm.isPrefixOf (e9 s)then 2 else 0)+if cE.isPrefixOf (ib s)then 1 else 0) (bG s);have em:((0+if cr.isPrefixOf s then 4 else 0)+if cm.isPrefixOf (e9 s)then 2 else 0)+(if cE.isPrefixOf (ib s)then 1 else 0)=b9 s:=by unfold b9;omega
 rw [em]at nv eH;exact⟨Mn,Mo,b8.round gh (yK _ _ _ _ _) (b8.round dY (yK _ _ _ _ _) (b8.round eH (yK _ _ _ _ _) (b8.last a1 nv)))⟩
end Go.Proofs.YtddnafghiejcoaaGreatDoor
namespace Go.Proofs.YtddnafghiejcoaaGreatDoor
open Go.bh Go.Keys Go.Lib
set_option maxRecDepth 1000000
def kx(m n:Nat):List b1:=(List.range n).map fun j=>⟨2,((j+1:Nat):Int),m,0,0,[]⟩
theorem Mp(m n:Nat):kx m (n+1)=kx m n++[⟨2,((n+1:Nat):Int),m,0,0,[]⟩]:=by unfold kx;rw [List.range_succ,List.map_append];rfl
theorem yM(m n:Nat):(kx m n).length=n:=by unfold kx;simp
structure ky(H:I)(cD:Nat→Nat)(m:Nat)(c8:R)(es:List b1):Prop where
 gh:H.get 0=some (bo (aU 0 0 0 0 0 []))
 eH:H.get 2=some (bo (aU 0 0 m 0 0 []))
 lt:2<H.U
 c0:cD 0=0
 c2:cD 2=0
 nQ:kf H cD 10 6 rQ c8 (es.map cc)
theorem ky.ji{H aH:I}{cD hM:Nat→Nat}{m:Nat}{c8:R}{es:List b1}{L:List Nat}(h:ky H cD m c8 es)(ji:hk H aH cD hM L)(a6:0 ∉ L)(kK:10 ∉ L):ky aH hM m c8 es where
 gh:=by rw [ji.get 0 (by have:=h.lt;omega) (by rw [h.c0];exact a6)];exact h.gh
 eH:=by rw [ji.get 2 h.lt (by rw [h.c2];exact a6)];exact h.eH
 lt:=by have:=ji.U;have:=h.lt;omega
 c0:=by rw [ji.cD 0 (by have:=h.lt;omega) (by rw [h.c0];exact a6)];exact h.c0
 c2:=by rw [ji.cD 2 h.lt (by rw [h.c2];exact a6)];exact h.c2
 nQ:=h.nQ.ji ji kK
theorem ky.put{H:I}{cD:Nat→Nat}{m:Nat}{c8:R}{es new:List b1}(h:ky H cD m c8 es)(aI:new≠[])(ay:es.length+new.length<1000)(a b:Nat)(ms:a<b):∃w H2 Mq,
 e5 env Builtin.append {toList:=[56,56]} [c8,.slice (some ⟨H.U+a,0,0,0,6⟩) new.length new.length] (H.U+a+1) ((⟨H.U+b+1,H.aB⟩:I).set (H.U+a) (ai.aq (new.map cc) 6 true))=some (w,H2)∧ky H2 Mq m w (es++new)∧H2.U=H.U+b+1:=by
 have gT:((⟨H.U+b+1,H.aB⟩:I).set (H.U+a) (ai.aq (new.map cc) 6 true)).U=H.U+b+1:=rfl;have me:((⟨H.U+b+1,H.aB⟩:I).set (H.U+a) (ai.aq (new.map cc) 6 true)).get (H.U+a)=some (ai.aq (new.map cc) 6 true):=I.eU _ _ _;have gU:∀x,x<H.U→((⟨H.U+b+1,H.aB⟩:I).set (H.U+a) (ai.aq (new.map cc) 6 true)).get x=H.get x:=fun x ac=>I.dZ _ _ J
 generalize (⟨H.U+b+1,H.aB⟩:I).set (H.U+a) (ai.aq (new.map cc) 6 true)=bd at gT me gU;have m3:=hk.aq (K:=H) (eR:=bd) J gU cD 8;have g3:=h.ji m3 a1 a1
 have eh:en 6 (.slice (some ⟨H.U+a,0,0,0,6⟩) new.length new.length) bd=some (new.map cc):=by simp only [en,if_true,me];rw [if_neg (fun q=>aI (List.length_eq_zero_iff.1 q)),if_pos ⟨by simp [ai.bL,ai.aq],by simp [ai.aq]⟩];simp [ai.aq];exact List.take_of_length_le a1
 obtain⟨w,H2,c2,dn,eE,m2,bV⟩:=g3.nQ.fc (nid:=H.U+a+1) Iz J (by show(if H.U+a+1<H.U then _ else 8)=8;rw [if_neg J]) eh (by simp only [List.length_map];omega) (by simp only [List.length_map];omega);rw [←List.map_append]at eE
 exact⟨w,H2,c2,dn,{
  gh:=by rw [m2.get 0 (by have:=g3.lt;omega) (by rw [g3.c0];decide)];exact g3.gh
  eH:=by rw [m2.get 2 g3.lt (by rw [g3.c2];decide)];exact g3.eH
  lt:=by have:=g3.lt;omega
  c0:=by rw [m2.cD 0 (by have:=g3.lt;omega) (by rw [g3.c0];decide)];exact g3.c0
  c2:=by rw [m2.cD 2 g3.lt (by rw [g3.c2];decide)];exact g3.c2
  nQ:=eE},J⟩
abbrev qt(s t:Bytes)(c8:R)(k:Int):a':=[(0,.str s),(2,.ptr (some ⟨0,0,0,0,6⟩)),(4,.ptr (some ⟨2,0,0,0,6⟩)),(5,.str t),(10,c8),(11,.int .i64 k)]
theorem Mr{B m:Nat}{s t:Bytes} :∀(q k:Nat)(H:I)(cD:Nat→Nat)(c8:R),32-k≤q→k≤32→B≤H.U→ky H cD m c8 (kx m k) →
 ∃aH hM o3 z,eP B 109 (bw 24 1) (qt s t c8 ((k+1:Nat):Int)) H (.exit 2) (qt s t o3 z) aH∧ky aH hM m o3 (kx m 32)∧H.U≤aH.U:=by
 have fin:∀(k:Nat)(H:I)(cD:Nat→Nat)(c8:R),k=32→B≤H.U→ky H cD m c8 (kx m k)→ ∃aH hM o3 z,eP B 109 (bw 24 1) (qt s t c8 ((k+1:Nat):Int)) H (.exit 2) (qt s t o3 z) aH∧ky aH hM m o3 (kx m 32)∧H.U≤aH.U:=by intro k H cD c8 ap b' g;subst ap;obtain⟨e,aA,aa,aR,rfl,rfl,rfl⟩:=Dl H H H B 33 0 (m:Nat) s t c8 .undef (fun e aA aa=>e=.exit 2∧aA=qt s t c8 (33:Nat)∧aa=⟨H.U+2,H.aB⟩) (aQ b' ⟨fun h=>absurd h J,fun _=>⟨rfl,rfl,rfl⟩⟩);exact⟨_,_,_,_,b8.last a1 aR,g.ji (hk.fresh H cD 2) a1 a1,by show H.U≤H.U+2;omega⟩
 intro q;induction q with
 |zero=>intro k H cD c8 aa ae b' g;exact fin k H cD c8 J b' g
 |succ q ih =>
  intro k H cD c8 aa ae b' g;by_cases ap:k=32
  ·exact fin k H cD c8 ap b' g
  ·have eY:(((k+1:Nat):Int)+1)=((k+1+1:Nat):Int):= J;obtain⟨w,H2,c2,aD,g2,bV⟩:=g.put (new:=[⟨2,((k+1:Nat):Int),m,0,0,[]⟩]) a1 (by rw [yM];simp;omega) 8 10 J;rw [←Mp]at g2
   obtain⟨e,aA,fX,aR,rfl,rfl,rfl⟩:=Dl H _ H2 B (k+1) (H.U+8) (m:Nat) s t c8 w (fun e aA aa=>e=.normal∧aA=qt s t w ((k+1+1:Nat):Int)∧aa=⟨H2.U+3,H2.aB⟩)
    (aQ b' ⟨fun _=>aQ J ⟨⟨J,J⟩,hp (h:=⟨H.U+11,H.aB⟩) g.eH,Ml rfl,aD,aQ J ⟨⟨J,J⟩,rfl,by rw [eY],rfl⟩⟩,fun h=>absurd J h⟩)
   obtain⟨aH,hM,o3,z,ca,fH,aI⟩:=ih (k+1) ⟨H2.U+3,H2.aB⟩ _ w J J (by show B≤H2.U+3;omega) (g2.ji (hk.fresh H2 c2 3) a1 a1);have aI:H2.U+3≤aH.U:=aI;exact⟨aH,hM,o3,z,b8.step aR ca,fH,J⟩
abbrev mr(s:Bytes)(o dc n:Nat)(i:Int):a':=[(0,.str s),(2,.ptr (some ⟨0,0,0,0,6⟩)),(10,.slice (some ⟨o,dc,0,0,6⟩) n n),(14,.int .i64 i)]
def yN(B:Nat)(s:Bytes)(o dc:Nat)(es:List b1)(i:Nat)(H:I):Prop:= ∃aH,
 (∃v,eP B 109 (bw 24 2) (mr s o dc es.length (i:Nat)) H (.exit 4) (mr s o dc es.length v) aH∧aH.get 0=some (bo (aU 0 0 0 0 0 []))∧∀e∈es.drop i,e4 e≠some s) ∨
 ∃cj e,eP B 109 (bw 24 2) (mr s o dc es.length (i:Nat)) H .ret cj aH∧a'.le [(2,.ptr (some ⟨0,0,0,0,6⟩)),(3,.bool true)] cj∧aH.get 0=some (bo (cc e))∧e∈es∧e4 e=some s
theorem Ms{B m o dc nq f:Nat}{s:Bytes}{es:List b1}(hm:m≤7)(aI:es.length<2^50)(al:∀e∈es,uR m e):∀(t i:Nat)(H:I),es.length-i≤t→i≤es.length→B≤H.U→o<H.U→H.get 0=some (bo (aU 0 0 0 0 0 []))→H.get o=some (uc (es.map cc) 6 dc nq f rQ)→yN B s o dc es i H:=by
 have fin:∀(i:Nat)(H:I),i=es.length→B≤H.U→H.get 0=some (bo (aU 0 0 0 0 0 []))→yN B s o dc es i H:=by intro i H ag b' a6;subst ag;obtain⟨e,aA,aa,aR,rfl,rfl,rfl⟩:=Dm H B es.length o dc es.length 0 0 0 s [] (fun e aA aa=>e=.exit 4∧aA=mr s o dc es.length (es.length:Nat)∧aa=⟨H.U+4,H.aB⟩) (aQ b' ⟨fun h=> J,fun _=>⟨rfl,rfl,rfl⟩⟩);exact⟨_,.inl ⟨_,b8.last a1 aR,a6,a1⟩⟩
 intro t;induction t with
 |zero=>intro i H aa ae b' aj a6 ah;exact fin i H J b' a6
 |succ t ih =>
  intro i H aa ae b' aj a6 ah;by_cases ag:i<es.length
  ·have eY:((i:Int)+1)=((i+1:Nat):Int):= J;have kV:=List.getElem_mem ag;have gW:=al _ kV
   have hb:∀j,bp (bq.D env) 42 ⟨o,dc,0+Int.toNat (i:Int),0,6⟩ ⟨H.U+j,H.aB⟩=some (cc es[i]):=fun j=>by rw [Int.toNat_natCast,Nat.zero_add];exact Ix (h:=⟨H.U+j,H.aB⟩) ah ag
   have mS:=LU gW hm ⟨H.U+14,H.aB⟩;have sd:es.drop i=es[i]::es.drop (i+1):=List.drop_eq_getElem_cons ag
   have hF:∃k c,es[i]=⟨k,c,m,0,0,[]⟩:=by
    rcases gW with ⟨k,_,_,e⟩|⟨c,e⟩
    ·exact⟨_,_,e⟩
    ·exact⟨_,_,e⟩
   generalize es[i]=e at hb mS sd hF kV gW;obtain⟨k,c,rfl⟩:=hF
   have U:∀H2:I,H2.U=H.U+23→H2.aB=H.aB→e4 ⟨k,c,m,0,0,[]⟩≠some s→bK B 109 (bw 24 2) (mr s o dc es.length (i:Nat)) H .normal (mr s o dc es.length (i+1:Nat)) H2→yN B s o dc es i H:=by
    intro H2 bk bV bJ aR;have q:∀x,H2.get x=H.get x:=fun x=>by unfold I.get;rw [bV]
    obtain⟨aH,⟨v,ca,a,b⟩|⟨cj,e,ca,a⟩⟩:=ih (i+1) H2 J J J J (by rw [q];exact a6) (by rw [q];exact ah)
    ·refine⟨aH,.inl ⟨v,b8.step aR ca,a,fun x ac=> ?_⟩⟩;rw [sd]at ac;rcases List.mem_cons.1 ac with rfl|ac
     ·exact bJ
     ·exact b x ac
    ·exact⟨aH,.inr ⟨cj,e,b8.step aR ca,a⟩⟩
   unfold yF at mS;cases hw:e4 ⟨k,c,m,0,0,[]⟩with
   |none =>
    rw [hw]at mS
    obtain⟨e,aA,fX,aR,rfl,rfl,bY,bU⟩:=Dm H B i o dc es.length k c (m:Nat) s [] (fun e aA aa=>e=.normal∧aA=mr s o dc es.length (i+1:Nat)∧aa.U=H.U+23∧aa.aB=H.aB)
     (aQ b' ⟨fun _=>aQ J ⟨⟨J,J⟩,hb 14,⟨mS⟩,aQ J (aQ J ⟨⟨J,J⟩,rfl,by rw [eY],rfl,rfl⟩)⟩,fun h=>absurd J h⟩)
    exact U fX bY bU (by rw [hw];simp) aR
   |some u =>
    rw [hw]at mS;have tz:=Mk (dS:=k) (dm:=c) (eF:=m) (eJ:=0) (dF:=0) (dw:=[]) (h:=⟨H.U+26,H.aB⟩) a6
    have oY:∃e aA aa,bK B 109 (bw 24 2) (mr s o dc es.length (i:Nat)) H e aA aa∧((u≠s∧e=.normal∧aA=mr s o dc es.length (i+1:Nat)∧aa.U=H.U+23∧aa.aB=H.aB)∨(u=s∧e=.ret∧a'.le [(2,.ptr (some ⟨0,0,0,0,6⟩)),(3,.bool true)] aA∧aa.get 0=some (bo (aU k c m 0 0 [])))):=by
     refine Mh H _ B i o dc es.length k c (m:Nat) s u _
      (aQ b' ⟨fun _=>aQ J ⟨⟨J,J⟩,hb 14,⟨mS⟩,aQ J ⟨fun e=>aQ J ⟨⟨J,J⟩,hb 26,rS rfl rfl tz,.inr ⟨e,rfl,?_,I.eU _ _ _⟩⟩,fun e=>aQ J ⟨⟨J,J⟩,.inl ⟨e,rfl,by rw [eY],rfl,rfl⟩⟩⟩⟩,fun h=>absurd J h⟩)
     exact a'.pK [(0,.str s),(2,.ptr (some ⟨0,0,0,0,6⟩)),(3,.bool true),(10,.slice (some ⟨o,dc,0,0,6⟩) es.length es.length),(14,.int .i64 (i:Nat))] [2,3]
    obtain⟨e,aA,fX,aR,⟨bJ,rfl,rfl,bY,bU⟩|⟨rfl,rfl,hle,us⟩⟩:=oY
    ·exact U fX bY bU (by rw [hw];intro q;exact bJ (Option.some.inj q)) aR
    ·exact⟨_,.inr ⟨aA,⟨k,c,m,0,0,[]⟩,b8.last a1 aR,hle,us,kV,hw⟩⟩
  ·exact fin i H J b' a6
theorem Dq{F:a'}{nid a b c:Nat}{H:I}{m r:Int}(aD:aY F (.tmp a)=aU 1 32 m 0 0 [])(an:aY F (.tmp b)=aU 1 43 m 0 0 [])(al:aY F (.tmp c)=aU 1 r m 0 0 []) :
 bb env cz nid (aY F) H (Op.buildSlice 56 3 {toList:=[(0,Operand.tmp a),(1,Operand.tmp b),(2,Operand.tmp c)]})=some (.slice (some ⟨nid,0,0,0,6⟩) 3 3,H.set nid (ai.aq [aU 1 32 m 0 0 [],aU 1 43 m 0 0 [],aU 1 r m 0 0 []] 6 true)):=by
 have eX:∀(K:I)(y:Nat)(m r:Int),ij (bq.D env) 56 3 [(0,aU 1 32 m 0 0 []),(1,aU 1 43 m 0 0 []),(2,aU 1 r m 0 0 [])] y K=some (.slice (some ⟨y,0,0,0,6⟩) 3 3,K.set y (ai.aq [aU 1 32 m 0 0 [],aU 1 43 m 0 0 [],aU 1 r m 0 0 []] 6 true)):=by intro K y m r;kernel_rfl
 show ij (bq.D env) 56 3 [(0,aY F (.tmp a)),(1,aY F (.tmp b)),(2,aY F (.tmp c))] _ _=_;rw [aD,an,al];exact eX _ _ _ _
def kz(t:Bytes):Int×Int:=if t=[]then(0,0)else gY t ev
theorem Dr(t:Bytes)(H:I):bE 52 [.str t] H (.tuple [.int .i32 (kz t).1,.int .i64 (kz t).2]) H:=by
 unfold kz;by_cases bz:t=[]
 ·subst bz;rw [if_pos rfl];exact bn.cL (C9 [] ⟨0,.nil⟩ .undef (fun v _=>v=.tuple [.int .i32 0,.int .i64 0]) ⟨fun _=>rfl,fun h=>absurd rfl h⟩) rfl rfl H
 ·rw [if_neg bz];exact L5 bz H
def nN(s:Bytes):List b1:=kx (b9 s) 32++[⟨1,32,b9 s,0,0,[]⟩,⟨1,43,b9 s,0,0,[]⟩,⟨1,(kz (bG s)).1,b9 s,0,0,[]⟩]
theorem Ds(s:Bytes):b9 s≤7:=by unfold b9;split<;>split<;>split<;>omega
theorem yO(s:Bytes):∀e∈nN s,uR (b9 s) e:=by
 intro e he;unfold nN at he;rcases List.mem_append.1 he with he|he
 ·obtain⟨j,aW,rfl⟩:=List.mem_map.1 he;have:=List.mem_range.1 aW;exact .inl ⟨j+1,J,J,rfl⟩
 ·simp only [List.mem_cons,List.not_mem_nil,or_false]at he;rcases he with rfl|rfl|rfl
  ·exact .inr ⟨32,rfl⟩
  ·exact .inr ⟨43,rfl⟩
  ·exact .inr ⟨_,rfl⟩
def uY(s:Bytes):R:=match named s with|some e=> .tuple [cc e,.bool true]|none=> .tuple [aU 0 0 0 0 0 [],.bool false]
theorem Mt{c:Nat}(hs:Scalar c):∀p,p=cr∨p=cm∨p=cE→p.isPrefixOf (fP c)=false:=by
 intro p ab;unfold fP;split
 ·rcases ab with rfl|rfl|rfl<;>rfl
 ·split
  ·rcases ab with rfl|rfl|rfl<;>rfl
  ·exact Cl hs ab
theorem Mu{c:Nat}(hs:Scalar c):put c≠[]:=by
 rw [put_eq hs]
 repeat' split
 all_goals simp
theorem Mv{s:Bytes}{e:b1}(h:named s=some e):e∈nN s:=by
 unfold named at h;split at h
 ·rename_i aI;simp only [Option.some.injEq]at h;subst h;have hm:=Ds s;have a6:0≤(fu s).dH:=Int.natCast_nonneg _;have hc:=aI;unfold e4 at hc;split at hc
  ·rename_i q;obtain⟨b,an⟩:=Cj q.1;unfold nN;rcases q.2 with ap|ap
   ·obtain⟨c,m,bk,_,hs⟩:=ul a6 an ap;have bV:fu s=⟨kp (bG s),mi (bG s),b9 s,0,0,[]⟩:=rfl
    have yP:m=b9 s:=by have:=congrArg b1.dH (bk.symm.trans bV);simp only at this;omega
    subst yP;have al:mi (bG s)=(c:Nat):=(congrArg b1.code (bk.symm.trans bV)).symm;have ly:Scalar c:=by have:=(nt hs).1;simpa using this
    rw [bk];by_cases dK:c=32
    ·subst dK;simp
    by_cases dL:c=43
    ·subst dL;simp
    rw [bk]at aI an;rw [qb an]at aI;simp only [Option.some.injEq]at aI;have aR:=(Cm hm (Mt ly)).2;rw [aI]at aR;have ab:fP c=put c:=by unfold fP;rw [if_neg dK,if_neg dL]
    have az:(kz (bG s)).1=(c:Nat):=by rw [aR,ab];unfold kz;rw [if_neg (Mu ly)];exact Mc ly
    rw [az];simp
   ·obtain⟨k,m,bk,_,aR⟩:=yl a6 an ap
    have yP:m=b9 s:=by have:=congrArg b1.dH bk;have jv:(fu s).dH=(b9 s:Nat):=rfl;simp only at this;omega
    subst yP;rw [bk];refine List.mem_append.2 (.inl (List.mem_map.2 ⟨k-1,List.mem_range.2 J,?_⟩));rw [show k-1+1=k by omega]
  ·cases hc
 ·cases h
theorem Dt{F:a'}{n:Nat}{H:I}{e:b1}(df:bm (F.map fun p=>bH (Go.bh.ff [0]) p.2))(aI:F.all (fun p=>Nat.blt p.1 109)=true)(ah:H.get 0=some (bo (cc e))):cY 0 109 F H F (I.ak 300 [(0,bo (cc e))]):=by
 have bk:I.rows 300 [(0,bo (cc e))]=I.ak 300 [(0,bo (cc e))]:=by
  obtain⟨k,c,m,x,y,t⟩:=e;show I.rows 300 [(0,bo (aU k c m x y t))]=I.ak 300 [(0,bo (aU k c m x y t))]
  kernel_rfl
 rw [←bk]
 exact cY.drop (K:=300) (l:=[(0,bo (cc e))]) (by simp only [List.map_cons,List.map_nil,ah]) (by rfl) (by rfl) aI df (bm.cons (by
  intro x ac;obtain rfl:x=cc e:=by simpa [ai.aq]using ac
  exact(cO.of rfl).ha _) bm.nil)
theorem Mw(s:Bytes)(H:I):bE 24 [.str s] H (uY s) H:=by
 obtain⟨K,cH,Du⟩:=Mm s;have g1:ky (⟨(I.ak K (fj (b9 s))).U+1+1,(I.ak K (fj (b9 s))).aB⟩:I) (fun _=>0) (b9 s) (.slice none 0 0) (kx (b9 s) 0):=⟨aG,aG,by show 2<K+1+1;omega,rfl,rfl,kf.nil _ _ _ _ _⟩
 obtain⟨H2,c2,c8,z,Dv,g2,_⟩:=Mr (B:=0) (s:=s) (t:=bG s) 32 0 _ _ _ J J (Nat.zero_le _) g1;obtain⟨w,cd,c4,aD,g4,j1⟩:=g2.put (new:=[⟨1,32,b9 s,0,0,[]⟩,⟨1,43,b9 s,0,0,[]⟩,⟨1,(kz (bG s)).1,b9 s,0,0,[]⟩]) a1 (by rw [yM];simp) 18 20 J;have g5:=g4.ji (hk.fresh cd c4 1) a1 a1;have Mx:kf ⟨cd.U+1,cd.aB⟩ (fresh cd c4) 10 6 rQ w ((nN s).map cc):=g5.nQ;have p3:(nN s).length=35:=by unfold nN;rw [List.length_append,yM];rfl
 obtain⟨⟨_,ac⟩|⟨_,o,aj,_,bf,nq,f,rfl,ah⟩⟩:=Mx
 ·exact absurd (congrArg List.length ac) (by rw [List.length_map,p3];decide)
 have My:=Ms (B:=0) (s:=s) (es:=nN s) (Ds s) J (yO s) 35 0 ⟨cd.U+1,cd.aB⟩ J J (Nat.zero_le _) aj g5.gh ah;rw [List.length_map]at *;obtain⟨aH,⟨v,yQ,a6,iX⟩|⟨cj,e,yQ,hle,a6,kV,hw⟩⟩:=My
 ·have az:named s=none:=by
   cases av:named s with
   |none=>rfl
   |some e =>
    have bJ:=iX e (Mv av);unfold named at av;split at av
    ·rename_i q;simp only [Option.some.injEq]at av;rw [av]at q;exact absurd q bJ
    ·cases av
  have hT:=((cQ.ei yQ).post (cY.facts (a'.pK _ [2]))).post (Dt (n:=0) (e:=⟨0,0,0,0,0,[]⟩) (bm.cons (by simp [bH,Go.bh.ff]) bm.nil) (by rfl) a6);unfold uY;rw [az]
  exact bn.cL (Mi s (bG s) _ H2 _ cd (H2.U+18) (b9 s:Nat) (kz (bG s)).1 (kz (bG s)).2 (.int .i64 3) (.int .i64 z) c8 _ (fun v _=>v=.tuple [aU 0 0 0 0 0 [],.bool false])
   ⟨(cQ.ei Du).post (cY.facts (a'.pK (fT s (bG s) 3) [0,2,4,5,8])),cQ.ei Dv,⟨Dr _ _⟩,hp (h:=⟨H2.U+21,H2.aB⟩) g2.eH,hp (h:=⟨H2.U+21,H2.aB⟩) g2.eH,hp (h:=⟨H2.U+21,H2.aB⟩) g2.eH,Dq rfl rfl rfl,aD,hT,rfl⟩) rfl rfl H
 ·have az:named s=some e:=Kh (by rcases yO s e kV with ⟨k,_,_,rfl⟩|⟨c,rfl⟩<;>exact Int.natCast_nonneg _) hw
  have hT:=((cQ.ei yQ).post (cY.facts hle)).post (Dt (n:=0) (e:=e) (bm.cons (by simp [bH,Go.bh.ff]) (bm.cons trivial bm.nil)) (by rfl) a6)
  have hF:∃k c,e=⟨k,c,b9 s,0,0,[]⟩:=by
   rcases yO s e kV with ⟨k,_,_,e⟩|⟨c,e⟩
   ·exact⟨_,_,e⟩
   ·exact⟨_,_,e⟩
  obtain⟨k,c,rfl⟩:=hF;unfold uY;rw [az]
  exact bn.cL (Mj s (bG s) _ H2 _ cd (H2.U+18) (b9 s:Nat) (kz (bG s)).1 (kz (bG s)).2 k c (.int .i64 3) (.int .i64 z) c8 _ (fun v _=>v=.tuple [aU k c (b9 s:Nat) 0 0 [],.bool true])
   ⟨(cQ.ei Du).post (cY.facts (a'.pK (fT s (bG s) 3) [0,2,4,5,8])),cQ.ei Dv,⟨Dr _ _⟩,hp (h:=⟨H2.U+21,H2.aB⟩) g2.eH,hp (h:=⟨H2.U+21,H2.aB⟩) g2.eH,hp (h:=⟨H2.U+21,H2.aB⟩) g2.eH,Dq rfl rfl rfl,aD,hT,rfl⟩) rfl rfl H
end Go.Proofs.YtddnafghiejcoaaGreatDoor
namespace Go.Proofs.YtddnafghiejcoaaGreatDoor
open Go.bh
set_option maxRecDepth 1000000
theorem Mz:te (h6 Tryz.prog env 400 19 [] ⟨0,.nil⟩)=true:=by decide+kernel
theorem MA(H:I):bE 19 [] H (.bool true) H:=by obtain⟨af,al⟩:=Gw Mz;exact(bn.mZ dB mixed al).bare a1 (cO.bool _) H
end Go.Proofs.YtddnafghiejcoaaGreatDoor
namespace Go.Proofs.YtddnafghiejcoaaGreatDoor
open Go.bh Go.Keys Go.Lib
set_option maxRecDepth 1000000
abbrev yR(t:Bytes)(k c m x y:Int):R:=R.agg [.int .i8 k,.int .i32 c,.int .u8 m,.int .i64 x,.int .i64 y,.str t]
abbrev nO(t:Bytes)(k c m x y:Int):ai:=(ai.aq ([(yR t k c m x y)]) 6 true (some (42,6)))
theorem MB(s t:Bytes)(k c m x y:Int)(ad:bT)(aP:bu 24 [.str s] (I.ak 9 []) (.tuple [(yR t k c m x y),.bool true]) (I.ak 9 [])∧bu 25 [.str s] (I.ak 17 [(6,(nO t k c m x y))]) (.tuple [(yR t k c m x y),.int .i64 0]) (I.ak 17 [(6,(nO t k c m x y))])∧some (R.bool (k == k&&(c == c&&(m == m&&(x == x&&(y == y&&(t == t&&true)))))))=some (R.bool true)∧bu 19 [] (I.ak 30 [(6,(nO t k c m x y)),(14,(nO t k c m x y))]) (.bool true) (I.ak 30 [(6,(nO t k c m x y)),(14,(nO t k c m x y))])∧ad (.bool true) (I.ak 30 [(6,(nO t k c m x y)),(14,(nO t k c m x y))])) :
 bW 6 [.str s] (⟨0,.nil⟩) ad :=
 bZ cl (.ao (.val 1001 (.tuple [aU k c m x y t,.bool true])) (.ao (.val 2001 (.tuple [aU k c m x y t,.int .i64 0])) (.ao (.val 5005 (.bool true)) (.ao (.val 5008 (.bool true)) .nil)))) aP
theorem MC(s:Bytes)(ad:bT)(aP:bu 24 [.str s] (I.ak 9 []) (.tuple [jP,.bool false]) (I.ak 9 [])∧bu 25 [.str s] (I.ak 17 [(6,cA)]) (gg) (I.ak 17 [(6,cA)])∧bu 19 [] (I.ak 30 [(6,cA),(14,cA)]) (.bool true) (I.ak 30 [(6,cA),(14,cA)])∧ad (.bool true) (I.ak 30 [(6,cA),(14,cA)])) :
 bW 6 [.str s] (⟨0,.nil⟩) ad :=
 bZ cl (.ao (.val 1001 (.tuple [aU 0 0 0 0 0 [],.bool false])) (.ao (.val 2001 (.tuple [aU 0 0 0 0 0 [],.int .i64 220])) (.ao (.val 4008 (.bool true)) .nil))) aP
end Go.Proofs.YtddnafghiejcoaaGreatDoor
namespace Go.bh
noncomputable section
open Go.RowKit Go.ChangeShapes Go.WideShapes Go.ChangeAt
theorem bn.law{P:Program}{C:(Nat→Prop)→World→Prop}{f:FuncId}{args:List R}{h af:I}(k:bn P C f args h (.bool true) af){w:World}(ef:C (fun k=>k<w.heap.size) w){φ:Map}(ay:bP φ (fun k=>k<w.heap.size) h w){cx:Array Value}(aD:aT φ args cx.toList) :
 Calls P f cx w fun e aL=>e=.returned (.bool true)∧Below w.heap.size w aL:=by
 have:=(k (fun k=>k<w.heap.size) w (fun _ h=>h) ef _ w cx ay (Safe.refl _ _) aD).2
 exact this.mono fun e aL ⟨aK,aZ,aa,_,ae,_,aS,_⟩=>by simp only [ar]at ae;subst ae;exact⟨aa,aS.below⟩
end
end Go.bh
namespace Go.bh
noncomputable section
open Go.RowKit Go.ChangeShapes Go.WideShapes Go.ChangeAt
def uZ(P:Program):Nat→TypeId→Nat→Option kB
 |0,_,_=>none
 |d+1,t,c =>
  match P.underlying t with
  |some (.int k)=>if c=0 then some (.int k)else none
  |some .bool=>if c=0 then some .bool else none
  |some .string=>if c=0 then some .string else none
  |some (.struct fs)=>fs.toList.findSome? fun f=>if f.offset≤c∧c<f.offset+P.cellsOf f.type then uZ P d f.type (c-f.offset)else none
  |some (.array n e)=>if c/P.cellsOf e<n then uZ P d e (c%P.cellsOf e)else none
  |_=>none
section
variable {H:Type}{enc:TypeId×Value→H}{P:Program}{w:World}{base:Nat}{spare:Nat→Bool}{held:Bool}
theorem DK{t:TypeId}{ts:List TypeId}{d:DataW H}{hV:List (DataW H)}{eA:Nat}(h:∀y∈DataW.weightsEach P (t::ts) (d::hV),y≤eA):(∀y∈d.weights P t,y≤eA)∧∀y∈DataW.weightsEach P ts hV,y≤eA :=
 ⟨fun y bi=>h y (by simp [DataW.weightsEach,bi]),fun y bi=>h y (by simp [DataW.weightsEach,bi])⟩
end
end
end Go.bh
namespace Go.bh
noncomputable section
open Go.RowKit Go.ChangeShapes Go.WideShapes Go.ChangeAt
theorem Dw{H:Type}{P:Program} :∀{ts:List TypeId} {hV:List (DataW H)} {j:Nat} {t:TypeId} {d:DataW H} {y:Nat},ts[j]? =some t→hV[j]? =some d→y∈d.weights P t→y∈DataW.weightsEach P ts hV
 |[],_,_,_,_,_,h,_,_=>by cases h
 |_::_,[],_,_,_,_,_,h,_=>by cases h
 |t::ts,d::hV,0,_,_,_,aa,ae,aS=>by simp at aa ae;subst aa ae;simp only [DataW.weightsEach,List.mem_append];exact .inl aS
 |t::ts,d::hV,j+1,_,_,_,aa,ae,aS=>by simp only [DataW.weightsEach,List.mem_append];exact .inr (Dw (j:=j) (by simpa using aa) (by simpa using ae) aS)
theorem MD{H:Type}{P:Program}{e:TypeId}{hV:List (DataW H)}{d:DataW H}{y:Nat}(az:d∈hV)(aS:y∈d.weights P e):y∈DataW.weightsAll P e hV:=by
 induction hV with
 |nil=>cases az
 |cons a r ih =>
  simp only [DataW.weightsAll,List.mem_append];rcases List.mem_cons.1 az with rfl|az
  ·exact .inl aS
  ·exact .inr (ih az)
section
variable {H:Type}{enc:TypeId×Value→H}{P:Program}{w:World}{base:Nat}{spare:Nat→Bool}{held:Bool}
theorem DN:∀(d:Nat){t:TypeId}{c:Nat}{hH:Nat}{cs:List Value}{x:DataW H×List MemPlace},uZ P d t c=some .string→DataW.trod enc P w base spare held hH t cs=some x→ ∃s:ByteArray,cs[c]? =some (.string s)∧s.size∈x.1.weights P t:=by
 intro d;induction d with
 |zero=>intro t c hH cs x h;cases h
 |succ d ih =>
  intro t c hH cs x h ac;simp only [uZ]at h;split at h
  ·split at h<;>cases h
  ·split at h<;>cases h
  ·rename_i hu;split at h
   ·rename_i al;subst al;obtain⟨s,rfl,wo,hs⟩:=DataW.trod_string hu ac;subst wo;exact⟨s,rfl,by rw [DataW.weights];exact List.mem_singleton.2 (show s.data.size=s.data.toList.length from Array.length_toList.symm)⟩
   ·cases h
  ·rename_i fs hu;obtain⟨f,aM,ap⟩:=List.exists_of_findSome?_eq_some h;split at ap
   ·rename_i al;obtain⟨xs,n,_,he,ay,mX,sC⟩:=DataW.trod_struct hu ac;obtain⟨j,aW,ME⟩:=List.mem_iff_getElem.1 aM;have uh:fs[j]? =some f:=by rw [←Array.getElem?_toList,List.getElem?_eq_getElem aW,ME]
    have aa:=sC j f uh;have Dx:j<xs.length:=by rw [mX];simpa using aW
    rw [List.getElem?_eq_getElem Dx]at aa;obtain⟨v,bg,yS⟩:=ih ap aa;rw [List.getElem?_take]at bg;split at bg
    ·rw [List.getElem?_drop,show f.offset+(c-f.offset)=c by omega]at bg;refine⟨v,bg,?_⟩;subst he;simp only [DataW.weights,hu];exact Dw (j:=j) (by simp [uh]) (by simp [Dx]) yS
    ·cases bg
   ·cases ap
  ·rename_i n e hu;split at h
   ·rename_i al;obtain⟨xs,m,_,he,ay,mX,ey⟩:=DataW.trod_array hu ac;have aa:=ey _ al;rw [List.getElem?_eq_getElem J]at aa;obtain⟨v,bg,yS⟩:=ih h aa;rw [List.getElem?_take]at bg;split at bg
    ·rw [List.getElem?_drop,Nat.mul_comm,Nat.div_add_mod]at bg;refine⟨v,bg,?_⟩;subst he;simp only [DataW.weights,hu];exact MD (List.mem_map.2 ⟨_,List.getElem_mem _,rfl⟩) yS
    ·cases bg
   ·cases h
  ·cases h
end
end
end Go.bh
namespace Go.Proofs.YtddnafghiejcoaaGreatDoor
open Go.bh Go.Keys Go.Lib
set_option maxRecDepth 1000000
theorem MF(e:b1):(e.kind == e.kind&&(e.code == e.code&&(e.dH == e.dH&&(e.x == e.x&&(e.y == e.y&&(e.text == e.text&&true))))))=true:= a1
theorem DO{s:Bytes}(hs:s.length<2^47):∃af,bE 6 [.str s] ⟨0,.nil⟩ (.bool true) af:=by
 have aa:=Mw s;have ae:=K8 hs;have aS:=MA;unfold uY at aa;unfold iO at ae;cases h:named s with
 |none =>
  rw [h]at aa ae;obtain⟨v,af,az,rfl⟩:=MC s (fun v _=>v=.bool true) ⟨⟨aa _⟩,⟨ae _⟩,⟨aS _⟩,rfl⟩;exact⟨_,az⟩
 |some e =>
  rw [h]at aa ae;obtain⟨v,af,az,rfl⟩:=MB s e.text e.kind e.code e.dH e.x e.y (fun v _=>v=.bool true) ⟨⟨aa _⟩,⟨ae _⟩,by rw [MF],⟨aS _⟩,rfl⟩;exact⟨_,az⟩
end Go.Proofs.YtddnafghiejcoaaGreatDoor
namespace Go.Proofs.YtddnafghiejcoaaGreatDoor
open Go.ChangeShapes Go.WideShapes Go.RowKit Go.Stop
open Go.bh
set_option maxRecDepth 1000000
theorem MG:(Tryz.prog.globals[5]?).map (·.type)=some 179:= aG
theorem MH:Tryz.prog.cellsOf 179=20:= aG
theorem MI:Tryz.prog.cellsOf 151=1:= aG
theorem MJ{W:World}(h:laidMetH Tryz.prog Rows.keysPiecesRow.laid W):Lib.TabIs Tryz.prog W "internal/strconv.uint64pow10" .u64 Lib.pow10Tab:=by rw [MakeChecks.laidMetH_plain _ _ _ aG]at h;exact Lib.tabIs_of_head xH MG Tryz.underlying179 Tryz.underlying151 MI MH (laidMet.tail (laidMet.tail h))
noncomputable def se(os:Os):World :=
 {World.doorLaid Tryz.prog 96 os with heap:=(World.doorLaid Tryz.prog 96 os).heap.modify 8 fun
  |.cells _ t frozen=> .cells (Go.Pinned.utf8FirstZ.map fun(z:Nat)=>Value.int .u8 (z:Int)).toArray t frozen
  |o=>o}
theorem MK{P:Program}{w:World}{l:List (String×DataW Unit)}(hH M:Nat)(h:(DataW.laidRun P w hH (l.map (·.1))).bind (fun x=>if nodupBits M x.2 0&&laidRowsB P w x.2 then some x.1 else none)=some l):laidMet P l w:=by
 simp only [Option.bind_eq_some_iff]at h;obtain⟨x,ac,d⟩:=h;split at d
 ·rename_i an;simp only [Bool.and_eq_true]at an;simp only [Option.some.injEq]at d;exact laidMet_of_run (ps:=x.2) hH (by rw [ac,←d]) (decide_eq_true (nodupBits_sound an.1).1) an.2
 ·cases d
theorem u0(os:Os)(args:Array Value):laidMetH Tryz.prog Rows.keysPiecesRow.laid ((se os).forCall (fun _ _=>0) ⟨#[],args,[]⟩).memory:=by rw [MakeChecks.laidMetH_plain _ _ _ aG];exact MK 8 257 aG
theorem ML:(Tryz.prog.globals[0]?).map (·.type)=some 113:= aG
theorem MM:Tryz.prog.cellsOf 113=256:= aG
theorem MN:Tryz.prog.cellsOf 5=1:= aG
theorem Dy:Tryz.prog.globalNamed "strconv.ErrSyntax" =some 3:= aG
theorem Dz:Tryz.prog.globalNamed "strconv.ErrRange" =some 4:= aG
theorem MO:(Tryz.prog.globals[3]?).map (·.type)=some 89:= aG
theorem MP:(Tryz.prog.globals[4]?).map (·.type)=some 89:= aG
theorem DA: "*" ++ "errors.errorString" = "*errors.errorString" := cg
theorem DB(u:TypeId)(h:Tryz.prog.typeName? 3 u=some "*errors.errorString"):u=187 :=
 typeName_ptr_named (nm:= "errors.errorString") (by rw [DA];kernel_rfl) aG cg u (by rw [DA];exact h)
theorem DC:Tryz.prog.cellsOf 189=1:= aG
theorem strCells:Tryz.prog.cellsOf 9=1:= aG
theorem DD{P:Program}{W:World}{n:String}{g:Nat}{v:Value}(ah:P.globalNamed n=some g)(h:W.var? P n=some #[v]):W.cell? ⟨g,0,none⟩=some v∧g<W.heap.size:=by
 unfold World.var? at h;rw [ah]at h;simp only [Option.bind_some]at h;split at h
 ·rename_i cs t f bx;simp only [Option.some.injEq]at h;subst h;refine⟨by simp [World.cell?,bx],(Array.getElem?_eq_some_iff.1 bx).1⟩
 ·cases h
theorem DE{W:World}{n:String}{g:Nat}{k:IntKind}{t:List Int}(ah:Tryz.prog.globalNamed n=some g)(h:Lib.TabIs Tryz.prog W n k t):g<W.heap.size:=by
 unfold Lib.TabIs World.var? at h;rw [ah]at h;simp only [Option.bind_some]at h;rcases Nat.lt_or_ge g W.heap.size with k|k
 ·exact k
 ·rw [Array.getElem?_eq_none k]at h;cases h
theorem pc{W:World}{g:Nat}(h:∃m,W.cell? ⟨g,0,none⟩=some (.int .i64 m)):g<W.heap.size:=by
 obtain⟨m,e⟩:=h;rcases Nat.lt_or_ge g W.heap.size with k|k
 ·exact k
 ·simp [World.cell?,Array.getElem?_eq_none k]at e
theorem DG{W:World}(h:laidMetH Tryz.prog Rows.keysPiecesRow.laid W)(ac:∃m,W.cell? ⟨2,0,none⟩=some (.int .i64 m)):hK (fun k=>k<W.heap.size) W:=by have ab:=MJ h;rw [MakeChecks.laidMetH_plain _ _ _ aG]at h;have bj:=laidMet.tail (laidMet.tail (laidMet.tail (laidMet.tail h)));obtain⟨a,s,aR,_⟩:=laid_sentinel bj Dz MP Tryz.underlying89 DB Tryz.underlying187 Tryz.underlying189 rfl rfl Tryz.underlying9 DC strCells;have cb:=laidMet.tail bj;obtain⟨a2,s2,hs,_⟩:=laid_sentinel cb Dy MO Tryz.underlying89 DB Tryz.underlying187 Tryz.underlying189 rfl rfl Tryz.underlying9 DC strCells;have dO:=laidMet.tail (laidMet.tail cb);have bz:Lib.TabIs Tryz.prog W "strings.asciiSpace" .u8 Lib.asciiSpaceTab:=Lib.tabIs_of_head xI ML Tryz.underlying113 Tryz.underlying5 MN MM (zs:=Lib.asciiSpaceTab) dO;obtain⟨dY,eH⟩:=DD Dz aR;obtain⟨s1,s2⟩:=DD Dy hs;exact⟨DE xH ab,ab,DE xI bz,bz,s2,⟨_,_,s1⟩,eH,⟨_,_,dY⟩,pc ac,ac⟩
end Go.Proofs.YtddnafghiejcoaaGreatDoor
