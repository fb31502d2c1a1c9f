/-
  Parts of the proof of KeysBack.
-/
import Derived.Lib.AtoiErrMem
import Derived.Shelf.Strconv.AtoiAll
import Derived.ProofKit
import Derived.OpenShut
import Derived.ChangeOld
import Derived.HandedShaped
import Derived.Deep.Slices
import Derived.Test.YtddnafghiejcoaaGreatDoorRows
import Derived.LaidMore
import Derived.Stop.Joined
import Derived.Stop.LaidErr
import Derived.MakeChecks
import Derived.Lib.LaidTab
import Derived.LaidOnce
import Derived.Lib.Space
import Derived.Test.YtddnafghiejcoaaGreatDoorKKeysBackG
set_option linter.unusedVariables false
set_option linter.unusedSimpArgs false
namespace Go.Proofs
open Go.Shelf
def Tryz.afv:Go.Shelf.Ren:=⟨fun|157=>50|229=>76|199=>77|261=>97|311=>123|312=>124|n=>n,fun|9=>9|31=>77|3=>3|5=>5|4=>4|119=>113|0=>0|40=>69|152=>129|21=>21|154=>131|51=>132|141=>134|196=>162|193=>159|198=>165|49=>163|194=>160|201=>168|226=>183|46=>108|227=>184|n=>n,fun|0=>0|6=>1|n=>n⟩
theorem Tryz.afw:Go.Proofs.Lays.n157 Tryz.prog Tryz.afv:= {
 mixed:= ay
 f157:=Tryz.func50.trans (congrArg some ay)
 f199:=Tryz.func77.trans (congrArg some ay)
 f229:=Tryz.func76.trans (congrArg some ay)
 f261:=Tryz.func97.trans (congrArg some ay)
 f311:=Tryz.func123.trans (congrArg some ay)
 f312:=Tryz.func124.trans (congrArg some ay)
 t0:=Tryz.underlying0
 a0:=Tryz.isAgg0
 z0:=Tryz.sizeOf0
 v0:=Tryz.zeroValue0
 t3:=Tryz.underlying3
 a3:=Tryz.isAgg3
 z3:=Tryz.sizeOf3
 v3:=Tryz.zeroValue3
 t4:=Tryz.underlying4
 a4:=Tryz.isAgg4
 z4:=Tryz.sizeOf4
 v4:=Tryz.zeroValue4
 t5:=Tryz.underlying5
 a5:=Tryz.isAgg5
 z5:=Tryz.sizeOf5
 v5:=Tryz.zeroValue5
 t9:=Tryz.underlying9
 a9:=Tryz.isAgg9
 z9:=Tryz.sizeOf9
 v9:=Tryz.zeroValue9
 t21:=Tryz.underlying21
 a21:=Tryz.isAgg21
 z21:=Tryz.sizeOf21
 v21:=Tryz.zeroValue21
 t31:=Tryz.underlying77
 a31:=Tryz.isAgg77
 z31:=Tryz.sizeOf77
 v31:=Tryz.zeroValue77
 t40:=Tryz.underlying69
 a40:=Tryz.isAgg69
 z40:=Tryz.sizeOf69
 v40:=Tryz.zeroValue69
 t46:=Tryz.underlying108
 a46:=Tryz.isAgg108
 z46:=Tryz.sizeOf108
 v46:=Tryz.zeroValue108
 t49:=Tryz.underlying163
 a49:=Tryz.isAgg163
 z49:=Tryz.sizeOf163
 v49:=Tryz.zeroValue163
 t51:=Tryz.underlying132
 a51:=Tryz.isAgg132
 z51:=Tryz.sizeOf132
 v51:=Tryz.zeroValue132
 t119:=Tryz.underlying113
 a119:=Tryz.isAgg113
 z119:=Tryz.sizeOf113
 t141:=Tryz.underlying134
 a141:=Tryz.isAgg134
 z141:=Tryz.sizeOf134
 v141:=Tryz.zeroValue134
 t152:=Tryz.underlying129
 a152:=Tryz.isAgg129
 z152:=Tryz.sizeOf129
 v152:=Tryz.zeroValue129
 t154:=Tryz.underlying131
 a154:=Tryz.isAgg131
 z154:=Tryz.sizeOf131
 v154:=Tryz.zeroValue131
 t193:=Tryz.underlying159
 a193:=Tryz.isAgg159
 z193:=Tryz.sizeOf159
 v193:=Tryz.zeroValue159
 t194:=Tryz.underlying160
 a194:=Tryz.isAgg160
 z194:=Tryz.sizeOf160
 v194:=Tryz.zeroValue160
 t196:=Tryz.underlying162
 a196:=Tryz.isAgg162
 z196:=Tryz.sizeOf162
 v196:=Tryz.zeroValue162
 t198:=Tryz.underlying165
 a198:=Tryz.isAgg165
 z198:=Tryz.sizeOf165
 v198:=Tryz.zeroValue165
 t201:=Tryz.underlying168
 a201:=Tryz.isAgg168
 z201:=Tryz.sizeOf168
 v201:=Tryz.zeroValue168
 t226:=Tryz.underlying183
 a226:=Tryz.isAgg183
 z226:=Tryz.sizeOf183
 v226:=Tryz.zeroValue183
 t227:=Tryz.underlying184
 a227:=Tryz.isAgg184
 z227:=Tryz.sizeOf184
 v227:=Tryz.zeroValue184
 g0:= ay
 g6:=by kernel_rfl}
end Go.Proofs
namespace Go.Keys
def zD:Bytes:=[101,110,116,101,114,32,116,97,98,32,98,97,99,107,115,112,97,99,101,32,101,115,99,97,112,101,32,117,112,32,100,111,119,110,32,114,105,103,104,116,32,108,101,102,116,32,104,111,109,101,32,101,110,100,32,105,110,115,101,114,116,32,100,101,108,101,116,101,32,112,97,103,101,117,112,32,112,97,103,101,100,111,119,110]
def q1:List Bytes:=[[101,110,116,101,114],[116,97,98],[98,97,99,107,115,112,97,99,101],[101,115,99,97,112,101],[117,112],[100,111,119,110],[114,105,103,104,116],[108,101,102,116],[104,111,109,101],[101,110,100],[105,110,115,101,114,116],[100,101,108,101,116,101],[112,97,103,101,117,112],[112,97,103,101,100,111,119,110]]
end Go.Keys
namespace Go.Proofs.YtddnafghiejcoaaGreatDoor
open Go.cf Go.Keys Go.RowKit
set_option maxRecDepth 1000000
theorem afx:Lib.fields zD=q1:=by decide+kernel
theorem RM(φ:Map):∀l:List Bytes,bz φ (flat (l.map aa.str)) (l.map fun l=>Value.string ⟨l.toArray⟩)
 |[]=>by simp [flat,bz]
 |a::r=>by have:=RM φ r;simp only [List.map_cons,flat,List.flatMap_cons,aa.cells,List.cons_append,List.nil_append,bz];exact⟨_,_,rfl,by simp only [aL];exact⟨_,rfl,rfl⟩,this⟩
def ij:af:=af.an (q1.map aa.str) 1 true
theorem J0(H:J):bS 50 [.str zD] H (.slice (some ⟨H.U,0,0,0,1⟩) 14 14) ((⟨H.U+1,H.aH⟩:J).set H.U ij):=by
 intro be bo db fm φ w dk ed cH ea;obtain⟨l⟩:=dk;simp only [bz]at ea;obtain⟨x,t,rfl,aj,rfl⟩:=ea;simp only [aL]at aj;obtain⟨u,rfl,hu⟩:=aj;have Dk:=fm.keep cH (fun _ h=>h);have iG:fu be w.heap.size:=db.le cH.size
 have hid:∀v,φ H.U v=none:=by
  intro v;cases aB:φ H.U v with
  |none=>rfl
  |some p=>have:=(ed.dD _ _ _ aB).1;omega
 refine⟨⟨Tryz.f50,_,Tryz.func50,rfl⟩,?_⟩
 have k:=Any.strings_Fields Tryz.afw ay ay u w (by rw [show u.size=u.data.toList.length from Array.length_toList.symm,hu];decide) (by
  rw [hu];intro j b ax;have hm:=List.mem_of_getElem? ax
  exact of_decide_eq_true (List.all_eq_true.1 (show zD.all (fun b=>decide (b.toNat<128))=true by decide+kernel) b hm)) Dk.FU
 rw [hu,afx]at k;refine Calls.mono k fun e bq ⟨he,hw⟩=> ?_
 subst he hw;have gI:(q1.map fun l=>Value.string ⟨l.toArray⟩).length=14:=rfl;refine⟨_,φ.add H.U 0 ⟨w.heap.size,0,0,1,14,true,false⟩,rfl,?_,aL.kb (nid:=H.U) (b:=w.heap.size) (es:=1) (len:=14) (cap:=14) (tot:=14) (ex:=true) (di:=14) aS aS aS (fun _=>rfl),?_,cH.alloc iG _,by show H.U≤H.U+1;omega⟩
 ·refine⟨φ.rc _ (hid 0),fun i aq aR v=> ?_,fun i v p ah bc=> ?_⟩
  ·unfold Map.add;rw [if_neg ab];exact aR v
  ·unfold Map.add at ah;split at ah
   ·simp at ah;subst ah;cases bc
   ·exact ah
 ·have nY:bz (φ) (flat (q1.map aa.str)) ((q1.map fun l=>Value.string ⟨l.toArray⟩).toArray.toList.take ((q1.map aa.str).length*1)):=by rw [List.take_of_length_le aS];exact RM φ q1
  refine(ed.U (n:=H.U+1) ab).an hid (by show H.U<H.U+1;omega) iG Nat.one_pos (by intro e he;obtain⟨q,_,rfl⟩:=List.mem_map.1 he;rfl) nY (by simp [gI,q1]) aS (by
   intro x aj;have aj:=List.mem_of_mem_take aj;simp only [List.mem_map]at aj;obtain⟨q,_,rfl⟩:=aj
   rfl) nofun
end Go.Proofs.YtddnafghiejcoaaGreatDoor
namespace Go.Proofs.YtddnafghiejcoaaGreatDoor
open Go.cf Go.Keys Go.Lib
set_option maxRecDepth 1000000
def we(n:Nat):Bytes:=if n<10 then [u8 (48+n)]else [49,u8 (38+n)]
theorem afy:∀n:Fin 12,(match n6 Tryz.prog env 60 49 [.int .i64 ((n.val+1:Nat):Int)] ⟨0,.nil⟩with|some (.str s,_)=>decide (s=we (n.val+1))|_=>false)=true:=by decide+kernel
theorem afz{k:Nat}(ac:21≤k)(ai:k≤32):102::we (k-20)=sw k:=by
 rw [JZ ai];unfold zC we;rw [if_pos ac];by_cases h:k<30
 ·rw [if_pos h,if_pos ab,show 48+(k-20)=28+k by omega]
 ·rw [if_neg h,if_neg ab,show 38+(k-20)=18+k by omega]
theorem afA{n:Nat}(ac:1≤n)(ai:n≤12)(H:J):bS 49 [.int .i64 (n:Nat)] H (.str (we n)) H:=by
 have h:=afy ⟨n-1,ab⟩;rw [show n-1+1=n by omega]at h;split at h
 ·rename_i s ag bc;rw [xu]at bc;have hs:=of_decide_eq_true h;subst hs;exact b1.eT ⟨_,_,b1.uR eN mixed bc,rfl⟩ rfl rfl H
 ·cases h
theorem afB:∀n:Fin 8,bp .u8 (n.val:Int) 4=0↔ ¬n.val/4%2=1:=by decide+kernel
theorem afC:∀n:Fin 8,bp .u8 (n.val:Int) 2=0↔ ¬n.val/2%2=1:=by decide+kernel
theorem afD:∀n:Fin 8,bp .u8 (n.val:Int) 1=0↔ ¬n.val%2=1:=by decide+kernel
theorem Dl{h:J}{x:Nat}{k c m y z:Int}{t:Bytes}(e:h.get x=some (cz (bB k c m y z t))):bM (bY.D env) 5 ⟨x,0,0,2,6⟩ h=some (.int .u8 m):=by have bZ:(bY.D env 5).map (fun d=>d.kind.isAgg)=some false:= ay;obtain⟨x,ac,ai⟩:=Option.map_eq_some_iff.1 bZ;unfold bM;rw [ac,e];simp [af.elem?,af.cC,hZ,ai,af.an]
theorem q2{h:J}{x:Nat}{k c m y z:Int}{t:Bytes}(e:h.get x=some (cz (bB k c m y z t))):bM (bY.D env) 40 ⟨x,0,0,0,6⟩ h=some (.int .i8 k):=by have bZ:(bY.D env 40).map (fun d=>d.kind.isAgg)=some false:= ay;obtain⟨x,ac,ai⟩:=Option.map_eq_some_iff.1 bZ;unfold bM;rw [ac,e];simp [af.elem?,af.cC,hZ,ai,af.an]
theorem wg{h:J}{x:Nat}{k c m y z:Int}{t:Bytes}(e:h.get x=some (cz (bB k c m y z t))):bM (bY.D env) 21 ⟨x,0,0,1,6⟩ h=some (.int .i32 c):=by have bZ:(bY.D env 21).map (fun d=>d.kind.isAgg)=some false:= ay;obtain⟨x,ac,ai⟩:=Option.map_eq_some_iff.1 bZ;unfold bM;rw [ac,e];simp [af.elem?,af.cC,hZ,ai,af.an]
abbrev kl(p:Nat)(s:Bytes)(i:Int):bJ:=[(1,.ptr (some ⟨p,0,0,0,6⟩)),(6,.str s),(26,iU),(27,.int .i64 i)]
theorem RN{H:J}{B p m:Nat}{k c y z:Int}{t:Bytes}(cH:B≤H.U)(ah:p<H.U)(hm:m≤7)(ak:H.get p=some (cz (bB k c m y z t))) :
 ∃q,dc B 89 (.loop (cs 23 0)) (kl p [] 0) H (.exit 0) (kl p (ii m) 3) ⟨H.U+q,H.aH⟩:=by
 have cc:=afB ⟨m,ab⟩;have bu:=afC ⟨m,ab⟩;have bi:=afD ⟨m,ab⟩;simp only at cc bu bi;have iJ:∀j,bM (bY.D env) 5 ⟨p,0,0,2,6⟩ ⟨H.U+j,H.aH⟩=some (.int .u8 m):=fun j=>Dl (h:=⟨H.U+j,H.aH⟩) ak
 have h8:∃q,dc B 89 (cs 23 0) (kl p [] 0) H .normal (kl p (if m/4%2=1 then e5 else []) 1) ⟨H.U+q,H.aH⟩:=by
  by_cases h:m/4%2=1
  ·rw [if_pos h]
   obtain⟨e,aU,ac,bc,rfl,rfl,rfl⟩:=RF H B p [] m (fun e aU ac=>e=.normal∧aU=kl p e5 1∧ac=⟨H.U+17,H.aH⟩)
    (aY cH (aY ab (aY ab ⟨iJ 11,ab,trivial,fun q=>absurd h (cc.1 q),fun _=>aY ab ⟨by show 0+5+1≤2^62;omega,aY ab ⟨rfl,rfl,rfl⟩⟩⟩)))
   exact⟨17,bc⟩
  ·rw [if_neg h]
   obtain⟨e,aU,ac,bc,rfl,rfl,rfl⟩:=RF H B p [] m (fun e aU ac=>e=.normal∧aU=kl p [] 1∧ac=⟨H.U+13,H.aH⟩)
    (aY cH (aY ab (aY ab ⟨iJ 11,ab,trivial,fun _=>aY ab ⟨rfl,rfl,rfl⟩,fun q=>absurd (cc.2 h) q⟩)))
   exact⟨13,bc⟩
 have s1:∀(j:Nat)(s:Bytes),s.length≤20→ ∃q,dc B 89 (cs 23 0) (kl p s 1) ⟨H.U+j,H.aH⟩ .normal (kl p (s++if m/2%2=1 then eU else []) 2) ⟨H.U+j+q,H.aH⟩:=by
  intro j s hs;by_cases h:m/2%2=1
  ·rw [if_pos h]
   obtain⟨e,aU,ac,bc,rfl,rfl,rfl⟩:=RG ⟨H.U+j,H.aH⟩ B p s m (fun e aU ac=>e=.normal∧aU=kl p (s++eU) 2∧ac=⟨H.U+j+17,H.aH⟩)
    (aY (by show B≤H.U+j;omega) (aY (by show B≤H.U+j+1;omega) (aY (by show B≤H.U+j+5;omega) ⟨iJ (j+11),by show p<H.U+j+5;omega,trivial,fun q=>absurd h (bu.1 q),fun _=>aY (by show B≤H.U+j+11;omega) ⟨by show s.length+4+1≤2^62;omega,aY (by show B≤H.U+j+15;omega) ⟨rfl,rfl,rfl⟩⟩⟩)))
   exact⟨17,bc⟩
  ·rw [if_neg h,List.append_nil]
   obtain⟨e,aU,ac,bc,rfl,rfl,rfl⟩:=RG ⟨H.U+j,H.aH⟩ B p s m (fun e aU ac=>e=.normal∧aU=kl p s 2∧ac=⟨H.U+j+13,H.aH⟩)
    (aY (by show B≤H.U+j;omega) (aY (by show B≤H.U+j+1;omega) (aY (by show B≤H.U+j+5;omega) ⟨iJ (j+11),by show p<H.U+j+5;omega,trivial,fun _=>aY (by show B≤H.U+j+11;omega) ⟨rfl,rfl,rfl⟩,fun q=>absurd (bu.2 h) q⟩)))
   exact⟨13,bc⟩
 have s2:∀(j:Nat)(s:Bytes),s.length≤20→ ∃q,dc B 89 (cs 23 0) (kl p s 2) ⟨H.U+j,H.aH⟩ .normal (kl p (s++if m%2=1 then fe else []) 3) ⟨H.U+j+q,H.aH⟩:=by
  intro j s hs;by_cases h:m%2=1
  ·rw [if_pos h]
   obtain⟨e,aU,ac,bc,rfl,rfl,rfl⟩:=RH ⟨H.U+j,H.aH⟩ B p s m (fun e aU ac=>e=.normal∧aU=kl p (s++fe) 3∧ac=⟨H.U+j+17,H.aH⟩)
    (aY (by show B≤H.U+j;omega) (aY (by show B≤H.U+j+1;omega) (aY (by show B≤H.U+j+5;omega) ⟨iJ (j+11),by show p<H.U+j+5;omega,trivial,fun q=>absurd h (bi.1 q),fun _=>aY (by show B≤H.U+j+11;omega) ⟨by show s.length+6+1≤2^62;omega,aY (by show B≤H.U+j+15;omega) ⟨rfl,rfl,rfl⟩⟩⟩)))
   exact⟨17,bc⟩
  ·rw [if_neg h,List.append_nil]
   obtain⟨e,aU,ac,bc,rfl,rfl,rfl⟩:=RH ⟨H.U+j,H.aH⟩ B p s m (fun e aU ac=>e=.normal∧aU=kl p s 3∧ac=⟨H.U+j+13,H.aH⟩)
    (aY (by show B≤H.U+j;omega) (aY (by show B≤H.U+j+1;omega) (aY (by show B≤H.U+j+5;omega) ⟨iJ (j+11),by show p<H.U+j+5;omega,trivial,fun _=>aY (by show B≤H.U+j+11;omega) ⟨rfl,rfl,rfl⟩,fun q=>absurd (bi.2 h) q⟩)))
   exact⟨13,bc⟩
 have Rp:∀(j:Nat)(s:Bytes),dc B 89 (cs 23 0) (kl p s 3) ⟨H.U+j,H.aH⟩ (.exit 0) (kl p s 3) ⟨H.U+j+1,H.aH⟩:=by intro j s;obtain⟨e,aU,ac,bc,rfl,rfl,rfl⟩:=afh ⟨H.U+j,H.aH⟩ B p s (fun e aU ac=>e=.exit 0∧aU=kl p s 3∧ac=⟨H.U+j+1,H.aH⟩) (aY (by show B≤H.U+j;omega) ⟨rfl,rfl,rfl⟩);exact bc
 obtain⟨zy,iB⟩:=h8;obtain⟨dh,e8⟩:=s1 zy (if m/4%2=1 then e5 else []) (by split<;>decide);obtain⟨du,il⟩:=s2 (zy+dh) ((if m/4%2=1 then e5 else [])++if m/2%2=1 then eU else []) (by split<;>split<;>decide);have my:=Rp (zy+dh+du) (((if m/4%2=1 then e5 else [])++if m/2%2=1 then eU else [])++if m%2=1 then fe else []);have em:((if m/4%2=1 then e5 else [])++if m/2%2=1 then eU else [])++(if m%2=1 then fe else [])=ii m:=List.append_assoc _ _ _;rw [em]at il my;simp only [Nat.add_assoc]at e8 il my;exact⟨_,fw.hQ (dK.step iB (dK.step e8 (dK.step il (dK.last aM my))))⟩
def iY(e:bl):aa:=match iV e with|some s=> .tuple [.str s,.int .i64 0]|none=> .tuple [.str [],.int .i64 220]
theorem RO{F:bJ}{v:bl}{nid:Nat}{H:J}(h:bD F (.tmp 0)=cB v):bN env dF nid (bD F) H (Op.box 42 (Operand.tmp 0))=some (.ptr (some ⟨nid,0,0,0,6⟩),H.set nid (cz (cB v))):=by
 have ax:∀(K:J)(y:Nat)(k c m x z:Int)(t:Bytes),bN env dF y (bD [(0,bB k c m x z t)]) K (Op.box 42 (Operand.tmp 0))=some (.ptr (some ⟨y,0,0,0,6⟩),K.set y (cz (bB k c m x z t))):=by intro K y k c m x z t;kernel_rfl
 have aw:bN env dF nid (bD F) H (Op.box 42 (Operand.tmp 0))=bN env dF nid (bD [(0,cB v)]) H (Op.box 42 (Operand.tmp 0)):=EQ (by
  intro x aj;simp only [Op.operands,List.mem_cons,List.not_mem_nil,or_false]at aj;subst aj
  exact h)
 rw [aw];exact ax _ _ _ _ _ _ _ _
theorem afE{k:Nat}(h:(1≤k∧k≤14)∨(21≤k∧k≤32)):(-2147483648≤(k:Int)-1∧(k:Int)-1≤2147483647)∧(¬21≤(k:Int)→0≤(k:Int)-1∧(k:Int)-1<14):= ab
theorem RP{i:Nat}(aq:i<14):ij.elem? 0 i=some (.str (jM.getD i [])):=by have:i=0∨i=1∨i=2∨i=3∨i=4∨i=5∨i=6∨i=7∨i=8∨i=9∨i=10∨i=11∨i=12∨i=13:= ab;rcases this with rfl|rfl|rfl|rfl|rfl|rfl|rfl|rfl|rfl|rfl|rfl|rfl|rfl|rfl<;>rfl
theorem afF{e:bl}(bf:0≤e.df)(H:J):∃v aQ,bS 23 [cB e] H v aQ∧v=iY e:=by
 have fb:∀{a b:Nat}{p:Prop},a≤b→p→_root_.cond (Nat.ble a b) p False:=fun h k=>by rw [Nat.ble_eq.mpr h];exact k
 obtain⟨cT,sx⟩:∃K,K=(⟨H.U+3,H.aH⟩:J).set H.U (cz (cB e)):=⟨_,rfl⟩
 have mW:cT.U=H.U+3:=by rw [sx];rfl
 have RQ:cT.get H.U=some (cz (cB e)):=by rw [sx];exact J.gE _ _ _
 have dq:∀{F:bJ},bD F (.tmp 0)=cB e→bN env dF (H.U+0) (bD F) ⟨H.U+3,H.aH⟩ (Op.box 42 (Operand.tmp 0))=some (.ptr (some ⟨H.U,0,0,0,6⟩),cT):=fun h=>by rw [sx];exact RO h
 obtain⟨w,c,H1,aE,lg,jD,aB⟩:=RC ⟨cT.U+7,cT.aH⟩ bf;have lg:cT.U+7≤H1.U:=lg;have hT:H1.get H.U=some (cz (cB e)):=(jD _ (by show H.U<cT.U+7;omega)).trans RQ;have j7:bM (bY.D env) 42 ⟨H.U,0,0,0,6⟩ ⟨cT.U+7,cT.aH⟩=some (cB e):=zw (h:=⟨cT.U+7,cT.aH⟩) RQ;have g1:∀j,(⟨H1.U+j,H1.aH⟩:J).get H.U=some (cz (cB e)):=fun j=>hT
 rcases aB with ⟨bs,j,j',rfl,xY,a1⟩|⟨j',rfl,rfl⟩
 ·obtain ⟨b,rfl,_⟩:=id xY.ex;by_cases aK:e.kind=1
  ·
    obtain⟨r,m,rfl,hm,gA⟩:=JY bf j' aK;have hs:Keys.Scalar r:=by have:=(pF gA).1;simpa using this
    obtain⟨q,aC⟩:=RN (B:=H.U) (H:=⟨H1.U+15,H1.aH⟩) (p:=H.U) (by show H.U≤H1.U+15;omega) (by show H.U<H1.U+15;omega) hm (g1 15)
    have An:(ii m).length≤15:=by unfold ii e5 eU fe;simp only [List.length_append];split<;>split<;>split<;>simp
    have g2:∀j,(⟨H1.U+15+q+j,H1.aH⟩:J).get H.U=some (cz (cB ⟨1,r,m,0,0,[]⟩)):=fun j=>hT
    obtain⟨aX,kk⟩:∃K,K=(⟨H1.U+15+q+29,H1.aH⟩:J).set (H1.U+15+q+24) (kK r):=⟨_,rfl⟩
    have I6:∀{F:bJ},bD F (.tmp 85)=.int .i32 (r:Nat)→bN env dF (H1.U+15+q+24) (bD F) ⟨H1.U+15+q+29,H1.aH⟩ (Op.buildSlice 84 1 {toList:=[(0,Operand.tmp 85)]})=some (aa.slice (some ⟨H1.U+15+q+24,0,0,0,1⟩) 1 1,aX):=by
     intro F fx;have ax:∀(K:J)(y:Nat)(z:Int),oL (bY.D env) 84 1 [(0,.int .i32 z)] y K=some (.slice (some ⟨y,0,0,0,1⟩) 1 1,K.set y (af.an [.int .i32 z] 1 true)):=by intro K y z;kernel_rfl
     show oL (bY.D env) 84 1 [(0,bD F (.tmp 85))] _ _=_;rw [fx,kk];exact ax _ _ _
    have afG:=Q2 (H:=aX) (q:=H1.U+15+q+24) hs (by rw [kk];exact J.gE _ _ _) (by rw [kk];show H1.U+15+q+24<H1.U+15+q+29;omega);have iR:aX.U=H1.U+15+q+29:=by rw [kk];rfl
    have p3:(put r).length≤4:=by
     rw [put_eq hs]
     repeat' split
     all_goals simp
    obtain ⟨v,aQ,gk,rfl⟩:=afl H.U H cT H1 ⟨H1.U+15+q,H1.aH⟩ aX aX r m ⟨j,b.ad,0,0,1⟩ bs.length (H1.U+15+q+24) (ii m) (put r) (fun v _=>v=iY ⟨1,r,m,0,0,[]⟩)
     (aY (Nat.le_refl _) ⟨dq rfl,aY ab ⟨j7,⟨aE⟩,aY ab ⟨q2 (g1 12),aY ab (aY ab ⟨aC,aY (by show H.U≤H1.U+15+q;omega) ⟨q2 (g2 9),aY (by show H.U≤H1.U+15+q+9;omega) ⟨q2 (g2 13),aY (by show H.U≤H1.U+15+q+13;omega) ⟨wg (g2 17),
      fun afH=>aY (by show H.U≤H1.U+15+q+17;omega) ⟨by show(ii m).length+5+1≤2^62;omega,fb (by show H.U≤H1.U+15+q+21;omega) (by unfold iY;rw [zB j'];unfold l0;rw [if_pos ab];rfl)⟩,
      fun afH=>aY (by show H.U≤H1.U+15+q+17;omega) ⟨wg (g2 21),
       fun afI=>aY (by show H.U≤H1.U+15+q+21;omega) ⟨by show(ii m).length+4+1≤2^62;omega,fb (by show H.U≤H1.U+15+q+25;omega) (by unfold iY;rw [zB j'];unfold l0;rw [if_neg ab,if_pos ab];rfl)⟩,
       fun afI=>aY (by show H.U≤H1.U+15+q+21;omega) ⟨wg (g2 29),I6 rfl,⟨afG⟩,by show(ii m).length+(put r).length+1≤2^62;omega,fb ab (by unfold iY;rw [zB j'];unfold l0;rw [if_neg ab,if_neg ab])⟩⟩⟩⟩⟩⟩)⟩⟩⟩)
    exact⟨_,aQ,gk,rfl⟩
  ·by_cases aP:e.kind=2
   ·
     obtain⟨k,m,rfl,hm,au⟩:=JX bf j' aP;obtain⟨q,aC⟩:=RN (B:=H.U) (H:=⟨H1.U+15,H1.aH⟩) (p:=H.U) (by show H.U≤H1.U+15;omega) (by show H.U<H1.U+15;omega) hm (g1 15)
     have An:(ii m).length≤15:=by unfold ii e5 eU fe;simp only [List.length_append];split<;>split<;>split<;>simp
     have g2:∀j,(⟨H1.U+15+q+j,H1.aH⟩:J).get H.U=some (cz (cB ⟨2,k,m,0,0,[]⟩)):=fun j=>hT
     have p1:=J0 ⟨H1.U+15+q+23,H1.aH⟩;obtain⟨aX,kk⟩:∃K,K=(⟨H1.U+15+q+23+1,H1.aH⟩:J).set (H1.U+15+q+23) ij:=⟨_,rfl⟩
     have p1:bS 50 [.str zD] ⟨H1.U+15+q+23,H1.aH⟩ (.slice (some ⟨H1.U+15+q+23,0,0,0,1⟩) 14 14) aX:=by rw [kk];exact p1
     have ou:aX.get H.U=some (cz (cB ⟨2,k,m,0,0,[]⟩)):=by rw [kk,J.fg _ _ ab];exact hT
     have iR:aX.U=H1.U+15+q+24:=by rw [kk];rfl
     have afJ:∀i,i<14→bM (bY.D env) 9 ⟨H1.U+15+q+23,0,0+i,0,1⟩ aX=some (.str (jM.getD i [])):=by
      intro i aq;have bZ:(bY.D env 9).map (fun d=>d.kind.isAgg)=some false:= ay;obtain⟨x,ac,ai⟩:=Option.map_eq_some_iff.1 bZ;have ak:aX.get (H1.U+15+q+23)=some ij:=by rw [kk];exact J.gE _ _ _
      have fO:ij.elem? 0 (0+i)=some (.str (jM.getD i [])):=by rw [Nat.zero_add];exact RP aq
      unfold bM;rw [ac,ak];simp only [fO,hZ,ai];simp
     have afK:21≤k→ ∃u,bS 49 [.int .i64 ((k:Int)-21+1)] ⟨H1.U+15+q+20,H1.aH⟩ (.str u) ⟨H1.U+15+q+20,H1.aH⟩∧102::u=sw k∧u.length≤2:=by
      intro qU;refine⟨we (k-20),?_,afz qU ab,by unfold we;split<;>simp⟩;have:=afA (n:=k-20) ab ab ⟨H1.U+15+q+20,H1.aH⟩
      rwa [show((k-20:Nat):Int)=(k:Int)-21+1 by omega]at this
     have ah5:(jM.getD (k-1) []).length≤9:=by have:∀i:Fin 40,(jM.getD i.val []).length≤9:= aS;exact this ⟨k-1,ab⟩
     obtain⟨u,hu⟩:∃u,21≤k→bS 49 [.int .i64 ((k:Int)-21+1)] ⟨H1.U+15+q+20,H1.aH⟩ (.str u) ⟨H1.U+15+q+20,H1.aH⟩∧102::u=sw k∧u.length≤2:=by
      by_cases qU:21≤k
      ·obtain⟨u,hu⟩:=afK qU;exact⟨u,fun _=>hu⟩
      ·exact⟨[],fun h=>absurd h qU⟩
     obtain⟨a',bP⟩:=afE au
     obtain ⟨v,aQ,gk,rfl⟩:=afk H.U H cT H1 ⟨H1.U+15+q,H1.aH⟩ aX ⟨H1.U+15+q+20,H1.aH⟩ k m ⟨j,b.ad,0,0,1⟩ bs.length (H1.U+15+q+23) (ii m) (jM.getD (k-1) []) u (fun v _=>v=iY ⟨2,k,m,0,0,[]⟩)
      (aY (Nat.le_refl _) ⟨dq rfl,aY ab ⟨j7,⟨aE⟩,aY ab ⟨q2 (g1 12),q2 (g1 12),aY ab (aY ab ⟨aC,aY (by show H.U≤H1.U+15+q;omega) ⟨q2 (g2 9),wg (g2 9),
       fun qU=>aY (by show H.U≤H1.U+15+q+9;omega) ⟨by show(ii m).length+1+1≤2^62;omega,wg (g2 20),ab,ab,ab,⟨(hu ab).1⟩,by
        have:=(hu ab).2.2;show(ii m++[102]).length+u.length+1≤2^62
        rw [List.length_append];show(ii m).length+1+u.length+1≤2^62;omega,fb (by show H.U≤H1.U+15+q+20;omega) (by
        unfold iY;rw [Di j',← (hu ab).2.1,List.append_assoc];rfl)⟩,
       fun qU=>aY (by show H.U≤H1.U+15+q+9;omega) ⟨q2 (g2 13),aY (by show H.U≤H1.U+15+q+13;omega) ⟨⟨p1⟩,EO (fun i aq=>by
           have aq:i<H1.U+15+q+23:=aq
           rw [kk,J.fg _ _ ab];rfl),wg ou,by show H.U<H1.U+15+q+13;omega,a',bP qU,by
        have:=afJ (k-1) ab
        rwa [show Int.toNat ((k:Int)-1)=k-1 by omega],by show(ii m).length+(jM.getD (k-1) []).length+1≤2^62;omega,fb ab (by
        unfold iY;rw [Di j'];unfold sw;rw [if_neg ab])⟩⟩⟩⟩)⟩⟩⟩)
     exact⟨_,aQ,gk,rfl⟩
   ·have ah6:¬e.kind=1:=aK
    obtain⟨v,aQ,gk,rfl⟩:=afj H.U H cT H1 e.kind e.code e.df e.x e.y e.text ⟨j,b.ad,0,0,1⟩ bs.length (fun v _=>v=iY e)
     (aY (Nat.le_refl _) ⟨dq rfl,aY ab ⟨j7,⟨aE⟩,aY ab ⟨q2 (g1 12),fun q=>absurd q aK,fun _=>⟨q2 (g1 12),fun q=>absurd q aP,fun _=>⟨rfl,aY ab (fb ab (by unfold iY;rw [afo aK aP]))⟩⟩⟩⟩⟩)
    exact⟨_,aQ,gk,rfl⟩
 ·obtain⟨v,aQ,gk,rfl⟩:=afi H.U H cT H1 e.kind e.code e.df e.x e.y e.text (fun v _=>v=iY e)
   (aY (Nat.le_refl _) ⟨dq rfl,aY ab ⟨j7,⟨aE⟩,aY ab (aY ab (fb ab (by unfold iY;rw [afn j'])))⟩⟩)
  exact⟨_,aQ,gk,rfl⟩
theorem afL(e:bl):(iY e).mo=true:=by unfold iY;split<;>rfl
theorem J1{e:bl}(bf:0≤e.df)(H:J):bS 23 [cB e] H (iY e) H:=by obtain⟨v,aQ,aE,rfl⟩:=afF bf ⟨0,.nil⟩;exact b1.eT ⟨_,_,aE,rfl⟩ rfl (afL e) H
end Go.Proofs.YtddnafghiejcoaaGreatDoor
namespace Go.Proofs
open Go.Shelf
def Tryz.Dm:Go.Shelf.Ren:=⟨fun|172=>55|244=>84|245=>85|247=>100|279=>101|280=>102|281=>103|282=>104|287=>125|316=>126|171=>49|205=>127|321=>140|322=>141|243=>75|246=>96|283=>119|284=>120|285=>121|286=>122|129=>136|317=>135|318=>137|319=>138|320=>139|337=>151|338=>152|n=>n,fun|9=>9|3=>3|75=>89|76=>90|4=>4|5=>5|167=>137|37=>34|0=>0|85=>138|2=>2|168=>140|53=>151|175=>170|46=>108|210=>173|127=>186|145=>189|143=>187|21=>21|171=>154|173=>157|212=>179|51=>132|20=>20|213=>180|232=>203|233=>204|80=>212|n=>n,fun|15=>3|16=>4|17=>5|18=>6|19=>7|n=>n⟩
theorem Tryz.J2:Go.Proofs.LaysC.n172 Tryz.prog Tryz.Dm:= {
 mixed:= ay
 f129:=Tryz.func136.trans (congrArg some ay)
 f171:=Tryz.func49.trans (congrArg some ay)
 f172:=Tryz.func55.trans (congrArg some ay)
 f205:=Tryz.func127.trans (congrArg some ay)
 f243:=Tryz.func75.trans (congrArg some ay)
 f244:=Tryz.func84.trans (congrArg some ay)
 f245:=Tryz.func85.trans (congrArg some ay)
 f246:=Tryz.func96.trans (congrArg some ay)
 f247:=Tryz.func100.trans (congrArg some ay)
 f279:=Tryz.func101.trans (congrArg some ay)
 f280:=Tryz.func102.trans (congrArg some ay)
 f281:=Tryz.func103.trans (congrArg some ay)
 f282:=Tryz.func104.trans (congrArg some ay)
 f283:=Tryz.func119.trans (congrArg some ay)
 f284:=Tryz.func120.trans (congrArg some ay)
 f285:=Tryz.func121.trans (congrArg some ay)
 f286:=Tryz.func122.trans (congrArg some ay)
 f287:=Tryz.func125.trans (congrArg some ay)
 f316:=Tryz.func126.trans (congrArg some ay)
 f317:=Tryz.func135.trans (congrArg some ay)
 f318:=Tryz.func137.trans (congrArg some ay)
 f319:=Tryz.func138.trans (congrArg some ay)
 f320:=Tryz.func139.trans (congrArg some ay)
 f321:=Tryz.func140.trans (congrArg some ay)
 f322:=Tryz.func141.trans (congrArg some ay)
 f337:=Tryz.func151.trans (congrArg some ay)
 f338:=Tryz.func152.trans (congrArg some ay)
 t0:=Tryz.underlying0
 a0:=Tryz.isAgg0
 z0:=Tryz.sizeOf0
 v0:=Tryz.zeroValue0
 t2:=Tryz.underlying2
 a2:=Tryz.isAgg2
 z2:=Tryz.sizeOf2
 v2:=Tryz.zeroValue2
 t3:=Tryz.underlying3
 a3:=Tryz.isAgg3
 z3:=Tryz.sizeOf3
 v3:=Tryz.zeroValue3
 t4:=Tryz.underlying4
 a4:=Tryz.isAgg4
 z4:=Tryz.sizeOf4
 v4:=Tryz.zeroValue4
 t5:=Tryz.underlying5
 a5:=Tryz.isAgg5
 z5:=Tryz.sizeOf5
 v5:=Tryz.zeroValue5
 t9:=Tryz.underlying9
 a9:=Tryz.isAgg9
 z9:=Tryz.sizeOf9
 v9:=Tryz.zeroValue9
 t20:=Tryz.underlying20
 a20:=Tryz.isAgg20
 z20:=Tryz.sizeOf20
 v20:=Tryz.zeroValue20
 t21:=Tryz.underlying21
 a21:=Tryz.isAgg21
 z21:=Tryz.sizeOf21
 v21:=Tryz.zeroValue21
 t37:=Tryz.underlying34
 a37:=Tryz.isAgg34
 z37:=Tryz.sizeOf34
 v37:=Tryz.zeroValue34
 t46:=Tryz.underlying108
 a46:=Tryz.isAgg108
 z46:=Tryz.sizeOf108
 v46:=Tryz.zeroValue108
 t51:=Tryz.underlying132
 a51:=Tryz.isAgg132
 z51:=Tryz.sizeOf132
 v51:=Tryz.zeroValue132
 t53:=Tryz.underlying151
 a53:=Tryz.isAgg151
 z53:=Tryz.sizeOf151
 v53:=Tryz.zeroValue151
 t75:=Tryz.underlying89
 a75:=Tryz.isAgg89
 z75:=Tryz.sizeOf89
 v75:=Tryz.zeroValue89
 t76:=Tryz.underlying90
 a76:=Tryz.isAgg90
 z76:=Tryz.sizeOf90
 v76:=Tryz.zeroValue90
 t85:=Tryz.underlying138
 a85:=Tryz.isAgg138
 z85:=Tryz.sizeOf138
 v85:=Tryz.zeroValue138
 t127:=Tryz.underlying186
 a127:=Tryz.isAgg186
 z127:=Tryz.sizeOf186
 v127:=Tryz.zeroValue186
 t143:=Tryz.underlying187
 a143:=Tryz.isAgg187
 z143:=Tryz.sizeOf187
 v143:=Tryz.zeroValue187
 t145:=Tryz.underlying189
 a145:=Tryz.isAgg189
 z145:=Tryz.sizeOf189
 v145:=Tryz.zeroValue189
 t167:=Tryz.underlying137
 a167:=Tryz.isAgg137
 z167:=Tryz.sizeOf137
 v167:=Tryz.zeroValue137
 t168:=Tryz.underlying140
 a168:=Tryz.isAgg140
 z168:=Tryz.sizeOf140
 v168:=Tryz.zeroValue140
 t171:=Tryz.underlying154
 a171:=Tryz.isAgg154
 z171:=Tryz.sizeOf154
 v171:=Tryz.zeroValue154
 t173:=Tryz.underlying157
 a173:=Tryz.isAgg157
 z173:=Tryz.sizeOf157
 v173:=Tryz.zeroValue157
 t175:=Tryz.underlying170
 a175:=Tryz.isAgg170
 z175:=Tryz.sizeOf170
 v175:=Tryz.zeroValue170
 t210:=Tryz.underlying173
 a210:=Tryz.isAgg173
 z210:=Tryz.sizeOf173
 v210:=Tryz.zeroValue173
 t212:=Tryz.underlying179
 a212:=Tryz.isAgg179
 z212:=Tryz.sizeOf179
 v212:=Tryz.zeroValue179
 t213:=Tryz.underlying180
 a213:=Tryz.isAgg180
 z213:=Tryz.sizeOf180
 t232:=Tryz.underlying203
 a232:=Tryz.isAgg203
 z232:=Tryz.sizeOf203
 v232:=Tryz.zeroValue203
 t233:=Tryz.underlying204
 a233:=Tryz.isAgg204
 z233:=Tryz.sizeOf204
 v233:=Tryz.zeroValue204
 g15:= ay
 g16:= ay
 g17:= ay
 g18:= ay
 g19:= ay
 t80:=Tryz.underlying212
 a80:=Tryz.isAgg212
 z80:=Tryz.sizeOf212
 v80:=Tryz.zeroValue212
 i0:= ay
 i2:= ay
 i3:= ay
 i4:= ay
 i5:= ay
 i9:= ay
 i20:= ay
 i21:= ay
 i37:= ay
 i46:= ay
 i51:= ay
 i53:= ay
 i75:= ay
 i76:= ay
 i80:= ay
 i85:= ay
 i127:= ay
 i143:= ay
 i145:= ay
 i167:= ay
 i168:= ay
 i171:= ay
 i173:= ay
 i175:= ay
 i210:= ay
 i212:= ay
 i232:= ay
 i233:= ay
 m15:= ay
 m16:= ay
 m17:= ay
 m18:= ay
 m19:= ay
 c0:= ay
 c2:= ay
 c3:= ay
 c4:= ay
 c5:= ay
 c9:= ay
 c20:= ay
 c21:= ay
 c37:= ay
 c46:= ay
 c51:= ay
 c53:= ay
 c75:= ay
 c76:= ay
 c80:= ay
 c85:= ay
 c127:= ay
 c143:= ay
 c145:= ay
 c167:= ay
 c168:= ay
 c171:= ay
 c173:= ay
 c175:= ay
 c210:= ay
 c212:= ay
 c213:= ay
 c232:= ay
 c233:=by kernel_rfl}
end Go.Proofs
namespace Go.Proofs.YtddnafghiejcoaaGreatDoor
open Go.cf Go.RowKit
set_option maxRecDepth 1000000
theorem afM{s:List UInt8}{v:Int}(hs:s.length<2^40)(h:Lib.atoiAll s=.ok v)(H:J):bS 55 [.str s] H (.tuple [.int .i64 v,.nilIface]) H:=by
 intro be bo db fm φ w dk ed cH ea;obtain⟨l⟩:=dk;simp only [bz]at ea;obtain⟨x,t,rfl,aj,rfl⟩:=ea;simp only [aL]at aj;obtain⟨u,rfl,hu⟩:=aj;refine⟨⟨Tryz.f55,_,Tryz.func55,rfl⟩,?_⟩;have fq:u.size=s.length:=by rw [←hu];exact Array.length_toList.symm
 have k:=Any.strconv_Atoi_ok Tryz.J2 u ab v (by rw [hu];exact h) w;refine Calls.mono k fun e bq ⟨he,hw⟩=> ?_
 subst he
 have ax:Below w.heap.size w bq:=by
  rcases hw with rfl|⟨t,rfl⟩
  ·exact Below.refl _ _
  ·exact Lib.bytesWorld_below _ _ _
 exact⟨_,φ,rfl,eW.refl _ _,by simp only [aL,bz];exact⟨_,rfl,_,_,rfl,rfl,_,_,rfl,rfl,rfl⟩,ed.alike (Alike.below ax),cH.B' db ax,Nat.le_refl _⟩
theorem afN{s:List UInt8}(hs:s.length<2^40)(h:∀v,Lib.atoiAll s≠ .ok v)(H:J):bS 55 [.str s] H (.tuple [.int .i64 (if Lib.atoiAll s= Lib.NumEnd.syntax then 0 else Lib.atoiSat s),.iface (Tryz.Dm.t 168) .undef]) H:=by
 intro be bo db fm φ w dk ed cH ea;obtain⟨l⟩:=dk;simp only [bz]at ea;obtain⟨x,t,rfl,aj,rfl⟩:=ea;simp only [aL]at aj;obtain⟨u,rfl,hu⟩:=aj;refine⟨⟨Tryz.f55,_,Tryz.func55,rfl⟩,?_⟩;have fq:u.size=s.length:=by rw [←hu];exact Array.length_toList.symm
 have Dk:=fm.keep cH (fun _ h=>h);obtain⟨rI,rJ,afO⟩:=Dk.FV;obtain⟨ah7,ah8,afP⟩:=Dk.FW
 have fin:∀{n:Int},Calls Tryz.prog 55 #[.string u] w (fun e bq=> ∃N,e=.returned (.tuple #[.int .i64 n,.iface (Tryz.Dm.t 168) (.pointer (some ⟨N,0,none⟩))])∧Below w.heap.size w bq) →
  Calls Tryz.prog 55 #[.string u] w fun e bq=> ∃br bE,e=.returned br∧eW φ bE H.U∧aL bE (.tuple [.int .i64 n,.iface (Tryz.Dm.t 168) .undef]) br∧cS bE be H bq∧Go.cf.Safe be bo bq∧H.U≤H.U:=by
  intro n k;refine Calls.mono k fun e bq ⟨N,he,ax⟩=> ?_
  subst he;exact⟨_,φ,rfl,eW.refl _ _,by simp only [aL,bz];exact⟨_,rfl,_,_,rfl,rfl,_,_,rfl,⟨_,rfl,trivial⟩,rfl⟩,ed.alike (Alike.below ax),cH.B' db ax,Nat.le_refl _⟩
 cases aB:Lib.atoiAll s with
 |ok v=>exact absurd aB (h v)
 |range =>
  have k:=Any.strconv_Atoi_range Tryz.J2 u ab (by rw [hu];exact aB) _ w afP (.inr ⟨_,_,rfl⟩);rw [if_neg (by intro q;cases q),←hu];exact fin (Calls.mono k fun e bq ⟨N,he,_,_,ax⟩=>⟨N,he,ax⟩)
 | _ =>
   have k:=Any.strconv_Atoi_syntax Tryz.J2 u ab (by rw [hu];exact aB) _ w afO (.inr ⟨_,_,rfl⟩);rw [if_pos rfl];exact fin (Calls.mono k fun e bq ⟨N,he,_,_,ax⟩=>⟨N,he,ax⟩)
end Go.Proofs.YtddnafghiejcoaaGreatDoor
namespace Go.Proofs.YtddnafghiejcoaaGreatDoor
open Go.cf Go.Keys
set_option maxRecDepth 1000000
abbrev ll:aa:=aa.str [99,116,114,108,43]
abbrev J3:aa:=aa.agg [ll,.str [97,108,116,43],kM]
theorem afQ(H H1:J)(B p:Nat)(s r t:Bytes)(m:Int)(ae:cW→bJ→J→Prop)(aW:bd B (H.U) (bd B (H.U+1) (bd B (H.U+5) (ca 53 [.str r,ll] (J.mk (H.U+13) (H.2)) (.tuple [.str t,.bool true]) (J.mk (H.U+13) (H.2))∧bd B (H.U+13) (bd B (H.U+14) (bM env.D 5 ⟨p,0,0,2,6⟩ (J.mk (H.U+21) (H.2))=some (.int .u8 m)∧p<H.U+14∧True∧bN env dF (H.U+20) (bD [(36,.ptr (some ⟨p,0,0,2,6⟩)),(35,.int .u8 (b2 .u8 m (4))),(34,.int .u8 4),(33,.int .i64 0),(32,.int .u8 m),(31,.ptr (some ⟨p,0,0,2,6⟩)),(30,.bool true),(9,.bool true),(8,.str t),(29,.bool true),(28,.str t),(24,.tuple [.str t,.bool true]),(27,.tuple [.str t,.bool true]),(26,ll),(25,.str r),(7,ll),(6,.int .i64 0),(23,ll),(22,.int .i64 0),(21,.bool true),(0,.str s),(2,.ptr (aJ 0)),(4,.ptr (aJ p)),(5,.str r),(19,J3),(20,.int .i64 0)]) (J.mk (H.U+21) (H.2)) (Op.store 5 (Operand.tmp 36) (Operand.tmp 35))=some (aa.tuple [],H1)∧bd B (H1.U) (bd B (H1.U+2) (ae .normal [(0,.str s),(2,.ptr (aJ 0)),(4,.ptr (aJ p)),(5,.str t),(19,J3),(20,.int .i64 1)] (J.mk (H1.U+2+2) (J.aH (J.mk (H1.U+2) (J.aH H1)))))))))))) :
 ∃e aU ac,dc B 114 (cs 25 0) [(0,.str s),(2,.ptr (aJ 0)),(4,.ptr (aJ p)),(5,.str r),(19,iU),(20,.int .i64 0)] H e aU ac∧ae e aU ac :=
 fP eN mixed cx (hs:= .az (.act 6002 (.tuple [.str t,.bool true]) fun h=>h) (.az (.k4 8001 (.int .u8 m)) (ak 8004 (.az (.act 8006 (.tuple []) fun x=>H1) .nil)))) (keep:=[0,2,4,5,19,20]) ay aW
theorem afR(H:J)(B p:Nat)(s r t:Bytes)(ae:cW→bJ→J→Prop)(aW:bd B (H.U) (bd B (H.U+1) (bd B (H.U+5) (ca 53 [.str r,ll] (J.mk (H.U+13) (H.2)) (.tuple [.str t,.bool false]) (J.mk (H.U+13) (H.2))∧bd B (H.U+13) (bd B (H.U+14) (ae .normal [(0,.str s),(2,.ptr (aJ 0)),(4,.ptr (aJ p)),(5,.str r),(19,J3),(20,.int .i64 1)] (J.mk (H.U+14+2) (J.aH (J.mk (H.U+13+1) (J.aH (J.mk (H.U+13) (H.2)))))))))))) :
 ∃e aU ac,dc B 114 (cs 25 0) [(0,.str s),(2,.ptr (aJ 0)),(4,.ptr (aJ p)),(5,.str r),(19,iU),(20,.int .i64 0)] H e aU ac∧ae e aU ac :=
 fP eN mixed cx (hs:= .az (.act 6002 (.tuple [.str t,.bool false]) fun h=>h) .nil) (keep:=[0,2,4,5,19,20]) ay aW
abbrev l3:aa:=aa.str [97,108,116,43]
theorem afS(H H1:J)(B p:Nat)(s r t:Bytes)(m:Int)(ae:cW→bJ→J→Prop)(aW:bd B (H.U) (bd B (H.U+1) (bd B (H.U+5) (ca 53 [.str r,l3] (J.mk (H.U+13) (H.2)) (.tuple [.str t,.bool true]) (J.mk (H.U+13) (H.2))∧bd B (H.U+13) (bd B (H.U+14) (bM env.D 5 ⟨p,0,0,2,6⟩ (J.mk (H.U+21) (H.2))=some (.int .u8 m)∧p<H.U+14∧True∧bN env dF (H.U+20) (bD [(36,.ptr (some ⟨p,0,0,2,6⟩)),(35,.int .u8 (b2 .u8 m (2))),(34,.int .u8 2),(33,.int .i64 1),(32,.int .u8 m),(31,.ptr (some ⟨p,0,0,2,6⟩)),(30,.bool true),(9,.bool true),(8,.str t),(29,.bool true),(28,.str t),(24,.tuple [.str t,.bool true]),(27,.tuple [.str t,.bool true]),(26,l3),(25,.str r),(7,l3),(6,.int .i64 1),(23,l3),(22,.int .i64 1),(21,.bool true),(0,.str s),(2,.ptr (aJ 0)),(4,.ptr (aJ p)),(5,.str r),(19,.agg [ll,l3,kM]),(20,.int .i64 1)]) (J.mk (H.U+21) (H.2)) (Op.store 5 (Operand.tmp 36) (Operand.tmp 35))=some (aa.tuple [],H1)∧bd B (H1.U) (bd B (H1.U+2) (ae .normal [(0,.str s),(2,.ptr (aJ 0)),(4,.ptr (aJ p)),(5,.str t),(19,.agg [ll,l3,kM]),(20,.int .i64 2)] (J.mk (H1.U+2+2) (J.aH (J.mk (H1.U+2) (J.aH H1)))))))))))) :
 ∃e aU ac,dc B 114 (cs 25 0) [(0,.str s),(2,.ptr (aJ 0)),(4,.ptr (aJ p)),(5,.str r),(19,iU),(20,.int .i64 1)] H e aU ac∧ae e aU ac :=
 fP eN mixed cx (hs:= .az (.act 6002 (.tuple [.str t,.bool true]) fun h=>h) (.az (.k4 8001 (.int .u8 m)) (ak 8004 (.az (.act 8006 (.tuple []) fun x=>H1) .nil)))) (keep:=[0,2,4,5,19,20]) ay aW
theorem afT(H:J)(B p:Nat)(s r t:Bytes)(ae:cW→bJ→J→Prop)(aW:bd B (H.U) (bd B (H.U+1) (bd B (H.U+5) (ca 53 [.str r,l3] (J.mk (H.U+13) (H.2)) (.tuple [.str t,.bool false]) (J.mk (H.U+13) (H.2))∧bd B (H.U+13) (bd B (H.U+14) (ae .normal [(0,.str s),(2,.ptr (aJ 0)),(4,.ptr (aJ p)),(5,.str r),(19,.agg [ll,l3,kM]),(20,.int .i64 2)] (J.mk (H.U+14+2) (J.aH (J.mk (H.U+13+1) (J.aH (J.mk (H.U+13) (H.2)))))))))))) :
 ∃e aU ac,dc B 114 (cs 25 0) [(0,.str s),(2,.ptr (aJ 0)),(4,.ptr (aJ p)),(5,.str r),(19,iU),(20,.int .i64 1)] H e aU ac∧ae e aU ac :=
 fP eN mixed cx (hs:= .az (.act 6002 (.tuple [.str t,.bool false]) fun h=>h) .nil) (keep:=[0,2,4,5,19,20]) ay aW
theorem afU(H H1:J)(B p:Nat)(s r t:Bytes)(m:Int)(ae:cW→bJ→J→Prop)(aW:bd B (H.U) (bd B (H.U+1) (bd B (H.U+5) (ca 53 [.str r,kM] (J.mk (H.U+13) (H.2)) (.tuple [.str t,.bool true]) (J.mk (H.U+13) (H.2))∧bd B (H.U+13) (bd B (H.U+14) (bM env.D 5 ⟨p,0,0,2,6⟩ (J.mk (H.U+21) (H.2))=some (.int .u8 m)∧p<H.U+14∧True∧bN env dF (H.U+20) (bD [(36,.ptr (some ⟨p,0,0,2,6⟩)),(35,.int .u8 (b2 .u8 m (1))),(34,.int .u8 1),(33,.int .i64 2),(32,.int .u8 m),(31,.ptr (some ⟨p,0,0,2,6⟩)),(30,.bool true),(9,.bool true),(8,.str t),(29,.bool true),(28,.str t),(24,.tuple [.str t,.bool true]),(27,.tuple [.str t,.bool true]),(26,kM),(25,.str r),(7,kM),(6,.int .i64 2),(23,kM),(22,.int .i64 2),(21,.bool true),(0,.str s),(2,.ptr (aJ 0)),(4,.ptr (aJ p)),(5,.str r),(19,.agg [ll,l3,kM]),(20,.int .i64 2)]) (J.mk (H.U+21) (H.2)) (Op.store 5 (Operand.tmp 36) (Operand.tmp 35))=some (aa.tuple [],H1)∧bd B (H1.U) (bd B (H1.U+2) (ae .normal [(0,.str s),(2,.ptr (aJ 0)),(4,.ptr (aJ p)),(5,.str t),(19,.agg [ll,l3,kM]),(20,.int .i64 3)] (J.mk (H1.U+2+2) (J.aH (J.mk (H1.U+2) (J.aH H1)))))))))))) :
 ∃e aU ac,dc B 114 (cs 25 0) [(0,.str s),(2,.ptr (aJ 0)),(4,.ptr (aJ p)),(5,.str r),(19,iU),(20,.int .i64 2)] H e aU ac∧ae e aU ac :=
 fP eN mixed cx (hs:= .az (.act 6002 (.tuple [.str t,.bool true]) fun h=>h) (.az (.k4 8001 (.int .u8 m)) (ak 8004 (.az (.act 8006 (.tuple []) fun x=>H1) .nil)))) (keep:=[0,2,4,5,19,20]) ay aW
theorem afV(H:J)(B p:Nat)(s r t:Bytes)(ae:cW→bJ→J→Prop)(aW:bd B (H.U) (bd B (H.U+1) (bd B (H.U+5) (ca 53 [.str r,kM] (J.mk (H.U+13) (H.2)) (.tuple [.str t,.bool false]) (J.mk (H.U+13) (H.2))∧bd B (H.U+13) (bd B (H.U+14) (ae .normal [(0,.str s),(2,.ptr (aJ 0)),(4,.ptr (aJ p)),(5,.str r),(19,.agg [ll,l3,kM]),(20,.int .i64 3)] (J.mk (H.U+14+2) (J.aH (J.mk (H.U+13+1) (J.aH (J.mk (H.U+13) (H.2)))))))))))) :
 ∃e aU ac,dc B 114 (cs 25 0) [(0,.str s),(2,.ptr (aJ 0)),(4,.ptr (aJ p)),(5,.str r),(19,iU),(20,.int .i64 2)] H e aU ac∧ae e aU ac :=
 fP eN mixed cx (hs:= .az (.act 6002 (.tuple [.str t,.bool false]) fun h=>h) .nil) (keep:=[0,2,4,5,19,20]) ay aW
theorem afW(H:J)(B p:Nat)(s r:Bytes)(ae:cW→bJ→J→Prop)(aW:bd B (H.U) (ae (.exit 0) [(0,.str s),(2,.ptr (aJ 0)),(4,.ptr (aJ p)),(5,.str r),(19,.agg [ll,l3,kM]),(20,.int .i64 3)] (J.mk (H.U+1) (J.aH H)))) :
 ∃e aU ac,dc B 114 (cs 25 0) [(0,.str s),(2,.ptr (aJ 0)),(4,.ptr (aJ p)),(5,.str r),(19,iU),(20,.int .i64 3)] H e aU ac∧ae e aU ac :=
 fP eN mixed cx (hs:= .nil) (keep:=[0,2,4,5,19,20]) ay aW
theorem afX(H H1:J)(B p q i:Nat)(s r:Bytes)(ae:cW→bJ→J→Prop)(aW:bd B (H.U) (((i:Int)<14→bd B (H.U+1) ((0≤(i:Int)∧(i:Int)<14)∧bM env.D 9 ⟨q,0,0+Int.toNat (i:Int),0,1⟩ (J.mk (H.U+6) (H.2))=some (aa.str r)∧bd B (H.U+6) ((r=r→bd B (H.U+9) ((-9223372036854775808≤(i:Int)+1∧(i:Int)+1≤9223372036854775807)∧(-2147483648≤(i:Int)+1∧(i:Int)+1≤2147483647)∧bN env dF (H.U+13) (bD [(66,.ptr (some ⟨p,0,0,1,6⟩)),(65,.int .i32 ((i:Int)+1)),(64,.int .i64 ((i:Int)+1)),(63,.int .i64 (i:Int)),(62,.bool true),(61,.str r),(60,.str r),(13,.str r),(12,.int .i64 (i:Int)),(59,.str r),(58,.ptr (some ⟨q,0,0+Int.toNat (i:Int),0,1⟩)),(57,.int .i64 (i:Int)),(56,.bool true),(0,.str s),(2,.ptr (aJ 0)),(4,.ptr (aJ p)),(5,.str r),(53,.slice (cm q) 14 14),(54,.int .i64 14),(55,.int .i64 (i:Int))]) (J.mk (H.U+14) (H.2)) (Op.store 21 (Operand.tmp 66) (Operand.tmp 65))=some (aa.tuple [],H1)∧bd B (H1.U) ((-9223372036854775808≤(i:Int)+1∧(i:Int)+1≤9223372036854775807)∧ae .normal [(0,.str s),(2,.ptr (aJ 0)),(4,.ptr (aJ p)),(5,.str r),(53,.slice (cm q) 14 14),(54,.int .i64 14),(55,.int .i64 ((i:Int)+1))] (J.mk (H1.U+2) (J.aH H1)))))∧(¬r=r→bd B (H.U+9) ((-9223372036854775808≤(i:Int)+1∧(i:Int)+1≤9223372036854775807)∧ae .normal [(0,.str s),(2,.ptr (aJ 0)),(4,.ptr (aJ p)),(5,.str r),(53,.slice (cm q) 14 14),(54,.int .i64 14),(55,.int .i64 ((i:Int)+1))] (J.mk (H.U+9+2) (J.aH (J.mk (H.U+6+3) (J.aH (J.mk (H.U+1+5) (J.aH (J.mk (H.U+1) (J.aH H)))))))))))))∧(¬(i:Int)<14→ae (.exit 3) [(0,.str s),(2,.ptr (aJ 0)),(4,.ptr (aJ p)),(5,.str r),(53,.slice (cm q) 14 14),(54,.int .i64 14),(55,.int .i64 (i:Int))] (J.mk (H.U+1) (J.aH H))))) :
 ∃e aU ac,dc B 114 (cs 25 1) [(0,.str s),(2,.ptr (aJ 0)),(4,.ptr (aJ p)),(5,.str r),(53,.slice (cm q) 14 14),(54,.int .i64 14),(55,.int .i64 (i:Nat))] H e aU ac∧ae e aU ac :=
 fP eN mixed cx (hs:= .aI 18000 (ak 19001 (.az (.val 19002 (.str r)) (.aI 20002 (ak 21001 (ak 21002 (.az (.act 21004 (.tuple []) fun x=>H1) (ak 22000 .nil)))) (ak 22000 .nil)))) .nil) (keep:=[0,2,4,5,53,54,55]) ay aW
theorem RR(H:J)(B p q i:Nat)(s r w:Bytes)(ae:cW→bJ→J→Prop)(aW:bd B (H.U) (((i:Int)<14→bd B (H.U+1) ((0≤(i:Int)∧(i:Int)<14)∧bM env.D 9 ⟨q,0,0+Int.toNat (i:Int),0,1⟩ (J.mk (H.U+6) (H.2))=some (aa.str w)∧bd B (H.U+6) (some (aa.bool (w == r))=some (aa.bool false)∧bd B (H.U+9) ((-9223372036854775808≤(i:Int)+1∧(i:Int)+1≤9223372036854775807)∧ae .normal [(0,.str s),(2,.ptr (aJ 0)),(4,.ptr (aJ p)),(5,.str r),(53,.slice (cm q) 14 14),(54,.int .i64 14),(55,.int .i64 ((i:Int)+1))] (J.mk (H.U+9+2) (J.aH (J.mk (H.U+6+3) (J.aH (J.mk (H.U+1+5) (J.aH (J.mk (H.U+1) (J.aH H))))))))))))∧(¬(i:Int)<14→ae (.exit 3) [(0,.str s),(2,.ptr (aJ 0)),(4,.ptr (aJ p)),(5,.str r),(53,.slice (cm q) 14 14),(54,.int .i64 14),(55,.int .i64 (i:Int))] (J.mk (H.U+1) (J.aH H))))) :
 ∃e aU ac,dc B 114 (cs 25 1) [(0,.str s),(2,.ptr (aJ 0)),(4,.ptr (aJ p)),(5,.str r),(53,.slice (cm q) 14 14),(54,.int .i64 14),(55,.int .i64 (i:Nat))] H e aU ac∧ae e aU ac :=
 fP eN mixed cx (hs:= .aI 18000 (ak 19001 (.az (.val 19002 (.str w)) (.az (.val 20002 (.bool false)) (ak 22000 .nil)))) .nil) (keep:=[0,2,4,5,53,54,55]) ay aW
end Go.Proofs.YtddnafghiejcoaaGreatDoor
namespace Go.Proofs.YtddnafghiejcoaaGreatDoor
open Go.cf Go.Keys Go.Lib
set_option maxRecDepth 1000000
theorem afY{h:J}{x:Nat}{k c m n y z:Int}{t:Bytes}(e:h.get x=some (cz (bB k c m y z t))):hL (bY.D env) 5 ⟨x,0,0,2,6⟩ (.int .u8 n) h=some (h.set x (cz (bB k c n y z t))):=by have bZ:(bY.D env 5).map (fun d=>(d.kind.isAgg,d.size))=some (false,1):= ay;obtain⟨x,ac,ai⟩:=Option.map_eq_some_iff.1 bZ;simp only [Prod.mk.injEq]at ai;unfold hL;rw [ac,e];simp [aa.fits,ai.1,ai.2,af.an,sE,aa.cells,iZ,aa.ka]
theorem afZ{h:J}{x:Nat}{k c d m y z:Int}{t:Bytes}(e:h.get x=some (cz (bB k c m y z t))):hL (bY.D env) 21 ⟨x,0,0,1,6⟩ (.int .i32 d) h=some (h.set x (cz (bB k d m y z t))):=by have bZ:(bY.D env 21).map (fun d=>(d.kind.isAgg,d.size))=some (false,1):= ay;obtain⟨x,ac,ai⟩:=Option.map_eq_some_iff.1 bZ;simp only [Prod.mk.injEq]at ai;unfold hL;rw [ac,e];simp [aa.fits,ai.1,ai.2,af.an,sE,aa.cells,iZ,aa.ka]
theorem af0:b2 .u8 0 4=4:=by decide+kernel
theorem af1:∀n:Fin 2,b2 .u8 ((4*n.val:Nat):Int) 2=((4*n.val+2:Nat):Int):=by decide+kernel
theorem af2:∀n:Fin 4,b2 .u8 ((2*n.val:Nat):Int) 1=((2*n.val+1:Nat):Int):=by decide+kernel
abbrev kN(p:Nat)(s r:Bytes)(i:Int):bJ:=[(0,.str s),(2,.ptr (some ⟨0,0,0,0,6⟩)),(4,.ptr (some ⟨p,0,0,0,6⟩)),(5,.str r),(19,iU),(20,.int .i64 i)]
structure nK(H aQ:J)(p m:Nat):Prop where
 get:aQ.get p=some (cz (bB 0 0 m 0 0 []))
 U:H.U≤aQ.U
 old:∀x,x<H.U→x≠p→aQ.get x=H.get x
theorem nK.pad{H aQ:J}{p m k:Nat}(g:nK H aQ p m):nK H ⟨aQ.U+k,aQ.aH⟩ p m:=⟨g.get,by have:=g.U;show H.U≤aQ.U+k;omega,g.old⟩
theorem af3{H:J}{B p:Nat}{s:Bytes}(cH:B≤H.U)(ah:p<H.U)(hs:s.length<2^40)(ak:H.get p=some (cz (bB 0 0 0 0 0 []))) :
 ∃aQ,dc B 114 (.loop (cs 25 0)) (kN p s s 0) H (.exit 0) (kN p s (c7 s) 3) aQ∧nK H aQ p (ff s):=by
 have cut:∀(K:J)(w r:Bytes),bS 53 [.str r,.str w] K (.tuple [.str (fA w r),.bool (w.isPrefixOf r)]) K:=fun K w r=>HK r w K
 have J4:∀{K:J}{m n:Nat},nK H K p m→ ∃fl,fl=K.set p (cz (bB 0 0 n 0 0 []))∧hL (bY.D env) 5 ⟨p,0,0,2,6⟩ (.int .u8 (n:Nat)) K=some fl∧nK H fl p n:=by intro K m n g;refine⟨_,rfl,afY g.get,J.gE _ _ _,g.U,fun x aj bX=> ?_⟩;rw [J.fg _ _ (Ne.symm bX)];exact g.old x aj bX
 have h8:∃K,dc B 114 (cs 25 0) (kN p s s 0) H .normal (kN p s (iW s) 1) K∧nK H K p (if e5.isPrefixOf s then 4 else 0):=by
  have wh:nK H H p 0:=⟨ak,Nat.le_refl _,fun _ _ _=>rfl⟩
  have aw:=cut ⟨H.U+13,H.aH⟩ e5 s;cases aB:e5.isPrefixOf s with
  |true =>
   rw [aB]at aw;obtain⟨K,c8,hF,oG⟩:=J4 (K:=⟨H.U+21,H.aH⟩) (n:=4) wh.pad
   obtain⟨e,aU,ac,bc,rfl,rfl,rfl⟩:=afQ H K B p s s (iW s) (0:Nat) (fun e aU ac=>e=.normal∧aU=kN p s (iW s) 1∧ac=⟨K.U+4,K.aH⟩)
    (aY cH (aY ab (aY ab ⟨⟨aw⟩,aY ab (aY ab ⟨Dl (h:=⟨H.U+21,H.aH⟩) ak,ab,trivial,tV rfl (by show aa.int .u8 (b2 .u8 0 4)=_;rw [af0];rfl) hF,aY (by have:=oG.U;omega) (aY (by have:=oG.U;omega) ⟨rfl,rfl,rfl⟩)⟩)⟩)))
   exact⟨_,bc,oG.pad⟩
  |false =>
   rw [aB]at aw;have bi:iW s=s:=by unfold iW fA;rw [aB];rfl
   obtain⟨e,aU,ac,bc,rfl,rfl,rfl⟩:=afR H B p s s (iW s) (fun e aU ac=>e=.normal∧aU=kN p s s 1∧ac=⟨H.U+16,H.aH⟩)
    (aY cH (aY ab (aY ab ⟨⟨aw⟩,aY ab (aY ab ⟨rfl,rfl,rfl⟩)⟩)))
   rw [bi];exact⟨_,bc,wh.pad⟩
 have s1:∀{K:J}{n:Nat}(r:Bytes),n<2→nK H K p (4*n)→ ∃fl,dc B 114 (cs 25 0) (kN p s r 1) K .normal (kN p s (fA eU r) 2) fl∧nK H fl p (4*n+if eU.isPrefixOf r then 2 else 0):=by
  intro K n r aR g;have af4:=g.U;have aw:=cut ⟨K.U+13,K.aH⟩ eU r;cases aB:eU.isPrefixOf r with
  |true =>
   rw [aB]at aw;obtain⟨fl,c8,hF,oG⟩:=J4 (K:=⟨K.U+21,K.aH⟩) (n:=4*n+2) g.pad
   obtain⟨e,aU,ac,bc,rfl,rfl,rfl⟩:=afS K fl B p s r (fA eU r) ((4*n:Nat):Int) (fun e aU ac=>e=.normal∧aU=kN p s (fA eU r) 2∧ac=⟨fl.U+4,fl.aH⟩)
    (aY ab (aY ab (aY ab ⟨⟨aw⟩,aY ab (aY ab ⟨Dl (h:=⟨K.U+21,K.aH⟩) g.get,ab,trivial,tV rfl (by show aa.int .u8 (b2 .u8 ((4*n:Nat):Int) 2)=_;rw [af1 ⟨n,aR⟩]) hF,aY (by have:=oG.U;omega) (aY (by have:=oG.U;omega) ⟨rfl,rfl,rfl⟩)⟩)⟩)))
   exact⟨_,bc,oG.pad⟩
  |false =>
   rw [aB]at aw;have bi:fA eU r=r:=by unfold fA;rw [aB];rfl
   obtain⟨e,aU,ac,bc,rfl,rfl,rfl⟩:=afT K B p s r (fA eU r) (fun e aU ac=>e=.normal∧aU=kN p s r 2∧ac=⟨K.U+16,K.aH⟩)
    (aY ab (aY ab (aY ab ⟨⟨aw⟩,aY ab (aY ab ⟨rfl,rfl,rfl⟩)⟩)))
   rw [bi];exact⟨_,bc,g.pad⟩
 have s2:∀{K:J}{n:Nat}(r:Bytes),n<4→nK H K p (2*n)→ ∃fl,dc B 114 (cs 25 0) (kN p s r 2) K .normal (kN p s (fA fe r) 3) fl∧nK H fl p (2*n+if fe.isPrefixOf r then 1 else 0):=by
  intro K n r aR g;have af4:=g.U;have aw:=cut ⟨K.U+13,K.aH⟩ fe r;cases aB:fe.isPrefixOf r with
  |true =>
   rw [aB]at aw;obtain⟨fl,c8,hF,oG⟩:=J4 (K:=⟨K.U+21,K.aH⟩) (n:=2*n+1) g.pad
   obtain⟨e,aU,ac,bc,rfl,rfl,rfl⟩:=afU K fl B p s r (fA fe r) ((2*n:Nat):Int) (fun e aU ac=>e=.normal∧aU=kN p s (fA fe r) 3∧ac=⟨fl.U+4,fl.aH⟩)
    (aY ab (aY ab (aY ab ⟨⟨aw⟩,aY ab (aY ab ⟨Dl (h:=⟨K.U+21,K.aH⟩) g.get,ab,trivial,tV rfl (by show aa.int .u8 (b2 .u8 ((2*n:Nat):Int) 1)=_;rw [af2 ⟨n,aR⟩]) hF,aY (by have:=oG.U;omega) (aY (by have:=oG.U;omega) ⟨rfl,rfl,rfl⟩)⟩)⟩)))
   exact⟨_,bc,oG.pad⟩
  |false =>
   rw [aB]at aw;have bi:fA fe r=r:=by unfold fA;rw [aB];rfl
   obtain⟨e,aU,ac,bc,rfl,rfl,rfl⟩:=afV K B p s r (fA fe r) (fun e aU ac=>e=.normal∧aU=kN p s r 3∧ac=⟨K.U+16,K.aH⟩)
    (aY ab (aY ab (aY ab ⟨⟨aw⟩,aY ab (aY ab ⟨rfl,rfl,rfl⟩)⟩)))
   rw [bi];exact⟨_,bc,g.pad⟩
 obtain⟨ae,iB,g0⟩:=h8
 obtain⟨J5,e8,g1⟩:=s1 (n:=if e5.isPrefixOf s then 1 else 0) (iW s) (by split<;>omega) (by
  have:4* (if e5.isPrefixOf s then 1 else 0)=(if e5.isPrefixOf s then 4 else 0):=by split<;>rfl
  rw [this];exact g0)
 obtain⟨ue,il,g2⟩:=s2 (n:=2* (if e5.isPrefixOf s then 1 else 0)+if eU.isPrefixOf (iW s)then 1 else 0) (nJ s) (by split<;>split<;>omega) (by
  have:2* (2* (if e5.isPrefixOf s then 1 else 0)+if eU.isPrefixOf (iW s)then 1 else 0)=4* (if e5.isPrefixOf s then 1 else 0)+(if eU.isPrefixOf (iW s)then 2 else 0):=by split<;>split<;>rfl
  rw [this];exact g1)
 have jH:=g2.U;obtain⟨e,aU,ac,my,rfl,rfl,rfl⟩:=afW ue B p s (c7 s) (fun e aU ac=>e=.exit 0∧aU=kN p s (c7 s) 3∧ac=⟨ue.U+1,ue.aH⟩) (aY ab ⟨rfl,rfl,rfl⟩)
 have em:2* (2* (if e5.isPrefixOf s then 1 else 0)+if eU.isPrefixOf (iW s)then 1 else 0)+(if fe.isPrefixOf (nJ s)then 1 else 0)=ff s:=by unfold ff;split<;>split<;>split<;>rfl
 rw [em]at g2;exact⟨_,fw.hQ (dK.step iB (dK.step e8 (dK.step il (dK.last aM my)))),g2.pad⟩
end Go.Proofs.YtddnafghiejcoaaGreatDoor
namespace Go.Proofs.YtddnafghiejcoaaGreatDoor
open Go.cf Go.Keys Go.Lib
set_option maxRecDepth 1000000
def km(t:Bytes):Nat→Nat
 |0=>0
 |i+1=>if jM.getD i []=t then i+1 else km t i
theorem RS(t:Bytes):∀i,km t i≤i
 |0=>Nat.le_refl _
 |i+1=>by unfold km;have:=RS t i;split<;>omega
theorem af5{K:J}{q i:Nat}(h:K.get q=some ij)(aq:i<14):bM (bY.D env) 9 ⟨q,0,0+Int.toNat (i:Int),0,1⟩ K=some (.str (jM.getD i [])):=by have bZ:(bY.D env 9).map (fun d=>d.kind.isAgg)=some false:= ay;obtain⟨x,ac,ai⟩:=Option.map_eq_some_iff.1 bZ;unfold bM;rw [ac,h,Int.toNat_natCast,Nat.zero_add];simp only [RP aq,hZ,ai];simp
abbrev sy(p q:Nat)(s r:Bytes)(i:Nat):bJ:=[(0,.str s),(2,.ptr (some ⟨0,0,0,0,6⟩)),(4,.ptr (some ⟨p,0,0,0,6⟩)),(5,.str r),(53,.slice (some ⟨q,0,0,0,1⟩) 14 14),(54,.int .i64 14),(55,.int .i64 (i:Nat))]
structure q3(H aQ:J)(p m c:Nat):Prop where
 get:aQ.get p=some (cz (bB 2 c m 0 0 []))
 U:H.U≤aQ.U
 old:∀x,x<H.U→x≠p→aQ.get x=H.get x
theorem q3.pad{H aQ:J}{p m c k:Nat}(g:q3 H aQ p m c):q3 H ⟨aQ.U+k,aQ.aH⟩ p m c:=⟨g.get,by have:=g.U;show H.U≤aQ.U+k;omega,g.old⟩
theorem af6{H:J}{B p q m:Nat}{s r:Bytes}(cH:B≤H.U)(ah:p<H.U)(aB:q<H.U)(bX:q≠p)(hw:H.get q=some ij) :
 ∀(n i:Nat)(K:J),14-i≤n→i≤14→q3 H K p m (km r i) →
  ∃aQ,hd B 114 (cs 25 1) (sy p q s r i) K (.exit 3) (sy p q s r 14) aQ∧q3 H aQ p m (km r 14):=by
 have fin:∀(K:J),q3 H K p m (km r 14)→ ∃aQ,hd B 114 (cs 25 1) (sy p q s r 14) K (.exit 3) (sy p q s r 14) aQ∧q3 H aQ p m (km r 14):=by
  intro K g;have aR:=g.U
  obtain⟨e,aU,ac,bc,rfl,rfl,rfl⟩:=RR K B p q 14 s r [] (fun e aU ac=>e=.exit 3∧aU=sy p q s r 14∧ac=⟨K.U+1,K.aH⟩)
   (aY ab ⟨fun h=> ab,fun _=>⟨rfl,rfl,rfl⟩⟩)
  exact⟨_,dK.last aM bc,g.pad⟩
 intro n;induction n with
 |zero =>
  intro i K aR aq g;obtain rfl:i=14:= ab;exact fin K g
 |succ n ih =>
  intro i K aR aq g;by_cases aw:i<14
  ·have ky:=g.U;have wF:K.get q=some ij:=(g.old q aB bX).trans hw;have iJ:=af5 (K:=⟨K.U+6,K.aH⟩) wF aw;have ho:((i:Int)+1)=((i+1:Nat):Int):= ab;by_cases he:jM.getD i []=r
   ·have af7:bM (bY.D env) 9 ⟨q,0,0+Int.toNat (i:Int),0,1⟩ ⟨K.U+6,K.aH⟩=some (.str r):=by rw [iJ,he]
    obtain⟨fl,Dn⟩:∃X,X=(⟨K.U+14,K.aH⟩:J).set p (cz (bB 2 ((i+1:Nat):Int) m 0 0 [])):=⟨_,rfl⟩
    have hF:hL (bY.D env) 21 ⟨p,0,0,1,6⟩ (.int .i32 ((i:Int)+1)) ⟨K.U+14,K.aH⟩=some fl:=by rw [Dn,ho];exact afZ (h:=⟨K.U+14,K.aH⟩) g.get
    have dp:q3 H fl p m (km r (i+1)):=by refine⟨by rw [Dn,J.gE];unfold km;rw [if_pos he],by rw [Dn];show H.U≤K.U+14;omega,fun x aj RT=> ?_⟩;rw [Dn,J.fg _ _ (Ne.symm RT)];exact g.old x aj RT
    have tl:=dp.U
    obtain⟨e,aU,ac,bc,rfl,rfl,rfl⟩:=afX K fl B p q i s r (fun e aU ac=>e=.normal∧aU=sy p q s r (i+1)∧ac=⟨fl.U+2,fl.aH⟩)
     (aY ab ⟨fun _=>aY ab ⟨⟨ab,ab⟩,af7,aY ab ⟨fun _=>aY ab ⟨⟨ab,ab⟩,⟨ab,ab⟩,tV rfl rfl hF,aY ab ⟨⟨ab,ab⟩,rfl,by rw [ho],rfl⟩⟩,fun h=>absurd rfl h⟩⟩,fun h=>absurd ab h⟩)
    obtain⟨aQ,dN,wh⟩:=ih (i+1) _ ab ab (dp.pad (k:=2));exact⟨aQ,dK.step bc dN,wh⟩
   ·have ax:(jM.getD i [] == r)=false:=by
     cases aB:jM.getD i [] == r with
     |false=>rfl
     |true=>exact absurd (eq_of_beq aB) he
    have dp:q3 H K p m (km r (i+1)):=by
     have bi:km r (i+1)=km r i:=by rw [km,if_neg he]
     rw [bi];exact g
    obtain⟨e,aU,ac,bc,rfl,rfl,rfl⟩:=RR K B p q i s r (jM.getD i []) (fun e aU ac=>e=.normal∧aU=sy p q s r (i+1)∧ac=⟨K.U+11,K.aH⟩)
     (aY ab ⟨fun _=>aY ab ⟨⟨ab,ab⟩,iJ,aY ab ⟨by rw [ax],aY ab ⟨⟨ab,ab⟩,rfl,by rw [ho],rfl⟩⟩⟩,fun h=>absurd ab h⟩)
    obtain⟨aQ,dN,wh⟩:=ih (i+1) _ ab ab (dp.pad (k:=11));exact⟨aQ,dK.step bc dN,wh⟩
  ·obtain rfl:i=14:= ab;exact fin K g
theorem RU(t:Bytes):km t 14=l1 t:=by
 by_cases h:t∈jM
 ·have:∀i:Fin 14,km (jM.getD i.val []) 14=l1 (jM.getD i.val []):=by decide+kernel
  obtain⟨i,aq,rfl⟩:=List.mem_iff_getElem.1 h;have gF:i<14:=aq;have:=this ⟨i,gF⟩;simp only [List.getD_eq_getElem?_getD,List.getElem?_eq_getElem aq,Option.getD_some]at this;exact this
 ·have ac:∀i,i≤14→km t i=0:=by
   intro i;induction i with
   |zero=>intro _;rfl
   |succ i ih =>
    intro aq;unfold km;rw [if_neg (fun q=>h (by rw [←q,List.getD_eq_getElem?_getD,List.getElem?_eq_getElem (by show i<14;omega),Option.getD_some];exact List.getElem_mem _))];exact ih ab
  rw [ac 14 (Nat.le_refl _)];unfold l1
  rw [List.findIdx?_eq_none_iff.2 (fun x aj=>by
   cases aB:x == t with
   |false=>rfl
   |true=>exact absurd ((eq_of_beq aB)▸aj) h)]
end Go.Proofs.YtddnafghiejcoaaGreatDoor
namespace Go.Proofs.YtddnafghiejcoaaGreatDoor
open Go.cf Go.Keys
set_option maxRecDepth 1000000
theorem af8(s p:Bytes)(ae:bI)(aW:((↑(List.length p):Int)≤(↑(List.length s):Int)→(0≤(↑(List.length p):Int)∧(↑(List.length p):Int)≤(↑(List.length s):Int))∧(List.take (Int.toNat (↑(List.length p):Int)) s=p→(0≤(↑(List.length p):Int)∧(↑(List.length p):Int)≤(↑(List.length s):Int))∧ae (.str (List.drop (Int.toNat (↑(List.length p):Int)) s)) (J.ar 29 []))∧(¬List.take (Int.toNat (↑(List.length p):Int)) s=p→ae (.str s) (J.ar 26 [])))∧(¬(↑(List.length p):Int)≤(↑(List.length s):Int)→ae (.str s) (J.ar 26 []))) :
 b4 56 [.str s,.str p] (⟨0,.nil⟩) ae :=
 b9 gC (he 1002 (he 1002 (.aI 1004 (ak 1009 (.aI 1011 (ak 2003 .nil) .nil)) .nil))) aW
abbrev af9:aa:=aa.str [117,112]
abbrev pP:aa:=aa.slice (cm 33) 14 14
abbrev nL(t:Bytes)(f:Int):aa:=aa.tuple [.str t,.int .i64 f]
abbrev af':aa:=aa.str [116,97,98]
abbrev aga:aa:=aa.str [101,110,100]
abbrev agb:aa:=aa.str [100,111,119,110]
abbrev agc:aa:=aa.str [104,111,109,101]
abbrev agd:aa:=aa.str [108,101,102,116]
abbrev age:aa:=aa.str [101,110,116,101,114]
abbrev agf:aa:=aa.str [114,105,103,104,116]
abbrev agh:aa:=aa.str [101,115,99,97,112,101]
abbrev agi:aa:=aa.str [112,97,103,101,117,112]
abbrev agj:aa:=aa.str [100,101,108,101,116,101]
abbrev agk:aa:=aa.str [105,110,115,101,114,116]
abbrev agl:aa:=aa.str [112,97,103,101,100,111,119,110]
abbrev agm:aa:=aa.str [98,97,99,107,115,112,97,99,101]
abbrev zE(m d:Int):aa:=aa.agg [.int .i8 1,.int .i32 d,.int .u8 m,.int .i64 0,.int .i64 0,.str []]
abbrev uf(m no:Int):aa:=aa.agg [.int .i8 2,.int .i32 no,.int .u8 m,.int .i64 0,.int .i64 0,.str []]
abbrev Dp(m:Int):aa:=aa.agg [.int .i8 1,.int .i32 0,.int .u8 m,.int .i64 0,.int .i64 0,.str []]
abbrev wi(m:Int):aa:=aa.agg [.int .i8 2,.int .i32 0,.int .u8 m,.int .i64 0,.int .i64 0,.str []]
abbrev zF(m:Int):aa:=aa.agg [.int .i8 1,.int .i32 32,.int .u8 m,.int .i64 0,.int .i64 0,.str []]
abbrev zG(m:Int):aa:=aa.agg [.int .i8 1,.int .i32 43,.int .u8 m,.int .i64 0,.int .i64 0,.str []]
abbrev J6(m n:Int):aa:=aa.agg [.int .i8 2,.int .i32 (21+n-1),.int .u8 m,.int .i64 0,.int .i64 0,.str []]
abbrev jr:aa:=aa.tuple [cP,.int .i64 220]
abbrev nM(m:Int):af:=(af.an ([(zF m)]) 6 true (some (42,6)))
abbrev nN(m:Int):af:=(af.an ([(zG m)]) 6 true (some (42,6)))
abbrev nO(m d:Int):af:=(af.an ([(zE m d)]) 6 true (some (42,6)))
abbrev wj(m n:Int):af:=(af.an ([(J6 m n)]) 6 true (some (42,6)))
abbrev zH(m no:Int):af:=(af.an ([(uf m no)]) 6 true (some (42,6)))
abbrev oH(t:Bytes)(f:Int):c':=(.az (.act 30001 ((nL t f)) fun h=>h) (.aI 31001 (.aI 31005 .nil .nil) .nil))
abbrev mQ:af:=(af.an ([age,af',agm,agh,af9,agb,agf,agd,agc,aga,agk,agj,agi,agl]) 1 true)
abbrev sA(m no:Int):J:=(J.ar 78 [(0,dw),(2,(zH m no)),(33,mQ)])
abbrev sB(m no:Int):J:=(J.ar 100 [(0,dw),(2,(zH m no)),(33,mQ)])
abbrev wk(m no:Int):J:=(J.ar 110 [(0,dw),(2,(zH m no)),(33,mQ)])
abbrev RV(m no:Int):J:=(J.ar 110 [(0,(zH m no)),(2,(zH m no)),(33,mQ)])
abbrev J7(s t:Bytes)(m no f:Int)(ae:bI):Prop:=(f=0→(t=s→ae (.tuple [(uf m no),.int .i64 0]) (RV m no))∧(¬t=s→ae (jr) (wk m no)))
theorem agn(s r u t:Bytes)(m d k no n f:Int)(ae:bI)(aW:dc 0 114 (Code.loop (cs 25 0)) [(0,.str s),(2,.ptr (aJ 0)),(4,.ptr (aJ 2)),(5,.str s),(19,.agg [ll,l3,kM]),(20,.int .i64 0)] (J.ar 7 [(0,af.an [cP] 6 true (some (42,6))),(2,af.an [cP] 6 true (some (42,6)))]) (.exit 0) [(0,.str s),(2,.ptr (aJ 0)),(4,.ptr (aJ 2)),(5,.str r),(19,iU),(20,.int .i64 3)] (J.ar 10 [(0,cz (bB 0 0 0 0 0 [])),(2,cz (bB 0 0 m 0 0 []))])∧(r=[(115:UInt8),(112:UInt8),(97:UInt8),(99:UInt8),(101:UInt8)]→ca 23 [(zF m)] (J.ar 24 [(0,dw),(2,(nM m))]) ((nL t f)) (J.ar 24 [(0,dw),(2,(nM m))])∧(f=0→(t=s→ae (.tuple [(zF m),.int .i64 0]) (J.ar 34 [(0,(nM m)),(2,(nM m))]))∧(¬t=s→ae (jr) (J.ar 34 [(0,dw),(2,(nM m))])))∧(¬f=0→ae (jr) (J.ar 34 [(0,dw),(2,(nM m))])))∧(¬r=[(115:UInt8),(112:UInt8),(97:UInt8),(99:UInt8),(101:UInt8)]→(r=[(112:UInt8),(108:UInt8),(117:UInt8),(115:UInt8)]→ca 23 [(zG m)] (J.ar 26 [(0,dw),(2,(nN m))]) ((nL t f)) (J.ar 26 [(0,dw),(2,(nN m))])∧(f=0→(t=s→ae (.tuple [(zG m),.int .i64 0]) (J.ar 36 [(0,(nN m)),(2,(nN m))]))∧(¬t=s→ae (jr) (J.ar 36 [(0,dw),(2,(nN m))])))∧(¬f=0→ae (jr) (J.ar 36 [(0,dw),(2,(nN m))])))∧(¬r=[(112:UInt8),(108:UInt8),(117:UInt8),(115:UInt8)]→ca 54 [.str r] (J.ar 24 [(0,dw),(2,(af.an ([(Dp m)]) 6 true (some (42,6))))]) (.tuple [.int .i32 d,.int .i64 k]) (J.ar 24 [(0,dw),(2,(af.an ([(Dp m)]) 6 true (some (42,6))))])∧(k=(↑(List.length r):Int)→ca 23 [(zE m d)] (J.ar 38 [(0,dw),(2,(nO m d))]) ((nL t f)) (J.ar 38 [(0,dw),(2,(nO m d))])∧(f=0→(t=s→ae (.tuple [(zE m d),.int .i64 0]) (J.ar 48 [(0,(nO m d)),(2,(nO m d))]))∧(¬t=s→ae (jr) (J.ar 48 [(0,dw),(2,(nO m d))])))∧(¬f=0→ae (jr) (J.ar 48 [(0,dw),(2,(nO m d))])))∧(¬k=(↑(List.length r):Int)→ca 50 [.str [101,110,116,101,114,32,116,97,98,32,98,97,99,107,115,112,97,99,101,32,101,115,99,97,112,101,32,117,112,32,100,111,119,110,32,114,105,103,104,116,32,108,101,102,116,32,104,111,109,101,32,101,110,100,32,105,110,115,101,114,116,32,100,101,108,101,116,101,32,112,97,103,101,117,112,32,112,97,103,101,100,111,119,110]] (J.ar 33 [(0,dw),(2,(af.an ([(wi m)]) 6 true (some (42,6))))]) (pP) (J.ar 34 [(0,dw),(2,(af.an ([(wi m)]) 6 true (some (42,6)))),(33,mQ)])∧dc 0 114 (Code.loop (cs 25 1)) [(0,.str s),(2,.ptr (aJ 0)),(4,.ptr (aJ 2)),(5,.str r),(53,pP),(54,.int .i64 14),(55,.int .i64 0)] (J.ar 34 [(0,dw),(2,(af.an ([(wi m)]) 6 true (some (42,6)))),(33,mQ)]) (.exit 3) [(0,.str s),(2,.ptr (aJ 0)),(4,.ptr (aJ 2)),(5,.str r),(53,pP),(54,.int .i64 14),(55,.int .i64 14)] (J.ar 70 [(0,cz (bB 0 0 0 0 0 [])),(2,cz (bB 2 no m 0 0 [])),(33,ij)])∧ca 56 [.str r,.str [102]] (sA m no) (.str u) (sA m no)∧ca 55 [.str u] (sA m no) (.tuple [.int .i64 n,aa.nilIface]) (sA m no)∧(1≤n→(n≤12→(no=0→(-2147483648≤n∧n≤2147483647)∧(-2147483648≤21+n∧21+n≤2147483647)∧(-2147483648≤21+n-1∧21+n-1≤2147483647)∧ca 23 [(J6 m n)] (J.ar 106 [(0,dw),(2,(wj m n)),(33,mQ)]) ((nL t f)) (J.ar 106 [(0,dw),(2,(wj m n)),(33,mQ)])∧(f=0→(t=s→ae (.tuple [(J6 m n),.int .i64 0]) (J.ar 116 [(0,(wj m n)),(2,(wj m n)),(33,mQ)]))∧(¬t=s→ae (jr) (J.ar 116 [(0,dw),(2,(wj m n)),(33,mQ)])))∧(¬f=0→ae (jr) (J.ar 116 [(0,dw),(2,(wj m n)),(33,mQ)])))∧(¬no=0→ca 23 [(uf m no)] (sB m no) ((nL t f)) (sB m no)∧(J7 s t m no f ae)∧(¬f=0→ae (jr) (wk m no))))∧(¬n≤12→ca 23 [(uf m no)] (sB m no) ((nL t f)) (sB m no)∧(J7 s t m no f ae)∧(¬f=0→ae (jr) (wk m no))))∧(¬1≤n→ca 23 [(uf m no)] (sB m no) ((nL t f)) (sB m no)∧(J7 s t m no f ae)∧(¬f=0→ae (jr) (wk m no))))))) :
 b4 25 [.str s] (⟨0,.nil⟩) ae :=
 b9 cx (.az (.keep [0,2,4,5,19,20]) (.az (.loop [(0,.str s),(2,.ptr (aJ 0)),(4,.ptr (aJ 2)),(5,.str r),(19,iU),(20,.int .i64 3)] (J.ar 10 [(0,cz (bB 0 0 0 0 0 [])),(2,cz (bB 0 0 m 0 0 []))]) (.exit 0)) (.aI 26000 (oH t f) (.aI 28000 (oH t f) (.az (.act 13001 (.tuple [.int .i32 d,.int .i64 k]) fun h=>h) (.aI 14003 (oH t f) (.az (.act 17000 (pP) fun x=>J.ar 34 [(0,cz (bB 0 0 0 0 0 [])),(2,cz (bB 2 0 m 0 0 [])),(33,ij)]) (.az (.keep [0,2,4,5,53,54,55]) (.az (.loop [(0,.str s),(2,.ptr (aJ 0)),(4,.ptr (aJ 2)),(5,.str r),(53,pP),(54,.int .i64 14),(55,.int .i64 14)] (J.ar 70 [(0,cz (bB 0 0 0 0 0 [])),(2,cz (bB 2 no m 0 0 [])),(33,ij)]) (.exit 3)) (.az (.act 23001 (.str u) fun h=>h) (.az (.act 23002 (.tuple [.int .i64 n,aa.nilIface]) fun h=>h) (.aI 24004 (.aI 24008 (.aI 24013 (ak 25001 (ak 25002 (ak 25003 (oH t f)))) (oH t f)) (oH t f)) (oH t f))))))))))))) aW
theorem RW(s r u t:Bytes)(m d k no n f:Int)(T:TypeId)(ae:bI)(aW:dc 0 114 (Code.loop (cs 25 0)) [(0,.str s),(2,.ptr (aJ 0)),(4,.ptr (aJ 2)),(5,.str s),(19,.agg [ll,l3,kM]),(20,.int .i64 0)] (J.ar 7 [(0,af.an [cP] 6 true (some (42,6))),(2,af.an [cP] 6 true (some (42,6)))]) (.exit 0) [(0,.str s),(2,.ptr (aJ 0)),(4,.ptr (aJ 2)),(5,.str r),(19,iU),(20,.int .i64 3)] (J.ar 10 [(0,cz (bB 0 0 0 0 0 [])),(2,cz (bB 0 0 m 0 0 []))])∧(r=[(115:UInt8),(112:UInt8),(97:UInt8),(99:UInt8),(101:UInt8)]→ca 23 [(zF m)] (J.ar 24 [(0,dw),(2,(nM m))]) ((nL t f)) (J.ar 24 [(0,dw),(2,(nM m))])∧(f=0→(t=s→ae (.tuple [(zF m),.int .i64 0]) (J.ar 34 [(0,(nM m)),(2,(nM m))]))∧(¬t=s→ae (jr) (J.ar 34 [(0,dw),(2,(nM m))])))∧(¬f=0→ae (jr) (J.ar 34 [(0,dw),(2,(nM m))])))∧(¬r=[(115:UInt8),(112:UInt8),(97:UInt8),(99:UInt8),(101:UInt8)]→(r=[(112:UInt8),(108:UInt8),(117:UInt8),(115:UInt8)]→ca 23 [(zG m)] (J.ar 26 [(0,dw),(2,(nN m))]) ((nL t f)) (J.ar 26 [(0,dw),(2,(nN m))])∧(f=0→(t=s→ae (.tuple [(zG m),.int .i64 0]) (J.ar 36 [(0,(nN m)),(2,(nN m))]))∧(¬t=s→ae (jr) (J.ar 36 [(0,dw),(2,(nN m))])))∧(¬f=0→ae (jr) (J.ar 36 [(0,dw),(2,(nN m))])))∧(¬r=[(112:UInt8),(108:UInt8),(117:UInt8),(115:UInt8)]→ca 54 [.str r] (J.ar 24 [(0,dw),(2,(af.an ([(Dp m)]) 6 true (some (42,6))))]) (.tuple [.int .i32 d,.int .i64 k]) (J.ar 24 [(0,dw),(2,(af.an ([(Dp m)]) 6 true (some (42,6))))])∧(k=(↑(List.length r):Int)→ca 23 [(zE m d)] (J.ar 38 [(0,dw),(2,(nO m d))]) ((nL t f)) (J.ar 38 [(0,dw),(2,(nO m d))])∧(f=0→(t=s→ae (.tuple [(zE m d),.int .i64 0]) (J.ar 48 [(0,(nO m d)),(2,(nO m d))]))∧(¬t=s→ae (jr) (J.ar 48 [(0,dw),(2,(nO m d))])))∧(¬f=0→ae (jr) (J.ar 48 [(0,dw),(2,(nO m d))])))∧(¬k=(↑(List.length r):Int)→ca 50 [.str [101,110,116,101,114,32,116,97,98,32,98,97,99,107,115,112,97,99,101,32,101,115,99,97,112,101,32,117,112,32,100,111,119,110,32,114,105,103,104,116,32,108,101,102,116,32,104,111,109,101,32,101,110,100,32,105,110,115,101,114,116,32,100,101,108,101,116,101,32,112,97,103,101,117,112,32,112,97,103,101,100,111,119,110]] (J.ar 33 [(0,dw),(2,(af.an ([(wi m)]) 6 true (some (42,6))))]) (pP) (J.ar 34 [(0,dw),(2,(af.an ([(wi m)]) 6 true (some (42,6)))),(33,mQ)])∧dc 0 114 (Code.loop (cs 25 1)) [(0,.str s),(2,.ptr (aJ 0)),(4,.ptr (aJ 2)),(5,.str r),(53,pP),(54,.int .i64 14),(55,.int .i64 0)] (J.ar 34 [(0,dw),(2,(af.an ([(wi m)]) 6 true (some (42,6)))),(33,mQ)]) (.exit 3) [(0,.str s),(2,.ptr (aJ 0)),(4,.ptr (aJ 2)),(5,.str r),(53,pP),(54,.int .i64 14),(55,.int .i64 14)] (J.ar 70 [(0,cz (bB 0 0 0 0 0 [])),(2,cz (bB 2 no m 0 0 [])),(33,ij)])∧ca 56 [.str r,.str [102]] (sA m no) (.str u) (sA m no)∧ca 55 [.str u] (sA m no) (.tuple [.int .i64 n,aa.iface T aa.undef]) (sA m no)∧ca 23 [(uf m no)] (sB m no) ((nL t f)) (sB m no)∧(f=0→(t=s→ae (.tuple [(uf m no),.int .i64 0]) (RV m no))∧(¬t=s→ae (jr) (wk m no)))∧(¬f=0→ae (jr) (wk m no)))))) :
 b4 25 [.str s] (⟨0,.nil⟩) ae :=
 b9 cx (.az (.keep [0,2,4,5,19,20]) (.az (.loop [(0,.str s),(2,.ptr (aJ 0)),(4,.ptr (aJ 2)),(5,.str r),(19,iU),(20,.int .i64 3)] (J.ar 10 [(0,cz (bB 0 0 0 0 0 [])),(2,cz (bB 0 0 m 0 0 []))]) (.exit 0)) (.aI 26000 (oH t f) (.aI 28000 (oH t f) (.az (.act 13001 (.tuple [.int .i32 d,.int .i64 k]) fun h=>h) (.aI 14003 (oH t f) (.az (.act 17000 (pP) fun x=>J.ar 34 [(0,cz (bB 0 0 0 0 0 [])),(2,cz (bB 2 0 m 0 0 [])),(33,ij)]) (.az (.keep [0,2,4,5,53,54,55]) (.az (.loop [(0,.str s),(2,.ptr (aJ 0)),(4,.ptr (aJ 2)),(5,.str r),(53,pP),(54,.int .i64 14),(55,.int .i64 14)] (J.ar 70 [(0,cz (bB 0 0 0 0 0 [])),(2,cz (bB 2 no m 0 0 [])),(33,ij)]) (.exit 3)) (.az (.act 23001 (.str u) fun h=>h) (.az (.act 23002 (.tuple [.int .i64 n,aa.iface T aa.undef]) fun h=>h) (oH t f)))))))))))) aW
end Go.Proofs.YtddnafghiejcoaaGreatDoor
namespace Go.Proofs.YtddnafghiejcoaaGreatDoor
open Go.cf Go.Keys Go.Lib
set_option maxRecDepth 1000000
theorem J8(s p:Bytes)(H:J):bS 56 [.str s,.str p] H (.str (fA p s)) H:=by
 refine b1.eT (af8 s p (fun v _=>v=.str (fA p s)) ⟨fun h=>⟨⟨ab,h⟩,fun e=>⟨⟨ab,h⟩,?_⟩,fun e=> ?_⟩,fun h=> ?_⟩) rfl rfl H
 ·unfold fA;rw [pre_true (by simpa using e)];simp
 ·unfold fA;rw [vG (by simpa using e)];simp
 ·unfold fA;rw [vG (take_len ab)];simp
def lm(s:Bytes):aa:=match named s with|some e=> .tuple [cB e,.int .i64 0]|none=> .tuple [bB 0 0 0 0 0 [],.int .i64 220]
theorem ago(e:bl):∃t f,iY e=.tuple [.str t,.int .i64 f]∧(f=0→iV e=some t)∧(¬f=0→iV e=none):=by
 unfold iY;cases h:iV e with
 |some s=>exact⟨s,0,rfl,fun _=>rfl,fun h=>absurd rfl h⟩
 |none=>exact⟨[],220,rfl,fun h=>absurd h aS,fun _=>rfl⟩
theorem Dq(k c m:Int)(L:List Nat):∀e∈(cz (bB k c m 0 0 [])).bk,ch (Go.cf.cp L) e:=by
 intro e he;obtain rfl:e=bB k c m 0 0 []:=by simpa [af.an]using he
 exact(cU.of rfl).eM _
theorem agp(L:List Nat):∀e∈ij.bk,ch (Go.cf.cp L) e:=by intro e he;obtain⟨q,_,rfl⟩:=List.mem_map.1 (show e∈q1.map aa.str from he);exact(cU.str q).eM _
theorem agq{s:Bytes}(hs:s.length<2^40):∃v ag,bS 25 [.str s] ⟨0,.nil⟩ v ag∧v=lm s:=by
 obtain⟨t,f,aR,AE,agr⟩:=ago (iX s);have mM:0≤(iX s).df:=Int.natCast_nonneg _
 have leaf:∀{k c:Int},iX s=⟨k,c,(ff s:Nat),0,0,[]⟩→(∀K,ca 23 [bB k c (ff s:Nat) 0 0 []] K (.tuple [.str t,.int .i64 f]) K) ∧
  (f=0→(t=s→(.tuple [bB k c (ff s:Nat) 0 0 [],.int .i64 0]:aa)=lm s)∧(¬t=s→(.tuple [bB 0 0 0 0 0 [],.int .i64 220]:aa)=lm s))∧(¬f=0→(.tuple [bB 0 0 0 0 0 [],.int .i64 220]:aa)=lm s):=by
  intro k c ak;refine⟨fun K=>⟨?_⟩,fun bf=>⟨fun bW=> ?_,fun bW=> ?_⟩,fun bf=> ?_⟩
  ·have:=J1 mM K;rw [aR,ak]at this;exact this
  ·have:named s=some (iX s):=by unfold named;rw [AE bf,bW,if_pos rfl]
   unfold lm;rw [this,ak];rfl
  ·have:named s=none:=by unfold named;rw [AE bf,if_neg (fun q=>bW (Option.some.inj q))]
   unfold lm;rw [this]
  ·have:named s=none:=by unfold named;rw [agr bf,if_neg (fun q=>by cases q)]
   unfold lm;rw [this]
 obtain⟨J5,e8,g1⟩:=af3 (H:=J.ar 7 [(0,cz (bB 0 0 0 0 0 [])),(2,cz (bB 0 0 0 0 0 []))]) (B:=0) (p:=2) (s:=s) (Nat.zero_le _) (by show 2<7;omega) hs rfl;have wW:J5.get 0=some (cz (bB 0 0 0 0 0 [])):=(g1.old 0 (by show 0<7;omega) ab).trans rfl
 have Dr:=e8.post (eL.drop (base:=0) (n:=114) (F:=kN 2 s (c7 s) 3) (h:=J5) (K:=10) (l:=[(0,cz (bB 0 0 0 0 0 [])),(2,cz (bB 0 0 (ff s:Nat) 0 0 []))]) (by simp only [List.map_cons,List.map_nil,wW,g1.get]) rfl rfl rfl
  (bR.cons trivial (bR.cons (by simp [ch,Go.cf.cp]) (bR.cons (by simp [ch,Go.cf.cp]) (bR.cons trivial (bR.cons ((cU.of rfl).eM _) (bR.cons trivial bR.nil)))))) (bR.cons (Dq _ _ _ _) (bR.cons (Dq _ _ _ _) bR.nil)))
 obtain⟨ue,l2,g2⟩:=af6 (H:=J.ar 34 [(0,cz (bB 0 0 0 0 0 [])),(2,cz (bB 2 0 (ff s:Nat) 0 0 [])),(33,ij)]) (B:=0) (p:=2) (q:=33) (m:=ff s) (s:=s) (r:=c7 s) (Nat.zero_le _) (by show 2<34;omega) (by show 33<34;omega) ab rfl 14 0 _ ab ab ⟨rfl,Nat.le_refl _,fun _ _ _=>rfl⟩;have ags:ue.get 0=some (cz (bB 0 0 0 0 0 [])):=(g2.old 0 (by show 0<34;omega) ab).trans rfl;have agt:ue.get 33=some ij:=(g2.old 33 (by show 33<34;omega) ab).trans rfl;have RX:=g2.get;rw [RU]at RX
 have Ds:=(fw.hQ l2).post (eL.drop (base:=0) (n:=114) (F:=sy 2 33 s (c7 s) 14) (h:=ue) (K:=70) (l:=[(0,cz (bB 0 0 0 0 0 [])),(2,cz (bB 2 (l1 (c7 s):Nat) (ff s:Nat) 0 0 [])),(33,ij)]) (by simp only [List.map_cons,List.map_nil,ags,RX,agt]) rfl rfl rfl
  (bR.cons trivial (bR.cons (by simp [ch,Go.cf.cp]) (bR.cons (by simp [ch,Go.cf.cp]) (bR.cons trivial (bR.cons (by simp [ch,Go.cf.cp]) (bR.cons trivial (bR.cons trivial bR.nil))))))) (bR.cons (Dq _ _ _ _) (bR.cons (Dq _ _ _ _) (bR.cons (agp _) bR.nil))))
 have bi:∀m:Int,J.rows 10 [(0,cz (bB 0 0 0 0 0 [])),(2,cz (bB 0 0 m 0 0 []))]=J.ar 10 [(0,cz (bB 0 0 0 0 0 [])),(2,cz (bB 0 0 m 0 0 []))]:=by intro m;kernel_rfl
 have bu:∀m w:Int,J.rows 70 [(0,cz (bB 0 0 0 0 0 [])),(2,cz (bB 2 w m 0 0 [])),(33,ij)]=J.ar 70 [(0,cz (bB 0 0 0 0 0 [])),(2,cz (bB 2 w m 0 0 [])),(33,ij)]:=by intro m w;kernel_rfl
 have b7:∀m:Int,(⟨(J.ar 33 [(0,cz (bB 0 0 0 0 0 [])),(2,cz (bB 2 0 m 0 0 []))]).U+1,(J.ar 33 [(0,cz (bB 0 0 0 0 0 [])),(2,cz (bB 2 0 m 0 0 []))]).aH⟩:J).set 33 ij=J.ar 34 [(0,cz (bB 0 0 0 0 0 [])),(2,cz (bB 2 0 m 0 0 [])),(33,ij)]:=by intro m;kernel_rfl
 rw [bi]at Dr;rw [bu]at Ds
 have p1:bS 50 [.str zD] (J.ar 33 [(0,cz (bB 0 0 0 0 0 [])),(2,cz (bB 2 0 (ff s:Nat) 0 0 []))]) (.slice (some ⟨33,0,0,0,1⟩) 14 14) (J.ar 34 [(0,cz (bB 0 0 0 0 0 [])),(2,cz (bB 2 0 (ff s:Nat) 0 0 [])),(33,ij)]):=by have:=J0 (J.ar 33 [(0,cz (bB 0 0 0 0 0 [])),(2,cz (bB 2 0 (ff s:Nat) 0 0 []))]);rw [←b7];exact this
 have ah9:=J0 (J.ar 33 [(0,cz (bB 0 0 0 0 0 [])),(2,cz (bB 2 0 (ff s:Nat) 0 0 []))]);have J9:∀K,bS 54 [.str (c7 s)] K (.tuple [.int .i32 ((first (c7 s)).1:Int),.int .i64 ((first (c7 s)).2.1:Int)]) K:=fun K=>MZ (c7 s) K
 have wl:c7 s=q0→iX s=⟨1,32,(ff s:Nat),0,0,[]⟩:=by intro h;unfold iX uc ud;rw [h];rfl
 have wm:¬c7 s=q0→c7 s=sv→iX s=⟨1,43,(ff s:Nat),0,0,[]⟩:=by intro _ h;unfold iX uc ud;rw [h];rfl
 have wo:¬c7 s=q0→ ¬c7 s=sv→((first (c7 s)).2.1:Int)=(c7 s).length→iX s=⟨1,((first (c7 s)).1:Int),(ff s:Nat),0,0,[]⟩:=by intro ac ai a8;have a8:(first (c7 s)).2.1=(c7 s).length:= ab;unfold iX uc ud;rw [if_pos (.inr (.inr a8)),if_neg ac,if_neg ai,if_pos a8]
 have J':¬c7 s=q0→ ¬c7 s=sv→ ¬((first (c7 s)).2.1:Int)=(c7 s).length→iX s=⟨2,if l1 (c7 s)=0 then pO (c7 s)else(l1 (c7 s):Nat),(ff s:Nat),0,0,[]⟩:=by intro ac ai a8;have a8:¬(first (c7 s)).2.1=(c7 s).length:= ab;unfold iX uc ud;rw [if_neg (by rintro (h|h|h)<;>contradiction),if_neg ac,if_neg ai,if_neg a8]
 have ah':=RU (c7 s)▸RS (c7 s) 14
 have aia:(c7 s).length≤s.length:=by
  have aw:∀p r,(fA p r).length≤r.length:=by intro p r;unfold fA;split<;>simp
  exact Nat.le_trans (aw _ _) (Nat.le_trans (aw _ _) (aw _ _))
 have w6:(pN (c7 s)).length<2^40:=by
  have:(pN (c7 s)).length≤(c7 s).length:=by unfold pN fA;split<;>simp
  omega
 have wq:¬c7 s=q0→ ¬c7 s=sv→ ¬((first (c7 s)).2.1:Int)=(c7 s).length→pO (c7 s)=0→iX s=⟨2,(l1 (c7 s):Nat),(ff s:Nat),0,0,[]⟩:=by
  intro ac ai a8 bQ;rw [J' ac ai a8,bQ];split
  ·rename_i q;rw [q];rfl
  ·rfl
 have bad:(∀v,atoiAll (pN (c7 s))≠ .ok v)→ ∃n T,∀K,bS 55 [.str (pN (c7 s))] K (.tuple [.int .i64 n,.iface T .undef]) K:=fun h=>⟨_,_,fun K=>afN w6 h K⟩
 cases aT:atoiAll (pN (c7 s))with
 |ok n =>
  have me:=afM w6 aT
  refine agn s (c7 s) (pN (c7 s)) t (ff s:Nat) ((first (c7 s)).1:Int) ((first (c7 s)).2.1:Int) (l1 (c7 s):Nat) n f (fun v _=>v=lm s)
   ⟨Dr,fun ac=>⟨(leaf (wl ac)).1 _,(leaf (wl ac)).2⟩,fun ac=>⟨fun ai=>⟨(leaf (wm ac ai)).1 _,(leaf (wm ac ai)).2⟩,fun ai=>⟨⟨J9 _⟩,fun a8=>⟨(leaf (wo ac ai a8)).1 _,(leaf (wo ac ai a8)).2⟩,fun a8=>⟨⟨p1⟩,Ds,⟨J8 _ _ _⟩,⟨me _⟩,fun a6=>⟨fun n2=>⟨fun eY=> ?_,fun eY=> ?_⟩,fun n2=> ?_⟩,fun a6=> ?_⟩⟩⟩⟩
  ·have Fj:l1 (c7 s)=0:= ab
   have ak:iX s=⟨2,21+n-1,(ff s:Nat),0,0,[]⟩:=by rw [J' ac ai a8,if_pos Fj];unfold pO;rw [aT];simp only;rw [if_pos ⟨a6,n2⟩,show(20:Int)+n=21+n-1 by omega]
   exact⟨⟨ab,ab⟩,⟨ab,ab⟩,⟨ab,ab⟩,(leaf ak).1 _,(leaf ak).2⟩
  ·have ak:iX s=⟨2,(l1 (c7 s):Nat),(ff s:Nat),0,0,[]⟩:=by rw [J' ac ai a8,if_neg ab]
   exact⟨(leaf ak).1 _,(leaf ak).2⟩
  ·have ak:=wq ac ai a8 (by unfold pO;rw [aT];simp only;rw [if_neg (fun q=>n2 q.2)]);exact⟨(leaf ak).1 _,(leaf ak).2⟩
  ·have ak:=wq ac ai a8 (by unfold pO;rw [aT];simp only;rw [if_neg (fun q=>a6 q.1)]);exact⟨(leaf ak).1 _,(leaf ak).2⟩
 |range =>
  obtain⟨n,T,me⟩:=bad (fun v q=>by rw [aT]at q;cases q)
  exact RW s (c7 s) (pN (c7 s)) t (ff s:Nat) ((first (c7 s)).1:Int) ((first (c7 s)).2.1:Int) (l1 (c7 s):Nat) n f T (fun v _=>v=lm s)
   ⟨Dr,fun ac=>⟨(leaf (wl ac)).1 _,(leaf (wl ac)).2⟩,fun ac=>⟨fun ai=>⟨(leaf (wm ac ai)).1 _,(leaf (wm ac ai)).2⟩,fun ai=>⟨⟨J9 _⟩,fun a8=>⟨(leaf (wo ac ai a8)).1 _,(leaf (wo ac ai a8)).2⟩,fun a8=>⟨⟨p1⟩,Ds,⟨J8 _ _ _⟩,⟨me _⟩,(leaf (wq ac ai a8 (by unfold pO;rw [aT]))).1 _,(leaf (wq ac ai a8 (by unfold pO;rw [aT]))).2⟩⟩⟩⟩
 | _ =>
   obtain⟨n,T,me⟩:=bad (fun v q=>by rw [aT]at q;cases q)
   exact RW s (c7 s) (pN (c7 s)) t (ff s:Nat) ((first (c7 s)).1:Int) ((first (c7 s)).2.1:Int) (l1 (c7 s):Nat) n f T (fun v _=>v=lm s)
    ⟨Dr,fun ac=>⟨(leaf (wl ac)).1 _,(leaf (wl ac)).2⟩,fun ac=>⟨fun ai=>⟨(leaf (wm ac ai)).1 _,(leaf (wm ac ai)).2⟩,fun ai=>⟨⟨J9 _⟩,fun a8=>⟨(leaf (wo ac ai a8)).1 _,(leaf (wo ac ai a8)).2⟩,fun a8=>⟨⟨p1⟩,Ds,⟨J8 _ _ _⟩,⟨me _⟩,(leaf (wq ac ai a8 (by unfold pO;rw [aT]))).1 _,(leaf (wq ac ai a8 (by unfold pO;rw [aT]))).2⟩⟩⟩⟩
theorem agu(s:Bytes):(lm s).mo=true:=by unfold lm;split<;>rfl
theorem RY{s:Bytes}(hs:s.length<2^40)(H:J):bS 25 [.str s] H (lm s) H :=
 b1.eT (agq hs) rfl (agu s) H
end Go.Proofs.YtddnafghiejcoaaGreatDoor
namespace Go.Keys
open Go.Lib
theorem RZ(r:Nat):(put r).length≤4:=by
 unfold put;dsimp only;by_cases bf:55296≤r∧r≤57343∨1114111<r
 ·rw [if_pos bf];decide
 ·rw [if_neg bf]
  repeat' split
  all_goals simp
theorem agv{e:Bytes}{a:Nat}(aT:a<10000000000):(eO e [a]).length≤20+e.length:=by have:=kH (n:=a) (k:=9) (by simpa using aT);simp only [eO,d',List.length_cons,List.length_append]at *;omega
theorem R0{e:Bytes}{a b:Nat}(aT:a<10000000000)(ax:b<10000000000):(eO e [a,b]).length≤40+e.length:=by have ac:=kH (n:=a) (k:=9) (by simpa using aT);have ai:=kH (n:=b) (k:=9) (by simpa using ax);simp only [eO,d',List.length_cons,List.length_append]at *;omega
theorem agw{r m:Nat}(bc:r<10000000000)(hm:m≤7):(jL r m).length≤64:=by
 have ah:=RZ r;have aw:=R0 (e:=[117]) (a:=r) (b:=m+1) bc ab;simp only [List.length_cons,List.length_nil]at aw;unfold jL
 repeat' split
 all_goals (first|(simp only [List.length_cons,List.length_nil];omega)|omega)
theorem agx{k m:Nat}{b:Bytes}(hm:m≤7)(h:kG k m=some b):b.length≤64:=by
 have hs : nG k < 10000000000 := by unfold nG;repeat' split
                                    all_goals omega
 have bf:∀c:UInt8,(eO [c] []).length≤20:=by intro c;simp [eO,d']
 have ac:∀(c:UInt8) n,n<10000000000→(eO [c] [n]).length≤64:=by intro c n aR;have:=agv (e:=[c]) aR;simp only [List.length_cons,List.length_nil]at this;omega
 have ai:∀(c:UInt8) n,n<10000000000→(eO [c] [n,m+1]).length≤64:=by intro c n aR;have:=R0 (e:=[c]) (b:=m+1) aR ab;simp only [List.length_cons,List.length_nil]at this;omega
 unfold kG at h;split at h
 ·repeat' split at h
  all_goals (simp only [Option.some.injEq]at h;subst h)
  ·simp
  ·simp
  ·exact Nat.le_trans (bf _) ab
  ·exact ai _ _ hs
 ·split at h
  ·split at h;all_goals (simp only [Option.some.injEq]at h;subst h)
   ·exact Nat.le_trans (bf _) ab
   ·exact ai _ _ ab
  ·split at h
   ·simp only [Option.some.injEq]at h;subst h;simp
   ·split at h
    ·rename_i n aR;have tl:=(JL aR).2.2;split at h;all_goals (simp only [Option.some.injEq]at h;subst h)
     ·exact ac _ _ ab
     ·exact ai _ _ ab
    ·cases h
theorem agy{c m x y:Nat}(aw:c≤6)(hm:m≤7)(aj:x<4096)(bV:y<4096):(lX c m x y).length≤64:=by have ax:=(JM ⟨c,ab⟩ ⟨m,ab⟩).2.2;simp only at ax;have ac:=kH (n:=gp c+4*m) (k:=9) (by simp;omega);have ai:=kH (n:=x+1) (k:=9) (by simp;omega);have a8:=kH (n:=y+1) (k:=9) (by simp;omega);simp only [lX,d',List.length_cons,List.length_append,List.length_nil]at *;omega
theorem agz{e:bl}{b:Bytes}(bf:0≤e.df)(h:enc e=some b):b.length≤70000:=by
 obtain⟨kind,code,df,x,y,text⟩:=e;simp only at bf;unfold enc at h;simp only at h;split at h
 ·split at h
  ·rename_i hm;simp only [Option.some.injEq]at h;simp only [ss,Bool.and_eq_true,decide_eq_true_eq]at hm;obtain⟨⟨⟨⟨⟨⟨⟨c0,kZ⟩,m7⟩,jA⟩,kY⟩,Db⟩,o2⟩,_⟩:=hm;subst h;exact Nat.le_trans (agy ab ab ab ab) ab
  ·cases h
 ·split at h
  ·cases h
  ·rename_i Ro;split at h
   ·rename_i au;obtain⟨_,_,hs⟩:=au;simp only [Option.some.injEq]at h;subst h;have agA:=(pF hs).1;exact Nat.le_trans (agw (by unfold Scalar at agA;omega) ab) ab
   ·split at h
    ·split at h
     ·exact Nat.le_trans (agx ab h) ab
     ·cases h
    ·split at h
     ·simp only [Option.some.injEq]at h;subst h;decide
     ·split at h
      ·simp only [Option.some.injEq]at h;subst h;decide
      ·split at h
       ·rename_i aZ;simp only [Option.some.injEq]at h;subst h;have:=aZ.2.1;simp only [List.length_append,mL,dW,List.length_cons,List.length_nil];omega
       ·split at h
        ·rename_i aZ;split at h
         ·simp only [Option.some.injEq]at h;subst h;have:=aZ.2;simp only [List.length_cons];omega
         ·cases h
        ·cases h
theorem agB:enc (er 4 0)=some [27]:= aS
theorem agC:dd zero [27]=(⟨.dj,[27],[],[]⟩,[]):= aS
theorem agD:flush ⟨.dj,[27],[],[]⟩=(zero,[er 4 0]):= aS
theorem R1:flush zero=(zero,[]):= aS
theorem R2:∀m:Fin 8,(ii m.val).length≤16:= aS
theorem agE:∀k:Fin 33,(zC k.val).length≤16:= aS
theorem agF{e:bl}{s:Bytes}(bf:0≤e.df)(h:iV e=some s):s.length≤40:=by
 have ag:=h;unfold iV at ag;split at ag
 ·rename_i aw;obtain⟨b,ax⟩:=RL aw.1;rcases aw.2 with au|au
  ·obtain⟨c,m,rfl,hm,gA⟩:=JY bf ax au;rw [zB ax]at h;simp only [Option.some.injEq]at h;subst h;have ac:=R2 ⟨m,ab⟩
   have ai:(l0 c).length≤5:=by
    have:=RZ c;unfold l0;split
    ·decide
    ·split
     ·decide
     ·omega
   simp only [List.length_append]at *;omega
  ·obtain⟨k,m,rfl,hm,aR⟩:=JX bf ax au;rw [Di ax]at h;simp only [Option.some.injEq]at h;subst h;have ac:=R2 ⟨m,ab⟩;have ai:=agE ⟨k,ab⟩;rw [JZ ab];simp only [List.length_append]at *;omega
 ·cases ag
end Go.Keys
namespace Go.Proofs.YtddnafghiejcoaaGreatDoor
open Go.cf Go.Keys
set_option maxRecDepth 1000000
theorem agG{h:J}{x:Nat}{k c m y z e6 ft gH gG fI:Int}{t eQ:Bytes}(e:h.get x=some (cz (bB k c m y z t))):hL (bY.D env) 42 ⟨x,0,0,0,6⟩ (bB e6 ft gH gG fI eQ) h=some (h.set x (cz (bB e6 ft gH gG fI eQ))):=by have bZ:(bY.D env 42).map (fun d=>(d.kind.isAgg,d.size))=some (true,6):= ay;obtain⟨x,ac,ai⟩:=Option.map_eq_some_iff.1 bZ;simp only [Prod.mk.injEq]at ai;unfold hL;rw [ac,e];simp [aa.fits,ai.1,ai.2,af.an,sE,aa.cells,iZ];exact⟨rfl,rfl,rfl,rfl,rfl,rfl⟩
end Go.Proofs.YtddnafghiejcoaaGreatDoor
namespace Go.Proofs.YtddnafghiejcoaaGreatDoor
open Go.cf
set_option maxRecDepth 1000000
theorem agH:AQ (n6 Tryz.prog env 400 19 [] ⟨0,.nil⟩)=true:=by decide+kernel
theorem R3(H:J):bS 19 [] H (.bool true) H:=by obtain⟨ag,aw⟩:=UU agH;exact(b1.uR eN mixed aw).bare aM (cU.bool _) H
end Go.Proofs.YtddnafghiejcoaaGreatDoor
namespace Go.Proofs.YtddnafghiejcoaaGreatDoor
open Go.cf Go.Keys
set_option maxRecDepth 1000000
structure pQ(H:J)(col:Nat→Nat)(p:Nat)(e:bl):Prop where
 get:H.get p=some (cz (cB e))
 lt:p<H.U
 col:col p=11
theorem pQ.ga{H aQ:J}{col fc:Nat→Nat}{p:Nat}{e:bl}{L:List Nat}(h:pQ H col p e)(m:fM H aQ col fc L)(aw:11 ∉ L):pQ aQ fc p e :=
 ⟨by rw [m.get p h.lt (by rw [h.col];exact aw)];exact h.get,by have:=m.U;have:=h.lt;omega,by rw [m.col p h.lt (by rw [h.col];exact aw)];exact h.col⟩
theorem pQ.load{H:J}{col:Nat→Nat}{p:Nat}{e:bl}(h:pQ H col p e)(k:Nat):bM (bY.D env) 42 ⟨p,0,0,0,6⟩ ⟨H.U+k,H.aH⟩=some (cB e):=zw (h:=⟨H.U+k,H.aH⟩) h.get
theorem pQ.kind{H:J}{col:Nat→Nat}{p:Nat}{e:bl}(h:pQ H col p e)(k:Nat):bM (bY.D env) 40 ⟨p,0,0,0,6⟩ ⟨H.U+k,H.aH⟩=some (.int .i8 e.kind):=by have bZ:(bY.D env 40).map (fun d=>d.kind.isAgg)=some false:= ay;obtain⟨x,ac,ai⟩:=Option.map_eq_some_iff.1 bZ;have ak:(⟨H.U+k,H.aH⟩:J).get p=some (cz (cB e)):=h.get;unfold bM;rw [ac,ak];simp [af.elem?,af.cC,hZ,ai,af.an,cB]
theorem Dt(e:bl):(e.kind == e.kind&&(e.code == e.code&&(e.df == e.df&&(e.x == e.x&&(e.y == e.y&&(e.text == e.text&&true))))))=true:= aM
theorem R4(H K:J){col:Nat→Nat}{e:bl}{p:Nat}(b:pQ K col p e):∃gU ej gy,(∀F,bN env dF (K.U+20) (bD F) ⟨K.U+23,K.aH⟩ (Op.alloc 42)=some (.ptr (some ⟨K.U+20,0,0,0,6⟩),gU))∧hL (bY.D env) 42 ⟨K.U+20,0,0,0,6⟩ (cB e) gU=some ej∧K.U≤ej.U ∧
 bM (bY.D env) 42 ⟨K.U+20,0,0,0,6⟩ ⟨ej.U+15,ej.aH⟩=some (cB e)∧bM (bY.D env) 42 ⟨p,0,0,0,6⟩ ⟨ej.U+15,ej.aH⟩=some (cB e)∧bS 19 [] ⟨ej.U+15,ej.aH⟩ (.bool true) gy∧H.U≤gy.U:=by
 obtain⟨gU,Jt,agI,agJ,agK⟩:∃gU,(∀F,bN env dF (K.U+20) (bD F) ⟨K.U+23,K.aH⟩ (Op.alloc 42)=some (.ptr (some ⟨K.U+20,0,0,0,6⟩),gU))∧gU.get (K.U+20)=some (cz (bB 0 0 0 0 0 []))∧(∀x,x<K.U→gU.get x=K.get x)∧gU.U=K.U+23 :=
  ⟨(⟨K.U+23,K.aH⟩:J).set (K.U+20) (cz (bB 0 0 0 0 0 [])),fun F=> ay,J.gE _ _ _,fun x aj=>J.fg _ _ ab,rfl⟩
 have iK:=agG (e6:=e.kind) (ft:=e.code) (gH:=e.df) (gG:=e.x) (fI:=e.y) (eQ:=e.text) agI;obtain⟨ej,Du⟩:∃ej,gU.set (K.U+20) (cz (cB e))=ej:=⟨_,rfl⟩
 have agL:ej.get (K.U+20)=some (cz (cB e)):=by rw [←Du];exact J.gE _ _ _
 have agM:∀x,x<K.U→ej.get x=K.get x:=fun x aj=>by rw [←Du,J.fg _ _ ab];exact agJ x aj
 have aib:ej.U=K.U+23:=by rw [←Du];exact agK
 have iK:hL (bY.D env) 42 ⟨K.U+20,0,0,0,6⟩ (cB e) gU=some ej:=by rw [←Du];exact iK
 obtain⟨gy,fv⟩:∃fl,bS 19 [] ⟨ej.U+15,ej.aH⟩ (.bool true) fl:=⟨_,R3 _⟩
 exact⟨gU,ej,⟨gy.U+H.U,gy.aH⟩,Jt,iK,ab,zw (h:=⟨ej.U+15,ej.aH⟩) agL,zw (h:=⟨ej.U+15,ej.aH⟩) ((agM p b.lt).trans b.get),fv.pad (by show gy.U≤gy.U+H.U;omega) (fun _ _=>rfl),by show H.U≤gy.U+H.U;omega⟩
theorem agN(H:J){e:bl}(bf:0≤e.df):∃aQ,bS 10 [cB e] H (.bool true) aQ:=by
 have fb:∀{a b:Nat}{p:Prop},a≤b→p→_root_.cond (Nat.ble a b) p False:=fun h k=>by rw [Nat.ble_eq.mpr h];exact k
 have R5:∀K:J,∃fl,bS 19 [] K (.bool true) fl∧H.U≤fl.U:=by
  intro K;obtain⟨fl,h⟩:∃fl,bS 19 [] K (.bool true) fl:=⟨K,R3 K⟩
  exact⟨⟨fl.U+H.U,fl.aH⟩,h.pad (by show fl.U≤fl.U+H.U;omega) (fun _ _=>rfl),by show H.U≤fl.U+H.U;omega⟩
 have zI:∀F,bD F (.tmp 0)=cB e→bN env dF (H.U+0) (bD F) ⟨H.U+2,H.aH⟩ (Op.box 42 (Operand.tmp 0))=some (.ptr (some ⟨H.U,0,0,0,6⟩),(⟨H.U+2,H.aH⟩:J).set H.U (cz (cB e))):=fun F h=>RO h
 obtain⟨cT,sx⟩:∃cT,(⟨H.U+2,H.aH⟩:J).set H.U (cz (cB e))=cT:=⟨_,rfl⟩
 have aA:pQ cT (fun x=>if x=H.U then 11 else 0) H.U e:=⟨by rw [←sx];exact J.gE _ _ _,by rw [←sx];show H.U<H.U+2;omega,if_pos rfl⟩
 have e0:cT.U=H.U+2:=by rw [←sx];rfl
 rw [sx]at zI;obtain⟨w,c,H1,a6,bi,BS,dh⟩:=RC ⟨cT.U+7,cT.aH⟩ bf;have bi:cT.U+7≤H1.U:=bi;rcases dh with ⟨bs,j,j',rfl,xY,a1⟩|⟨j',rfl,rfl⟩
 rotate_left
 ·
   obtain⟨H2,n2,bu⟩:=R5 ⟨H1.U+8,H1.aH⟩
   obtain⟨v,ag,aE,rfl⟩:=afe H cT H1 H2 H.U e.kind e.code e.df e.x e.y e.text (fun v _=>v=.bool true)
    (aY (Nat.le_refl _) ⟨zI _ rfl,aY ab ⟨aA.load 7,⟨a6⟩,aY ab (aY ab ⟨⟨n2⟩,fb bu rfl⟩)⟩⟩)
   exact⟨_,aE⟩
 have a1:cT.U+7≤j:=a1;have hlen:=agz bf j';obtain⟨ds,rfl,Dg⟩:=xY.Dg (col:=fun x=>if x=H.U then 11 else if x=j then 5 else 0) (c:=5) (by show(if j=H.U then 11 else if j=j then 5 else 0)=5;rw [if_neg ab,if_pos rfl]);have a':pQ H1 (fun x=>if x=H.U then 11 else if x=j then 5 else 0) H.U e:=⟨by rw [BS H.U (by show H.U<cT.U+7;omega)];exact aA.get,ab,if_pos rfl⟩
 have f1:=fM.fresh H1 (fun x=>if x=H.U then 11 else if x=j then 5 else 0) 4;obtain⟨H2,d,cZ,c2,n2,d2,m2⟩:=jp.new ⟨H1.U+4,H1.aH⟩ (fresh H1 (fun x=>if x=H.U then 11 else if x=j then 5 else 0)) 1;have bu:H1.U+4≤H2.U:=m2.U;have bP:=(a'.ga f1 aM).ga m2 aM;have f2:=fM.fresh H2 c2 6;obtain⟨aX,ia,qO,c3,eY,d3,lM,m3⟩:=(d2.ga f2 aM).feed (m:=bs.length) vS ab (((Dg.ga f1 aM).ga m2 aM).ga f2 aM) aS;have b7:H2.U+6≤aX.U:=m3.U;have ei:=(bP.ga f2 aM).ga m3 aS
 have im:∀{K:J}{col:Nat→Nat}{v:aa},sp K col 7 6 k' v (([]:List bl).map cB)→v=.slice none 0 0:=by
  intro K col v g;rcases g.ex with g|⟨g,_⟩
  ·exact g.1
  ·exact absurd rfl g
 have AB:(e.kind=1∨e.kind=2)→ ∃s,iY e=.tuple [.str s,.int .i64 0]∧s.length<2^40∧lm s=.tuple [cB e,.int .i64 0]:=by
  intro au;have:(iV e).isSome=true:=by unfold iV;rw [if_pos ⟨by rw [j'];rfl,au⟩];rfl
  obtain⟨s,hs⟩:=Option.isSome_iff_exists.1 this;refine⟨s,by unfold iY;rw [hs],by have:=agF bf hs;omega,?_⟩;unfold lm;rw [afu bf hs]
 by_cases Ka:e=er 4 0
 ·
   subst Ka;rw [agB]at j';simp only [Option.some.injEq]at j';subst j';have aZ:dd h8 [27]=(⟨.dj,[27],[],[]⟩,[]):=agC;rw [aZ]at d3 lM;rw [im lM]at eY;have f3:=fM.fresh aX c3 9;obtain⟨bO,ia,RA,c4,hN,d4,vo,m4,cc⟩:=(d3.ga f3 aM).flush (by rw [←show(dd h8 [27]).1=⟨.dj,[27],[],[]⟩from by rw [aZ]];exact BD _ vS) (by show 1<2^40;decide);have cc:aX.U+9<bO.U:=cc;rw [agD]at d4 vo;have Dv:=(ei.ga f3 aM).ga m4 aS;obtain⟨o,cD,_⟩:=Je vo;obtain⟨ov,agO,agP,rfl,eu,eI⟩:=cD.cases;have f4:=fM.fresh bO c4 21;obtain⟨dC,agQ,c5,ha,d5,m5,iw⟩:=(d4.ga f4 aM).held (by show(0:Nat)<2^40;decide) (by show(0:Nat)<2^40;decide);have ha:bS 16 [.ptr (some ⟨d,0,0,0,6⟩)] ⟨bO.U+21,bO.aH⟩ (.int .i64 0) dC:=ha;have iw:bO.U+21<dC.U:=iw;obtain⟨fz,agR,aic,kZ,vT,d6,GV,m6,vK⟩:=d5.flush vS (by show(0:Nat)<2^40;decide);rw [R1]at GV;rw [im GV]at vT;have Dw:=((Dv.ga f4 aM).ga m5 aS).ga m6 aS;obtain⟨s,ec,qh,Kb⟩:=AB (.inr rfl);obtain⟨gU,ej,gy,t1,t2,t3,t4,t5,t6,t7⟩:=R4 H fz Dw;have nm:=J1 bf;rw [ec]at nm;have ig:=RY qh;rw [Kb]at ig;have bb:bM (bY.D env) 42 ⟨o,ov,0,0,6⟩ ⟨bO.U+21,bO.aH⟩=some (cB (er 4 0)):=Jc (i:=0) (h:=⟨bO.U+21,bO.aH⟩) eu aM
   obtain⟨v,ag,aE,rfl⟩:=afg H cT H1 H2 aX bO dC fz gU ej gy H.U d j ds o ov (fz.U+20) s (fun v _=>v=.bool true)
    (aY (Nat.le_refl _) ⟨zI _ rfl,aY ab ⟨aA.load 7,⟨a6⟩,aY ab (aY ab ⟨⟨n2⟩,aY ab (aY ab ⟨⟨eY⟩,aY ab ⟨ei.load 3,rfl,aY ab (aY ab ⟨⟨hN⟩,aY ab ⟨bb,Dv.load 21,rfl,⟨ha⟩,⟨vT⟩,aY ab ⟨Dw.kind 8,Dw.kind 8,aY ab ⟨Dw.load 15,⟨nm _⟩,aY ab ⟨⟨ig _⟩,t1 _,tV rfl rfl t2,aY ab ⟨t4,t5,rfl,⟨t6⟩,fb t7 rfl⟩⟩⟩⟩⟩⟩)⟩⟩)⟩)⟩⟩)
   exact⟨_,aE⟩
 ·have ax:bs≠[27]:=fun q=>Ka (aev bf (by rw [j',q]))
  have aZ:dd h8 bs=(h8,[e]):=aet bf j' ax;rw [aZ]at d3 lM;obtain⟨o,cD,_⟩:=Je lM;obtain⟨ov,agO,agP,rfl,eu,eI⟩:=cD.cases;have f3:=fM.fresh aX c3 24;obtain⟨bO,RA,c4,hN,d4,m4,cc⟩:=(d3.ga f3 aM).held (by show(0:Nat)<2^40;decide) (by show(0:Nat)<2^40;decide);have hN:bS 16 [.ptr (some ⟨d,0,0,0,6⟩)] ⟨aX.U+24,aX.aH⟩ (.int .i64 0) bO:=hN;have cc:aX.U+24<bO.U:=cc;obtain⟨dC,agR,agQ,c5,ha,d5,vp,m5,iw⟩:=d4.flush vS (by show(0:Nat)<2^40;decide);rw [show Keys.flush h8=(h8,[])from R1]at vp;rw [im vp]at ha;have mP:=((ei.ga f3 aM).ga m4 aS).ga m5 aS;have bb:bM (bY.D env) 42 ⟨o,ov,0,0,6⟩ ⟨aX.U+24,aX.aH⟩=some (cB e):=Jc (i:=0) (h:=⟨aX.U+24,aX.aH⟩) eu aM
  have ne:(e.kind == 2&&(e.code == 4&&(e.df == 0&&(e.x == 0&&(e.y == 0&&(e.text ==[]&&true))))))=false:=by rw [Bool.eq_false_iff];intro q;simp only [Bool.and_eq_true,beq_iff_eq,and_true]at q;obtain⟨dh,du,fE,k2,ns,tw⟩:=q;exact Ka (by cases e;simp only at dh du fE k2 ns tw;subst dh du fE k2 ns tw;rfl)
  have nm:=J1 bf;obtain⟨fz,vT,vK⟩:=R5 ⟨dC.U+25,dC.aH⟩
  have two:(e.kind=1∨e.kind=2)→ ∃v ag,bS 10 [cB e] H v ag∧v=.bool true:=by
   intro au;obtain⟨s,ec,qh,Kb⟩:=AB au;obtain⟨gU,ej,gy,t1,t2,t3,t4,t5,t6,t7⟩:=R4 H dC mP;rw [ec]at nm;have ig:=RY qh;rw [Kb]at ig
   exact RE H cT H1 H2 aX bO dC fz gU ej gy H.U d j ds bs.length o ov (dC.U+20) e.kind e.code e.df e.x e.y e.text s (fun v _=>v=.bool true)
    (aY (Nat.le_refl _) ⟨zI _ rfl,aY ab ⟨aA.load 7,⟨a6⟩,aY ab (aY ab ⟨⟨n2⟩,aY ab (aY ab ⟨⟨eY⟩,aY ab ⟨ei.load 3,by rw [ne],aY ab ⟨bb,ei.load 24,by rw [Dt];rfl,⟨hN⟩,⟨ha⟩,aY ab ⟨mP.kind 8,
     fun _=>aY ab ⟨mP.load 15,⟨nm _⟩,aY ab ⟨⟨ig _⟩,t1 _,tV rfl rfl t2,aY ab ⟨t4,t5,by rw [Dt],⟨t6⟩,fb t7 rfl⟩⟩⟩,
     fun aK=>⟨mP.kind 8,fun _=>aY ab ⟨mP.load 15,⟨nm _⟩,aY ab ⟨⟨ig _⟩,t1 _,tV rfl rfl t2,aY ab ⟨t4,t5,by rw [Dt],⟨t6⟩,fb t7 rfl⟩⟩⟩,fun aP=>absurd (au.resolve_left aK) aP⟩⟩⟩⟩⟩)⟩)⟩⟩)
  by_cases au:e.kind=1∨e.kind=2
  ·obtain⟨v,ag,aE,rfl⟩:=two au;exact⟨_,aE⟩
  ·have jf:iY e=.tuple [.str [],.int .i64 220]:=by
    have:iV e=none:=by unfold iV;rw [if_neg (fun q=>au q.2)]
    unfold iY;rw [this]
   rw [jf]at nm
   obtain⟨v,ag,aE,rfl⟩:=RE H cT H1 H2 aX bO dC fz fz fz fz H.U d j ds bs.length o ov 0 e.kind e.code e.df e.x e.y e.text [] (fun v _=>v=.bool true)
    (aY (Nat.le_refl _) ⟨zI _ rfl,aY ab ⟨aA.load 7,⟨a6⟩,aY ab (aY ab ⟨⟨n2⟩,aY ab (aY ab ⟨⟨eY⟩,aY ab ⟨ei.load 3,by rw [ne],aY ab ⟨bb,ei.load 24,by rw [Dt];rfl,⟨hN⟩,⟨ha⟩,aY ab ⟨mP.kind 8,
     fun aK=>absurd (.inl aK) au,fun _=>⟨mP.kind 8,fun aP=>absurd (.inr aP) au,fun _=>aY ab ⟨mP.load 15,⟨nm _⟩,aY ab ⟨⟨vT⟩,fb vK rfl⟩⟩⟩⟩⟩⟩⟩)⟩)⟩⟩)
   exact⟨_,aE⟩
end Go.Proofs.YtddnafghiejcoaaGreatDoor
namespace Go.cf
noncomputable section
open Go.RowKit Go.ChangeShapes Go.WideShapes Go.ChangeAt
structure aid(w:World)(b:af)(p:Place):Prop where
 ro:p.ro=true
 aie:b.ro=true
 ad:b.ad=0
 es:p.es=b.es
 pos:0<p.es
 exact:p.exact=b.exact
 row:∀(φ:Map)(S:Nat→Prop),Row φ S b 0 p w
 bare:dy b
theorem b1.law{P:Program}{C:(Nat→Prop)→World→Prop}{f:FuncId}{args:List aa}{h ag:J}(k:b1 P C f args h (.bool true) ag){w:World}(fm:C (fun k=>k<w.heap.size) w){φ:Map}(aC:cS φ (fun k=>k<w.heap.size) h w){dk:Array Value}(aT:bz φ args dk.toList) :
 Calls P f dk w fun e bq=>e=.returned (.bool true)∧Below w.heap.size w bq:=by
 have:=(k (fun k=>k<w.heap.size) w (fun _ h=>h) fm _ w dk aC (Safe.refl _ _) aT).2
 exact this.mono fun e bq ⟨br,bE,ac,_,ai,_,a8,_⟩=>by simp only [aL]at ai;subst ai;exact⟨ac,a8.below⟩
end
end Go.cf
namespace Go.cf
noncomputable section
open Go.RowKit Go.ChangeShapes Go.WideShapes Go.ChangeAt
def zJ(P:Program):Nat→TypeId→Nat→Option kR
 |0,_,_=>none
 |d+1,t,c =>
  match P.underlying t with
  |some (.int k)=>if c=0 then some (.int k)else none
  |some .bool=>if c=0 then some .bool else none
  |some .string=>if c=0 then some .string else none
  |some (.struct fs)=>fs.toList.findSome? fun f=>if f.offset≤c∧c<f.offset+P.cellsOf f.type then zJ P d f.type (c-f.offset)else none
  |some (.array n e)=>if c/P.cellsOf e<n then zJ P d e (c%P.cellsOf e)else none
  |_=>none
def zK:kR→Value→Prop
 |.int k,v=> ∃n,v=.int k n∧(Lit.int k n).wf=true
 |.bool,v=> ∃b,v=.bool b
 |.string,v=> ∃s:ByteArray,v=.string s∧s.size≤maxLen
 |_,_=>False
section
variable {H:Type}{enc:TypeId×Value→H}{P:Program}{w:World}{base:Nat}{spare:Nat→Bool}{held:Bool}
theorem agS:∀(d:Nat){t:TypeId}{c:Nat}{k:kR}{dl:Nat}{bm:List Value}{x:DataW H×List MemPlace},zJ P d t c=some k→DataW.trod enc P w base spare held dl t bm=some x→ ∃v,bm[c]? =some v∧zK k v:=by
 intro d;induction d with
 |zero=>intro t c k dl bm x h;cases h
 |succ d ih =>
  intro t c k dl bm x h aj;simp only [zJ]at h;split at h
  ·rename_i l9 hu;split at h
   ·rename_i aw;subst aw;simp only [Option.some.injEq]at h;subst h;obtain⟨n,rfl,_,hw⟩:=DataW.trod_int hu aj;exact⟨_,rfl,n,rfl,hw⟩
   ·cases h
  ·rename_i hu;split at h
   ·rename_i aw;subst aw;simp only [Option.some.injEq]at h;subst h;obtain⟨b,rfl,_⟩:=DataW.trod_bool hu aj;exact⟨_,rfl,b,rfl⟩
   ·cases h
  ·rename_i hu;split at h
   ·rename_i aw;subst aw;simp only [Option.some.injEq]at h;subst h;obtain⟨s,rfl,_,hs⟩:=DataW.trod_string hu aj;exact⟨_,rfl,s,rfl,hs⟩
   ·cases h
  ·rename_i fs hu;obtain⟨f,aZ,au⟩:=List.exists_of_findSome?_eq_some h;split at au
   ·rename_i aw;obtain⟨xs,n,_,_,aC,rA,Af⟩:=DataW.trod_struct hu aj;obtain⟨j,a1,agT⟩:=List.mem_iff_getElem.1 aZ;have Jw:fs[j]? =some f:=by rw [←Array.getElem?_toList,List.getElem?_eq_getElem a1,agT]
    have ac:=Af j f Jw;rw [List.getElem?_eq_getElem (by rw [rA];simpa using a1)]at ac;obtain⟨v,bh,zL⟩:=ih au ac;rw [List.getElem?_take]at bh;split at bh
    ·rw [List.getElem?_drop,show f.offset+(c-f.offset)=c by omega]at bh;exact⟨v,bh,zL⟩
    ·cases bh
   ·cases au
  ·rename_i n e hu;split at h
   ·rename_i aw;obtain⟨xs,m,_,_,aC,rA,ck⟩:=DataW.trod_array hu aj;have ac:=ck _ aw;rw [List.getElem?_eq_getElem ab]at ac;obtain⟨v,bh,zL⟩:=ih h ac;rw [List.getElem?_take]at bh;split at bh
    ·rw [List.getElem?_drop,Nat.mul_comm,Nat.div_add_mod]at bh;exact⟨v,bh,zL⟩
    ·cases bh
   ·cases h
  ·cases h
theorem Sh{t:TypeId}{ts:List TypeId}{d:DataW H}{uh:List (DataW H)}{R:Nat}(h:∀y∈DataW.weightsEach P (t::ts) (d::uh),y≤R):(∀y∈d.weights P t,y≤R)∧∀y∈DataW.weightsEach P ts uh,y≤R :=
 ⟨fun y bV=>h y (by simp [DataW.weightsEach,bV]),fun y bV=>h y (by simp [DataW.weightsEach,bV])⟩
def ug:aa→Int
 |.int _ n=>n
 |_=>0
theorem zK.int{k:IntKind}{v:Value}(h:zK (.int k) v):gV v=.int k (ug (gV v))∧(Lit.int k (ug (gV v))).wf=true:=by obtain⟨n,rfl,hw⟩:=h;exact⟨rfl,hw⟩
theorem Sk{t:TypeId}{d sz:Nat}{ks:List kR}(aw:P.cellsOf t=sz)(nb:(List.range sz).map (zJ P d t)=ks.map some){bm:Array Value}(fq:bm.size=P.cellsOf t){gq:DataW H}{ps:List MemPlace}
 (h:DataW.Trod enc P w base spare held t (.agg bm) gq ps):(∀φ:Map,aL φ (.agg (bm.toList.map gV)) (.agg bm))∧(∀j,j<sz→ ∃v k,bm.toList[j]? =some v∧ks[j]? =some k∧zK k v):=by
 refine⟨fun φ=> ?_,fun j a1=> ?_⟩
 ·simp only [aL];refine⟨bm,rfl,?_⟩;have:=bz.map (φ:=φ) bm.toList gV id (fun x _=>z7 φ x);simpa using this
 ·obtain⟨dl,aZ⟩:=h;have agU:DataW.trod enc P w base spare held dl t bm.toList=some (gq,ps):=aZ;have ac:=congrArg (fun(l:List (Option kR))=>l[j]?) nb;simp only [List.getElem?_map,List.getElem?_range a1,Option.map_some]at ac;cases au:ks[j]? with
  |none=>rw [au]at ac;cases ac
  |some k =>
   rw [au]at ac;simp at ac;obtain⟨v,bh,zL⟩:=agS d ac agU;exact⟨v,k,bh,rfl,zL⟩
end
end
end Go.cf
namespace Go.cf
noncomputable section
open Go.RowKit Go.ChangeShapes Go.WideShapes Go.ChangeAt
section
variable {H:Type}{enc:TypeId×Value→H}{P:Program}{w:World}{base:Nat}{spare:Nat→Bool}{held:Bool}
end
end
end Go.cf
namespace Go.Proofs.YtddnafghiejcoaaGreatDoor
open Go.cf Go.Keys
set_option maxRecDepth 1000000
def R6:aa→Bytes
 |.str b=>b
 |_=> []
def Dz:List kR:=[.int .i8,.int .i32,.int .u8,.int .i64,.int .i64,.string]
theorem Sl{bm:Array Value}{h:J}(hs:bm.size=6)(he:∀j,j<6→ ∃v k,bm.toList[j]? =some v∧Dz[j]? =some k∧zK k v) :
 ∃ag,bS 10 [.agg (bm.toList.map gV)] h (.bool true) ag:=by
 obtain⟨v0,bx,j7,a0,aA⟩:=he 0 ab;obtain⟨v1,aK,et,av,a'⟩:=he 1 ab;obtain⟨v2,aP,l2,a2,bP⟩:=he 2 ab;obtain⟨v3,bt,lM,a3,ei⟩:=he 3 ab;obtain⟨v4,g',vo,a4,Dv⟩:=he 4 ab;obtain⟨v5,h6,vp,a5,mP⟩:=he 5 ab
 have aC:bm.toList=[v0,v1,v2,v3,v4,v5]:=by
  apply List.ext_getElem?;intro j;rcases Nat.lt_or_ge j 6 with h|h
  ·have aw:j=0∨j=1∨j=2∨j=3∨j=4∨j=5:= ab;rcases aw with rfl|rfl|rfl|rfl|rfl|rfl<;>assumption
  ·rw [List.getElem?_eq_none (by rw [Array.length_toList];omega),List.getElem?_eq_none (by simpa using h)]
 simp only [Dz,List.getElem?_cons_zero,List.getElem?_cons_succ,Option.some.injEq]at a0 av a2 a3 a4 a5;subst a0 av a2 a3 a4 a5
 have ns:gV v5=.str (R6 (gV v5)):=by obtain⟨s,iw,_⟩:=mP;rw [iw];rfl
 have bh:aa.agg (bm.toList.map gV)=cB ⟨ug (gV v0),ug (gV v1),ug (gV v2),ug (gV v3),ug (gV v4),R6 (gV v5)⟩:=by rw [aC];show aa.agg [gV v0,gV v1,gV v2,gV v3,gV v4,gV v5]=_;rw [aA.int.1,a'.int.1,bP.int.1,ei.int.1,Dv.int.1,ns];rfl
 rw [bh];refine agN h ?_;have:=bP.int.2;simp [Lit.wf,IntKind.min,IntKind.max,IntKind.signed,IntKind.bits]at this;exact this.1
end Go.Proofs.YtddnafghiejcoaaGreatDoor
namespace Go.Proofs.YtddnafghiejcoaaGreatDoor
open Go.ChangeShapes Go.WideShapes Go.RowKit Go.Stop
open Go.cf
set_option maxRecDepth 1000000
theorem agV:(Tryz.prog.globals[5]?).map (·.type)=some 179:= ay
theorem agW:Tryz.prog.cellsOf 179=20:= ay
theorem agX:Tryz.prog.cellsOf 151=1:= ay
theorem agY{W:World}(h:laidMetH Tryz.prog Rows.keysPiecesRow.laid W):Lib.TabIs Tryz.prog W "internal/strconv.uint64pow10" .u64 Lib.pow10Tab:=by rw [MakeChecks.laidMetH_plain _ _ _ ay]at h;exact Lib.tabIs_of_head FX agV Tryz.underlying179 Tryz.underlying151 agX agW (laidMet.tail (laidMet.tail h))
noncomputable def zM(os:Os):World :=
 {World.doorLaid Tryz.prog 96 os with heap:=(World.doorLaid Tryz.prog 96 os).heap.modify 8 fun
  |.cells _ t frozen=> .cells (Go.Pinned.utf8FirstZ.map fun(z:Nat)=>Value.int .u8 (z:Int)).toArray t frozen
  |o=>o}
theorem agZ{P:Program}{w:World}{l:List (String×DataW Unit)}(dl M:Nat)(h:(DataW.laidRun P w dl (l.map (·.1))).bind (fun x=>if nodupBits M x.2 0&&laidRowsB P w x.2 then some x.1 else none)=some l):laidMet P l w:=by
 simp only [Option.bind_eq_some_iff]at h;obtain⟨x,aj,d⟩:=h;split at d
 ·rename_i ax;simp only [Bool.and_eq_true]at ax;simp only [Option.some.injEq]at d;exact laidMet_of_run (ps:=x.2) dl (by rw [aj,←d]) (decide_eq_true (nodupBits_sound ax.1).1) ax.2
 ·cases d
theorem Dx(os:Os)(args:Array Value):laidMetH Tryz.prog Rows.keysPiecesRow.laid ((zM os).forCall (fun _ _=>0) ⟨#[],args,[]⟩).memory:=by rw [MakeChecks.laidMetH_plain _ _ _ ay];exact agZ 8 257 ay
theorem ag0:(Tryz.prog.globals[0]?).map (·.type)=some 113:= ay
theorem ag1:Tryz.prog.cellsOf 113=256:= ay
theorem ag2:Tryz.prog.cellsOf 5=1:= ay
theorem R7:Tryz.prog.globalNamed "strconv.ErrSyntax" =some 3:= ay
theorem R8:Tryz.prog.globalNamed "strconv.ErrRange" =some 4:= ay
theorem ag3:(Tryz.prog.globals[3]?).map (·.type)=some 89:= ay
theorem ag4:(Tryz.prog.globals[4]?).map (·.type)=some 89:= ay
theorem R9: "*" ++ "errors.errorString" = "*errors.errorString" := aS
theorem R'(u:TypeId)(h:Tryz.prog.typeName? 3 u=some "*errors.errorString"):u=187 :=
 typeName_ptr_named (nm:= "errors.errorString") (by rw [R9];kernel_rfl) ay aS u (by rw [R9];exact h)
theorem Sa:Tryz.prog.cellsOf 189=1:= ay
theorem strCells:Tryz.prog.cellsOf 9=1:= ay
theorem Sb{P:Program}{W:World}{n:String}{g:Nat}{v:Value}(ak:P.globalNamed n=some g)(h:W.var? P n=some #[v]):W.cell? ⟨g,0,none⟩=some v∧g<W.heap.size:=by
 unfold World.var? at h;rw [ak]at h;simp only [Option.bind_some]at h;split at h
 ·rename_i bm t f bU;simp only [Option.some.injEq]at h;subst h;refine⟨by simp [World.cell?,bU],(Array.getElem?_eq_some_iff.1 bU).1⟩
 ·cases h
theorem Sc{W:World}{n:String}{g:Nat}{k:IntKind}{t:List Int}(ak:Tryz.prog.globalNamed n=some g)(h:Lib.TabIs Tryz.prog W n k t):g<W.heap.size:=by
 unfold Lib.TabIs World.var? at h;rw [ak]at h;simp only [Option.bind_some]at h;rcases Nat.lt_or_ge g W.heap.size with k|k
 ·exact k
 ·rw [Array.getElem?_eq_none k]at h;cases h
theorem us{W:World}{g:Nat}(h:∃m,W.cell? ⟨g,0,none⟩=some (.int .i64 m)):g<W.heap.size:=by
 obtain⟨m,e⟩:=h;rcases Nat.lt_or_ge g W.heap.size with k|k
 ·exact k
 ·simp [World.cell?,Array.getElem?_eq_none k]at e
theorem Se{W:World}(h:laidMetH Tryz.prog Rows.keysPiecesRow.laid W)(aj:∃m,W.cell? ⟨2,0,none⟩=some (.int .i64 m)):cX (fun k=>k<W.heap.size) W:=by have ah:=agY h;rw [MakeChecks.laidMetH_plain _ _ _ ay]at h;have bQ:=laidMet.tail (laidMet.tail (laidMet.tail (laidMet.tail h)));obtain⟨a,s,bc,_⟩:=laid_sentinel bQ R8 ag4 Tryz.underlying89 R' Tryz.underlying187 Tryz.underlying189 rfl rfl Tryz.underlying9 Sa strCells;have bF:=laidMet.tail bQ;obtain⟨a2,s2,hs,_⟩:=laid_sentinel bF R7 ag3 Tryz.underlying89 R' Tryz.underlying187 Tryz.underlying189 rfl rfl Tryz.underlying9 Sa strCells;have cE:=laidMet.tail (laidMet.tail bF);have bW:Lib.TabIs Tryz.prog W "strings.asciiSpace" .u8 Lib.asciiSpaceTab:=Lib.tabIs_of_head FY ag0 Tryz.underlying113 Tryz.underlying5 ag2 ag1 (zs:=Lib.asciiSpaceTab) cE;obtain⟨e8,il⟩:=Sb R8 bc;obtain⟨s1,s2⟩:=Sb R7 hs;exact⟨Sc FX ah,ah,Sc FY bW,bW,s2,⟨_,_,s1⟩,il,⟨_,_,e8⟩,us aj,aj⟩
end Go.Proofs.YtddnafghiejcoaaGreatDoor
