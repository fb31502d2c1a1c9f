/-
  PROVED HERE: 'frescolaw22.KeysEach' answers true for every input (the given statement KeysEachCardSaid): the row, where the library's variables hold what the card ties them to, and the card. No condition beside the card's own.
-/
import Derived.Test.YtddnafghiejcoaaGreatDoorTie
import Derived.Test.YtddnafghiejcoaaGreatDoorCards
import Derived.SevenTiedAt
import Derived.ChangeOld
import Derived.Deep.DeepHandedRow
import Derived.Deep.DeepWitnessRowRef
import Derived.Shelf.Vars
import Derived.Test.YtddnafghiejcoaaGreatDoorKKeysEachH
set_option linter.unusedVariables false
set_option linter.unusedSimpArgs false
namespace Go.Proofs.YtddnafghiejcoaaGreatDoor.keysEach
open Go.ChangeShapes Go.WideShapes Go.ChangeAt Go.RowKit
open Go.cM
theorem own:ownKnob Tryz.prog.godebug=none:=by kernel_rfl
theorem laidOut:laidOutB Tryz.prog=true:=by kernel_rfl
theorem maxLen{W:World}(h:W.ShapedOpen Tryz.prog):∃m,W.cell? ⟨2,0,none⟩=some (.int .i64 m) :=
 cell_of_shapedOpen_int (zero:= #[.int .i64 0]) h (by decide+kernel) (by kernel_rfl) (by decide) (by kernel_rfl) (by kernel_rfl) Tryz.underlying3
theorem CE(os:Os)(args:Array Value):laidMetH Tryz.prog Rows.keysEachRow.laid ((yX os).forCall (fun _ _=>0) ⟨#[],args,[]⟩).memory:=Proofs.YtddnafghiejcoaaGreatDoor.CE os args
theorem reads(os:Os){H:Type}(dI:TypeId×Value→H):∃places,DataW.whole dI Tryz.prog ((yX os).forCall (fun _ _=>0) ⟨#[],#[.slice none 0 0],[]⟩).memory Tryz.f12.params.toList Rows.keysEachSpec.vars false #[Value.slice none 0 0].toList 8=some ([.nil],[],places):=⟨[],by kernel_rfl⟩
set_option maxRecDepth 100000 in
theorem lifted(os:Os)(started:os.Started)(H:Type)(dI:TypeId×Value→H)(F:Stop.Interp) :
 ReturnsInHanded {} Tryz.checked os 12 .any ((OpenSpec.ofChange Rows.keysEachSpec).preRow dI Tryz.prog Tryz.f12 Rows.keysEachRow.domain false Rows.keysEachRow.laid) (((OpenSpec.ofChange Rows.keysEachSpec).at F).post dI Tryz.prog Tryz.f12 false true false false):=by
 obtain⟨places,ae⟩:=reads os dI
 refine returnsInHanded_of_row (C:=Tryz.checked) (s:=OpenSpec.ofChange Rows.keysEachSpec) own started (by kernel_rfl) Tryz.func12
  (witness_row_atRef (enc:=dI) (C:=Tryz.checked) false (yX os) #[.slice none 0 0] rfl (by kernel_rfl) (by kernel_rfl) (by kernel_rfl)
   (OpenSpec.preRow_of_cond 8 ae (by kernel_rfl) (fun k ap=>by cases ap) (by kernel_rfl) (CE os _))) ?_
 intro W base args kM gs before Ja Jb aft yY Jc ds Rn _;have fQ:=Ro (W:=W) ds (maxLen Rn);have eX:0<W.heap.size:=Nat.lt_of_le_of_lt (Nat.zero_le _) fQ.I;have Jd:∀(C:Nat) t v,Tryz.f12.params[C]? =some t→args[C]? =some v→Value.okWide Tryz.prog W .any base t v:=Ja;have Rp:=Jb;obtain⟨I,q,Je,CF,rfl,afu,h5⟩:=Jb;have ed:DataW.TrodAll dI Tryz.prog W 0 (fun _=>true) true Tryz.f12.params.toList args.toList kM I:=Je;rw [Tryz.params12]at ed Jd;obtain⟨v0,afv,d0,afw,yZ,afx,gH,rfl,rfl,bm,j3⟩:=trodAll_cons ed;obtain⟨rfl,rfl,rfl⟩:=trodAll_nil j3;obtain rfl:args= #[v0]:=by cases args;simp_all
 obtain⟨rfl,rfl⟩:=trodVars_none CF;have Rq:∀y∈DataW.weightsEach Tryz.prog [56] [d0],y≤reachBytes:=fun y bY=>of_decide_eq_true (List.all_eq_true.1 Jc y bY)
 obtain⟨Jf,Jc⟩:=Rr Rq;have bE:=bm;have Rs:∀x∈yZ,x.block<W.heap.size:=by obtain⟨m,hm⟩:=bE;exact DataW.trod_lt m _ _ _ hm
 obtain⟨h6,aj,afy,rfl⟩:=okWide_slice Tryz.underlying56 (Jd 0 56 v0 rfl rfl);obtain⟨afz,lX,ay,CG,jg,nB,afA,mD,vH,r5,Rt,Ru⟩:=Rv (hI:=true) (d:=5) (c2:=6) (bo:=vI) eX Tryz.underlying56 (by kernel_rfl) rfl (by intro h;cases h) (by kernel_rfl) bm 0;have CH:=Rw Tryz.underlying56 bE Jf;rw [show Tryz.prog.bytesOf 42=48 by kernel_rfl]at CH;simp only [reachBytes]at CH;clear Je Ja
 obtain⟨aa,k⟩:=Rx nB r5 Rt Ru Jf CH;refine(aI.law k fQ (c4.Ry (l:=[(ay,CG)]) (by simp [*])) (by simp only [bH];exact⟨_,_,rfl,vH _ rfl,rfl⟩)).mono fun e afB ⟨he,Jg⟩=> ?_
 subst he;exact⟨_,rfl,_,_,_,[],_,[],Rp,trodAll_mk1 (shut_bool Tryz.underlying4 _),(trodAll_cons_mk (Below.trod laidOut (by kernel_rfl) (of_decide_eq_true (by kernel_rfl)) bE Jg Rs) trodAll_mk0),rfl,Jg.frame _,fun h=>by cases h⟩
theorem row:Rows.KeysEachSaid :=
 OpenClaim.holds_of_cond 12 Tryz.f12 rfl rfl rfl rfl rfl rfl rfl ⟨rfl,rfl,rfl,rfl,rfl⟩ rfl rfl rfl rfl rfl (by kernel_rfl) Tryz.func12 (by kernel_rfl)
  (of_decide_eq_true (by kernel_rfl)) (by unfold Func.isWrapper;first|(rw [if_pos (by decide+kernel)];kernel_rfl)|(rw [if_neg (by decide+kernel)];exact⟨rfl,rfl⟩))
  (fun os started H dI _ F=>by rw [OpenClaim.pre_eq_preRow];exact lifted os started H dI F)
theorem plain(f:FuncId)(fn:Func)(a8:Tryz.pinned.checked.prog.funcNamed "fresco/frescolaw22.KeysEach" =some f)(pG:Tryz.pinned.checked.prog.funcs[f]? =some fn) :
 true=Tryz.pinned.checked.prog.looks []∧∀(C:Nat) t,fn.params[C]? =some t→Tryz.pinned.checked.prog.wantsStandIn t=false:=by
 obtain rfl:f=12:=Option.some.inj ((show Tryz.prog.funcNamed "fresco/frescolaw22.KeysEach" =some 12 by kernel_rfl).symm.trans a8) |>.symm
 obtain rfl:fn=Tryz.f12:=(Option.some.inj (Tryz.func12.symm.trans pG)).symm;refine⟨by kernel_rfl,fun C t bX=> ?_⟩;rw [Tryz.params12]at bX;have bd:t∈ #[56]:=Array.mem_of_getElem? bX;simp only [List.mem_toArray,List.mem_cons,List.not_mem_nil,or_false]at bd;subst bd;exact(show Tryz.prog.wantsStandIn 56=false by kernel_rfl)
theorem proved:Rows.KeysEachCardSaid :=
 Claim7.holds_tied_plain_at .later [] _ _ _ _ row (fun _ h=>by cases h) (by kernel_rfl) (fun _ h=>by cases h) keysEach_row_tie rfl ⟨rfl,rfl⟩ (by kernel_rfl) rfl
  plain (by kernel_rfl)
#print axioms proved
end Go.Proofs.YtddnafghiejcoaaGreatDoor.keysEach
