/-
  PROVED HERE: 'frescolaw22.KeysTold' answers true for every input of bulk at most 1048576 (the given statement KeysToldUptoCardSaid): the row, where the library's variables hold what the card ties them to, and the card. No condition beside the card's own.
-/
import Derived.Test.YtddnafghiejcoaaGreatDoorTie
import Derived.Test.YtddnafghiejcoaaGreatDoorCards
import Derived.SevenTiedAt
import Derived.ChangeOld
import Derived.Deep.DeepHandedRow
import Derived.Deep.DeepWitnessRowRef
import Derived.Shelf.Vars
import Derived.Test.YtddnafghiejcoaaGreatDoorKKeysToldH
set_option linter.unusedVariables false
set_option linter.unusedSimpArgs false
namespace Go.Proofs.YtddnafghiejcoaaGreatDoor.keysTold
open Go.ChangeShapes Go.WideShapes Go.ChangeAt Go.RowKit
open Go.cH
theorem own:ownKnob Tryz.prog.godebug=none:=by kernel_rfl
theorem laidOut:laidOutB Tryz.prog=true:=by kernel_rfl
theorem maxLen{W:World}(h:W.ShapedOpen Tryz.prog):∃m,W.cell? ⟨2,0,none⟩=some (.int .i64 m) :=
 cell_of_shapedOpen_int (zero:= #[.int .i64 0]) h (by decide+kernel) (by kernel_rfl) (by decide) (by kernel_rfl) (by kernel_rfl) Tryz.underlying3
theorem Ca(os:Os)(args:Array Value):laidMetH Tryz.prog Rows.keysToldUptoRow.laid ((yy os).forCall (fun _ _=>0) ⟨#[],args,[]⟩).memory:=Proofs.YtddnafghiejcoaaGreatDoor.Ca os args
theorem reads(os:Os){H:Type}(ds:TypeId×Value→H):∃places,DataW.whole ds Tryz.prog ((yy os).forCall (fun _ _=>0) ⟨#[],#[.slice none 0 0],[]⟩).memory Tryz.f11.params.toList Rows.keysToldSpec.vars false #[Value.slice none 0 0].toList 8=some ([.nil],[],places):=⟨[],by kernel_rfl⟩
set_option maxRecDepth 100000 in
theorem lifted(os:Os)(started:os.Started)(H:Type)(ds:TypeId×Value→H)(F:Stop.Interp) :
 ReturnsInHanded {} Tryz.checked os 11 .any ((Rows.OpenSpec.upto Rows.keysToldSpec).preRow ds Tryz.prog Tryz.f11 Rows.keysToldUptoRow.domain false Rows.keysToldUptoRow.laid) (((Rows.OpenSpec.upto Rows.keysToldSpec).at F).post ds Tryz.prog Tryz.f11 false true false false):=by
 obtain⟨places,af⟩:=reads os ds
 refine returnsInHanded_of_row (C:=Tryz.checked) (s:=Rows.OpenSpec.upto Rows.keysToldSpec) own started (by kernel_rfl) Tryz.func11
  (witness_row_atRef (enc:=ds) (C:=Tryz.checked) false (yy os) #[.slice none 0 0] rfl (by kernel_rfl) (by kernel_rfl) (by kernel_rfl)
   (OpenSpec.preRow_of_cond 8 af (by kernel_rfl) (fun k ao=>by cases ao;kernel_rfl) (by kernel_rfl) (Ca os _))) ?_
 intro W base args th gs before Is It aeB ve Iu dG QB _;have fK:=QC (W:=W) dG (maxLen QB);have eQ:0<W.heap.size:=Nat.lt_of_le_of_lt (Nat.zero_le _) fK.I;have Iv:∀(C:Nat) t v,Tryz.f11.params[C]? =some t→args[C]? =some v→Value.okWide Tryz.prog W .any base t v:=Is;have QD:=It;obtain⟨I,q,Iw,Cb,rfl,aeC,h1⟩:=It;have eA:DataW.TrodAll ds Tryz.prog W 0 (fun _=>true) true Tryz.f11.params.toList args.toList th I:=Iw;rw [Tryz.params11]at eA Iv;obtain⟨v0,aeD,d0,aeE,yz,aeF,gx,rfl,rfl,bm,jZ⟩:=trodAll_cons eA;obtain⟨rfl,rfl,rfl⟩:=trodAll_nil jZ;obtain rfl:args= #[v0]:=by cases args;simp_all
 obtain⟨rfl,rfl⟩:=trodVars_none Cb;have QE:∀y∈DataW.weightsEach Tryz.prog [34] [d0],y≤reachBytes:=fun y bY=>of_decide_eq_true (List.all_eq_true.1 Iu y bY)
 obtain⟨QF,Iu⟩:=QG QE;have bE:=bm;have QH:∀x∈yz,x.block<W.heap.size:=by obtain⟨m,hm⟩:=bE;exact DataW.trod_lt m _ _ _ hm
 obtain⟨ji,aj,aeG,rfl⟩:=okWide_slice Tryz.underlying34 (Iv 0 34 v0 rfl rfl);obtain⟨aeH,n4,ay,Cc,jB,nh,QI,mg,vf,rI,QJ⟩:=QK (hC:=false) (d:=5) (c6:=1) (bl:=[.int .u8]) eQ Tryz.underlying34 (by kernel_rfl) rfl (by intro _;rfl) (by kernel_rfl) bm 0;have Ix:=QL Tryz.underlying34 bE QF;rw [show Tryz.prog.bytesOf 5=1 by kernel_rfl]at Ix;simp only [reachBytes]at Ix;clear Iw Is
 have jC:=QM Tryz.underlying34 bE (ve _ rfl);obtain⟨aa,k⟩:=QN nh QI.bare rI QJ jC;refine(aI.law k fK (c2.QO (l:=[(ay,Cc)]) (by simp [*])) (by simp only [bG];exact⟨_,_,rfl,vf _ rfl,rfl⟩)).mono fun e aeI ⟨he,Iy⟩=> ?_
 subst he;exact⟨_,rfl,_,_,_,[],_,[],QD,trodAll_mk1 (shut_bool Tryz.underlying4 _),(trodAll_cons_mk (Below.trod laidOut (by kernel_rfl) (of_decide_eq_true (by kernel_rfl)) bE Iy QH) trodAll_mk0),rfl,Iy.frame _,fun h=>by cases h⟩
theorem row:Rows.KeysToldUptoSaid :=
 OpenClaim.holds_of_cond 11 Tryz.f11 rfl rfl rfl rfl rfl rfl rfl ⟨rfl,rfl,rfl,rfl,rfl⟩ rfl rfl rfl rfl rfl (by kernel_rfl) Tryz.func11 (by kernel_rfl)
  (of_decide_eq_true (by kernel_rfl)) (by unfold Func.isWrapper;first|(rw [if_pos (by decide+kernel)];kernel_rfl)|(rw [if_neg (by decide+kernel)];exact⟨rfl,rfl⟩))
  (fun os started H ds _ F=>by rw [OpenClaim.pre_eq_preRow];exact lifted os started H ds F)
theorem plain(f:FuncId)(fn:Func)(a6:Tryz.pinned.checked.prog.funcNamed "fresco/frescolaw22.KeysTold" =some f)(o':Tryz.pinned.checked.prog.funcs[f]? =some fn) :
 true=Tryz.pinned.checked.prog.looks []∧∀(C:Nat) t,fn.params[C]? =some t→Tryz.pinned.checked.prog.wantsStandIn t=false:=by
 obtain rfl:f=11:=Option.some.inj ((show Tryz.prog.funcNamed "fresco/frescolaw22.KeysTold" =some 11 by kernel_rfl).symm.trans a6) |>.symm
 obtain rfl:fn=Tryz.f11:=(Option.some.inj (Tryz.func11.symm.trans o')).symm;refine⟨by kernel_rfl,fun C t b7=> ?_⟩;rw [Tryz.params11]at b7;have bg:t∈ #[34]:=Array.mem_of_getElem? b7;simp only [List.mem_toArray,List.mem_cons,List.not_mem_nil,or_false]at bg;subst bg;exact(show Tryz.prog.wantsStandIn 34=false by kernel_rfl)
theorem proved:Rows.KeysToldUptoCardSaid :=
 Claim7.holds_tied_plain_at .later [] _ _ _ _ row (fun _ h=>by cases h) (by kernel_rfl) (fun _ h=>by cases h) keysToldUpto_row_tie rfl ⟨rfl,rfl⟩ (by kernel_rfl) rfl
  plain (by kernel_rfl)
#print axioms proved
end Go.Proofs.YtddnafghiejcoaaGreatDoor.keysTold
