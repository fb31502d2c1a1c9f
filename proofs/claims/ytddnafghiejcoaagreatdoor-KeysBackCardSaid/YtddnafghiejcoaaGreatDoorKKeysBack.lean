/-
  PROVED HERE: 'frescolaw22.KeysBack' answers true for every input (the given statement KeysBackCardSaid): the row, where the library's variables hold what the card ties them to, and the card. No condition beside the card's own.
-/
import Derived.Test.YtddnafghiejcoaaGreatDoorTie
import Derived.Test.YtddnafghiejcoaaGreatDoorCards
import Derived.SevenTiedAt
import Derived.ChangeOld
import Derived.Deep.DeepHandedRow
import Derived.Deep.DeepWitnessRowRef
import Derived.Shelf.Vars
import Derived.Test.YtddnafghiejcoaaGreatDoorKKeysBackH
set_option linter.unusedVariables false
set_option linter.unusedSimpArgs false
namespace Go.Proofs.YtddnafghiejcoaaGreatDoor.keysBack
open Go.ChangeShapes Go.WideShapes Go.ChangeAt Go.RowKit
open Go.cf
theorem own:ownKnob Tryz.prog.godebug=none:= ay
theorem laidOut:laidOutB Tryz.prog=true:= ay
theorem maxLen{W:World}(h:W.ShapedOpen Tryz.prog):∃m,W.cell? ⟨2,0,none⟩=some (.int .i64 m) :=
 cell_of_shapedOpen_int (zero:= #[.int .i64 0]) h (by decide+kernel) ay aS ay ay Tryz.underlying3
theorem Dx(os:Os)(args:Array Value):laidMetH Tryz.prog Rows.keysBackRow.laid ((zM os).forCall (fun _ _=>0) ⟨#[],args,[]⟩).memory:=Proofs.YtddnafghiejcoaaGreatDoor.Dx os args
theorem reads(os:Os){H:Type}(enc:TypeId×Value→H):∃places,DataW.whole enc Tryz.prog ((zM os).forCall (fun _ _=>0) ⟨#[],#[.agg #[.int .i8 0,.int .i32 0,.int .u8 0,.int .i64 0,.int .i64 0,.string .empty]],[]⟩).memory Tryz.f10.params.toList Rows.keysBackSpec.vars false #[Value.agg #[.int .i8 0,.int .i32 0,.int .u8 0,.int .i64 0,.int .i64 0,.string .empty]].toList 8=some ([.agg [.lit (.int .i8 0),.lit (.int .i32 0),.lit (.int .u8 0),.lit (.int .i64 0),.lit (.int .i64 0),.lit (.string [])]],[],places):=⟨[],ay⟩
set_option maxRecDepth 100000 in
theorem lifted(os:Os)(started:os.Started)(H:Type)(enc:TypeId×Value→H)(F:Stop.Interp) :
 ReturnsInHanded {} Tryz.checked os 10 .any ((OpenSpec.ofChange Rows.keysBackSpec).preRow enc Tryz.prog Tryz.f10 Rows.keysBackRow.domain false Rows.keysBackRow.laid) (((OpenSpec.ofChange Rows.keysBackSpec).at F).post enc Tryz.prog Tryz.f10 false true false false):=by
 obtain⟨places,aj⟩:=reads os enc
 refine returnsInHanded_of_row (C:=Tryz.checked) (s:=OpenSpec.ofChange Rows.keysBackSpec) own started ay Tryz.func10
  (witness_row_atRef (enc:=enc) (C:=Tryz.checked) false (zM os) #[.agg #[.int .i8 0,.int .i32 0,.int .u8 0,.int .i64 0,.int .i64 0,.string .empty]] rfl ay ay ay
   (OpenSpec.preRow_of_cond 8 aj ay (fun k au=>by cases au) ay (Dx os _))) ?_
 intro W base args uh gs before Kc Kd ag5 zN Ke dN Sd _;have fm:=Se (W:=W) dN (maxLen Sd);have fq:0<W.heap.size:=Nat.lt_of_le_of_lt (Nat.zero_le _) fm.p;have Kf:∀(j:Nat) t v,Tryz.f10.params[j]? =some t→args[j]? =some v→Value.okWide Tryz.prog W .any base t v:=Kc;have Sf:=Kd;obtain⟨p,q,Kg,Dy,rfl,ag6,hX⟩:=Kd;have ea:DataW.TrodAll enc Tryz.prog W 0 (fun _=>true) true Tryz.f10.params.toList args.toList uh p:=Kg;rw [Tryz.params10]at ea Kf;obtain⟨v0,ag7,d0,ag8,zO,ag9,gz,rfl,rfl,bf,iB⟩:=trodAll_cons ea;obtain⟨rfl,rfl,rfl⟩:=trodAll_nil iB;obtain rfl:args= #[v0]:=by cases args;simp_all
 obtain⟨rfl,rfl⟩:=trodVars_none Dy;have Sg:∀y∈DataW.weightsEach Tryz.prog [42] [d0],y≤reachBytes:=fun y bV=>of_decide_eq_true (List.all_eq_true.1 Ke y bV)
 obtain⟨ag',Ke⟩:=Sh Sg;have bx:=bf;have Si:∀x∈zO,x.block<W.heap.size:=by obtain⟨m,hm⟩:=bx;exact DataW.trod_lt m _ _ _ hm
 obtain⟨aha,rfl,Kh⟩:=okWide_struct Tryz.underlying42 (Kf 0 42 v0 rfl rfl);obtain⟨wu,Sj⟩:=Sk (d:=5) (sz:=6) (ks:=Dz) ay ay Kh bf;clear Kg Kc
 obtain⟨ag,k⟩:=Sl (h:=⟨0,.nil⟩) (Kh.trans ay) Sj;refine(b1.law k fm (cS.empty _ _ _) (by simp only [bz];exact⟨_,_,rfl,wu _,rfl⟩)).mono fun e ahb ⟨he,Ki⟩=> ?_
 subst he;exact⟨_,rfl,_,_,_,[],_,[],Sf,trodAll_mk1 (shut_bool Tryz.underlying4 _),(trodAll_cons_mk (Below.trod laidOut ay (of_decide_eq_true ay) bx Ki Si) trodAll_mk0),rfl,Ki.frame _,fun h=>by cases h⟩
theorem row:Rows.KeysBackSaid :=
 OpenClaim.holds_of_cond 10 Tryz.f10 rfl rfl rfl rfl rfl rfl rfl ⟨rfl,rfl,rfl,rfl,rfl⟩ rfl rfl rfl rfl rfl ay Tryz.func10 ay
  (of_decide_eq_true ay) (by unfold Func.isWrapper;first|(rw [if_pos (by decide+kernel)];kernel_rfl)|(rw [if_neg (by decide+kernel)];exact⟨rfl,rfl⟩))
  (fun os started H enc _ F=>by rw [OpenClaim.pre_eq_preRow];exact lifted os started H enc F)
theorem plain(f:FuncId)(fn:Func)(aZ:Tryz.pinned.checked.prog.funcNamed "fresco/frescolaw22.KeysBack" =some f)(pR:Tryz.pinned.checked.prog.funcs[f]? =some fn) :
 true=Tryz.pinned.checked.prog.looks []∧∀(j:Nat) t,fn.params[j]? =some t→Tryz.pinned.checked.prog.wantsStandIn t=false:=by
 obtain rfl:f=10:=Option.some.inj ((show Tryz.prog.funcNamed "fresco/frescolaw22.KeysBack" =some 10 by kernel_rfl).symm.trans aZ) |>.symm
 obtain rfl:fn=Tryz.f10:=(Option.some.inj (Tryz.func10.symm.trans pR)).symm;refine⟨ay,fun j t bW=> ?_⟩;rw [Tryz.params10]at bW;have a8:t∈ #[42]:=Array.mem_of_getElem? bW;simp only [List.mem_toArray,List.mem_cons,List.not_mem_nil,or_false]at a8;subst a8;exact(show Tryz.prog.wantsStandIn 42=false by kernel_rfl)
theorem proved:Rows.KeysBackCardSaid :=
 Claim7.holds_tied_plain_at .later [] _ _ _ _ row (fun _ h=>by cases h) ay (fun _ h=>by cases h) keysBack_row_tie rfl ⟨rfl,rfl⟩ ay rfl
  plain ay
#print axioms proved
end Go.Proofs.YtddnafghiejcoaaGreatDoor.keysBack
