/-
  PROVED HERE: 'frescolaw22.KeysNamed' answers true for every input (the given statement KeysNamedCardSaid): the row, where the library's variables hold what the card ties them to, and the card. No condition beside the card's own.
-/
import Derived.Test.YtddnafghiejcoaaGreatDoorTie
import Derived.Test.YtddnafghiejcoaaGreatDoorCards
import Derived.SevenTiedAt
import Derived.ChangeOld
import Derived.Deep.DeepHandedRow
import Derived.Deep.DeepWitnessRowRef
import Derived.Shelf.Vars
import Derived.Test.YtddnafghiejcoaaGreatDoorKKeysNamedE
set_option linter.unusedVariables false
set_option linter.unusedSimpArgs false
namespace Go.Proofs.YtddnafghiejcoaaGreatDoor.keysNamed
open Go.ChangeShapes Go.WideShapes Go.ChangeAt Go.RowKit
open Go.bh
theorem own:ownKnob Tryz.prog.godebug=none:= aG
theorem laidOut:laidOutB Tryz.prog=true:= aG
theorem maxLen{W:World}(h:W.ShapedOpen Tryz.prog):∃m,W.cell? ⟨2,0,none⟩=some (.int .i64 m) :=
 cell_of_shapedOpen_int (zero:= #[.int .i64 0]) h (by decide+kernel) aG cg aG aG Tryz.underlying3
theorem u0(os:Os)(args:Array Value):laidMetH Tryz.prog Rows.keysNamedRow.laid ((se os).forCall (fun _ _=>0) ⟨#[],args,[]⟩).memory:=Proofs.YtddnafghiejcoaaGreatDoor.u0 os args
theorem reads(os:Os){H:Type}(enc:TypeId×Value→H):∃places,DataW.whole enc Tryz.prog ((se os).forCall (fun _ _=>0) ⟨#[],#[.string .empty],[]⟩).memory Tryz.f6.params.toList Rows.keysNamedSpec.vars false #[Value.string .empty].toList 8=some ([.lit (.string [])],[],places):=⟨[],aG⟩
set_option maxRecDepth 100000 in
theorem lifted(os:Os)(started:os.Started)(H:Type)(enc:TypeId×Value→H)(F:Stop.Interp) :
 ReturnsInHanded {} Tryz.checked os 6 .any ((OpenSpec.ofChange Rows.keysNamedSpec).preRow enc Tryz.prog Tryz.f6 Rows.keysNamedRow.domain false Rows.keysNamedRow.laid) (((OpenSpec.ofChange Rows.keysNamedSpec).at F).post enc Tryz.prog Tryz.f6 false true false false):=by
 obtain⟨places,ac⟩:=reads os enc
 refine returnsInHanded_of_row (C:=Tryz.checked) (s:=OpenSpec.ofChange Rows.keysNamedSpec) own started aG Tryz.func6
  (witness_row_atRef (enc:=enc) (C:=Tryz.checked) false (se os) #[.string .empty] rfl aG aG aG
   (OpenSpec.preRow_of_cond 8 ac aG (fun k ap=>by cases ap) aG (u0 os _))) ?_
 intro W base args hV gs before yT yU MQ MR yV ca DF _;have ef:=DG (W:=W) ca (maxLen DF);have dC:0<W.heap.size:=Nat.lt_of_le_of_lt (Nat.zero_le _) ef.p;have yW:∀(j:Nat) t v,Tryz.f6.params[j]? =some t→args[j]? =some v→Value.okWide Tryz.prog W .any base t v:=yT;have DH:=yU;obtain⟨p,q,yX,u1,rfl,MS,ie⟩:=yU;have dD:DataW.TrodAll enc Tryz.prog W 0 (fun _=>true) true Tryz.f6.params.toList args.toList hV p:=yX;rw [Tryz.params6]at dD yW;obtain⟨v0,MT,d0,MU,sf,MV,fk,rfl,rfl,a6,gh⟩:=trodAll_cons dD;obtain⟨rfl,rfl,rfl⟩:=trodAll_nil gh;obtain rfl:args= #[v0]:=by cases args;simp_all
 obtain⟨rfl,rfl⟩:=trodVars_none u1;have DI:∀y∈DataW.weightsEach Tryz.prog [9] [d0],y≤reachBytes:=fun y bi=>of_decide_eq_true (List.all_eq_true.1 yV y bi)
 obtain⟨DJ,yV⟩:=DK DI;have qu:=a6;have DL:∀x∈sf,x.block<W.heap.size:=by obtain⟨m,hm⟩:=qu;exact DataW.trod_lt m _ _ _ hm
 obtain⟨a0,rfl⟩:=okWide_string Tryz.underlying9 (yW 0 9 v0 rfl rfl);have aN:a0.size≤Go.maxLen:=by obtain⟨yY,aM⟩:=a6;obtain⟨s,hs,_,ay⟩:=DataW.trod_string Tryz.underlying9 (cs:=[.string a0]) aM;simp at hs;subst hs;exact ay
 have DM:a0.size≤reachBytes:=by obtain⟨yY,aM⟩:=a6;obtain⟨s,hs,fw⟩:=DN 5 (P:=Tryz.prog) (t:=9) (c:=0) (cs:=[.string a0]) aG aM;simp at hs;subst hs;exact DJ _ fw
 clear yX yT
 obtain⟨af,k⟩:=DO (by rw [Array.length_toList];show a0.size<2^47;simp only [reachBytes]at DM;omega);refine(bn.law k ef (bP.empty _ _ _) (by simp only [aT];exact⟨_,_,rfl,by simp only [ar];exact⟨_,rfl,rfl⟩,rfl⟩)).mono fun e MW ⟨he,yZ⟩=> ?_
 subst he;exact⟨_,rfl,_,_,_,[],_,[],DH,trodAll_mk1 (shut_bool Tryz.underlying4 _),(trodAll_cons_mk (Below.trod laidOut aG (of_decide_eq_true aG) qu yZ DL) trodAll_mk0),rfl,yZ.frame _,fun h=>by cases h⟩
theorem row:Rows.KeysNamedSaid :=
 OpenClaim.holds_of_cond 6 Tryz.f6 rfl rfl rfl rfl rfl rfl rfl ⟨rfl,rfl,rfl,rfl,rfl⟩ rfl rfl rfl rfl rfl aG Tryz.func6 aG
  (of_decide_eq_true aG) (by unfold Func.isWrapper;first|(rw [if_pos (by decide+kernel)];kernel_rfl)|(rw [if_neg (by decide+kernel)];exact⟨rfl,rfl⟩))
  (fun os started H enc _ F=>by rw [OpenClaim.pre_eq_preRow];exact lifted os started H enc F)
theorem plain(f:FuncId)(fn:Func)(aM:Tryz.pinned.checked.prog.funcNamed "fresco/frescolaw22.KeysNamed" =some f)(nP:Tryz.pinned.checked.prog.funcs[f]? =some fn) :
 true=Tryz.pinned.checked.prog.looks []∧∀(j:Nat) t,fn.params[j]? =some t→Tryz.pinned.checked.prog.wantsStandIn t=false:=by
 obtain rfl:f=6:=Option.some.inj ((show Tryz.prog.funcNamed "fresco/frescolaw22.KeysNamed" =some 6 by kernel_rfl).symm.trans aM) |>.symm
 obtain rfl:fn=Tryz.f6:=(Option.some.inj (Tryz.func6.symm.trans nP)).symm;refine⟨aG,fun j t bz=> ?_⟩;rw [Tryz.params6]at bz;have aS:t∈ #[9]:=Array.mem_of_getElem? bz;simp only [List.mem_toArray,List.mem_cons,List.not_mem_nil,or_false]at aS;subst aS;exact(show Tryz.prog.wantsStandIn 9=false by kernel_rfl)
theorem proved:Rows.KeysNamedCardSaid :=
 Claim7.holds_tied_plain_at .later [] _ _ _ _ row (fun _ h=>by cases h) aG (fun _ h=>by cases h) keysNamed_row_tie rfl ⟨rfl,rfl⟩ aG rfl
  plain aG
#print axioms proved
end Go.Proofs.YtddnafghiejcoaaGreatDoor.keysNamed
