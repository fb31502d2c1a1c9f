/-
  PROVED HERE: 'frescolaw22.KeysScripts' answers true for every input (the given statement KeysScriptsCardSaid): the row, where the library's variables hold what the card ties them to, and the card. No condition beside the card's own.
-/
import Derived.Test.YtddnafghiejcoaaGreatDoorTie
import Derived.Test.YtddnafghiejcoaaGreatDoorCards
import Derived.SevenTiedAt
import Derived.ChangeOld
import Derived.Deep.DeepHandedRow
import Derived.Deep.DeepWitnessRowRef
import Derived.Shelf.Vars
import Derived.Test.YtddnafghiejcoaaGreatDoorKKeysScriptsI
set_option linter.unusedVariables false
set_option linter.unusedSimpArgs false
namespace Go.Proofs.YtddnafghiejcoaaGreatDoor.keysScripts
open Go.ChangeShapes Go.WideShapes Go.ChangeAt Go.RowKit
open Go.bh
theorem own:ownKnob Tryz.prog.godebug=none:= ar
theorem laidOut:laidOutB Tryz.prog=true:= ar
theorem maxLen{W:World}(h:W.ShapedOpen Tryz.prog):∃m,W.cell? ⟨2,0,none⟩=some (.int .i64 m) :=
 cell_of_shapedOpen_int (zero:= #[.int .i64 0]) h (by decide+kernel) ar aA ar ar Tryz.underlying3
theorem w5(os:Os)(args:Array Value):laidMetH Tryz.prog Rows.keysScriptsRow.laid ((tm os).forCall (λ_ _=>0) ⟨#[],args,[]⟩).memory:=Proofs.YtddnafghiejcoaaGreatDoor.w5 os args
theorem reads(os:Os){H:Type}(enc:TypeId×Value->H):∃places,DataW.whole enc Tryz.prog ((tm os).forCall (λ_ _=>0) ⟨#[],#[.slice none 0 0,.slice none 0 0],[]⟩).memory Tryz.f3.params.toList Rows.keysScriptsSpec.vars false #[Value.slice none 0 0,.slice none 0 0].toList 8=some ([.nil,.nil],[],places):=⟨[],ar⟩
set_option maxRecDepth 100000 in
theorem lifted(os:Os)(started:os.Started)(H:Type)(enc:TypeId×Value->H)(F:Stop.Interp) :
 ReturnsInHanded {} Tryz.checked os 3 .any ((OpenSpec.ofChange Rows.keysScriptsSpec).preRow enc Tryz.prog Tryz.f3 Rows.keysScriptsRow.domain false Rows.keysScriptsRow.laid) (((OpenSpec.ofChange Rows.keysScriptsSpec).at F).post enc Tryz.prog Tryz.f3 false true false false):=by
 obtain⟨places,B⟩:=reads os enc
 refine returnsInHanded_of_row (C:=Tryz.checked) (s:=OpenSpec.ofChange Rows.keysScriptsSpec) own started ar Tryz.func3
  (witness_row_atRef (enc:=enc) (C:=Tryz.checked) false (tm os) #[.slice none 0 0,.slice none 0 0] rfl ar ar ar
   (OpenSpec.preRow_of_cond 8 B ar (λk o=>by cases o) ar (w5 os _))) ?_
 intro W base args f gs before u d O Q z i r _;have ef:=IL (W:=W) i (maxLen r);have S:0<W.heap.size:=Nat.lt_of_le_of_lt (n6 _) ef.p;have b:∀(j:Nat) t v,Tryz.f3.params[j]? =some t->args[j]? =some v->Value.okWide Tryz.prog W .any base t v:=u;have n:=d;obtain⟨p,q,g,l,rfl,P,R⟩:=d;have c:DataW.TrodAll enc Tryz.prog W 0 (λ_=>true) true Tryz.f3.params.toList args.toList f p:=g;rw [Tryz.params3]at c b;obtain⟨v0,v1,d0,d1,I,K,rfl,rfl,rfl,aN,aa⟩:=trodAll_two c;obtain⟨rfl,rfl⟩:=trodVars_none l;have w:∀y∈DataW.weightsEach Tryz.prog [22,22] [d0,d1],y<=reachBytes:=λy D=>tn (dV.1 z y D)
 obtain⟨L,A⟩:=Bm w;obtain⟨M,_⟩:=Bm A;have E:∀x∈I,x.block<W.heap.size:=by obtain⟨m,hm⟩:=aN;exact DataW.trod_lt m _ _ _ hm
 have G:∀x∈K,x.block<W.heap.size:=by obtain⟨m,hm⟩:=aa;exact DataW.trod_lt m _ _ _ hm
 refine(IM ef (okWide_slice Tryz.underlying22 (b 0 22 v0 rfl rfl)) (okWide_slice Tryz.underlying22 (b 1 22 v1 rfl rfl)) aN aa L M).mono λe N ⟨he,a⟩=> ?_
 subst he;exact⟨_,rfl,_,_,_,[],_,[],n,trodAll_mk1 (shut_bool Tryz.underlying4 _),(trodAll_mk2 (Below.trod laidOut ar (tn ar) aN a E) (Below.trod laidOut ar (tn ar) aa a G)),rfl,a.frame _,λh=>by cases h⟩
theorem row:Rows.KeysScriptsSaid :=
 OpenClaim.holds_of_cond 3 Tryz.f3 rfl rfl rfl rfl rfl rfl rfl ⟨rfl,rfl,rfl,rfl,rfl⟩ rfl rfl rfl rfl rfl ar Tryz.func3 ar
  (tn ar) (by unfold Func.isWrapper;first|(rw [aE (by decide+kernel)];kernel_rfl)|(rw [ap (by decide+kernel)];exact⟨rfl,rfl⟩))
  (λos started H enc _ F=>by rw [OpenClaim.pre_eq_preRow];exact lifted os started H enc F)
theorem plain(f:FuncId)(fn:Func)(c:Tryz.pinned.checked.prog.funcNamed "fresco/frescolaw22.KeysScripts" =some f)(d:Tryz.pinned.checked.prog.funcs[f]? =some fn) :
 true=Tryz.pinned.checked.prog.looks []/\∀(j:Nat) t,fn.params[j]? =some t->Tryz.pinned.checked.prog.wantsStandIn t=false:=by
 obtain rfl:f=3:=qT ((show Tryz.prog.funcNamed "fresco/frescolaw22.KeysScripts" =some 3 by kernel_rfl).symm.trans c) |>.symm
 obtain rfl:fn=Tryz.f3:=(qT (Tryz.func3.symm.trans d)).symm;refine⟨ar,λj t b=> ?_⟩;rw [Tryz.params3]at b;have a:t∈ #[22,22]:=Array.mem_of_getElem? b;simp only [List.mem_toArray,cM,kU,ea,kV]at a;have a:t=22:=by simpa using a
 subst a;exact(show Tryz.prog.wantsStandIn 22=false by kernel_rfl)
theorem proved:Rows.KeysScriptsCardSaid :=
 Claim7.holds_tied_plain_at .later [] _ _ _ _ row (λ_ h=>by cases h) ar (λ_ h=>by cases h) keysScripts_row_tie rfl ⟨rfl,rfl⟩ ar rfl
  plain ar
#print axioms proved
end Go.Proofs.YtddnafghiejcoaaGreatDoor.keysScripts
