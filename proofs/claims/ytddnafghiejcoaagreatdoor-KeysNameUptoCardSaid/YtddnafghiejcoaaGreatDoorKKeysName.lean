/-
  PROVED HERE: 'frescolaw22.KeysName' answers true for every input of bulk at most 1048576 (the given statement KeysNameUptoCardSaid): the row, where the library's variables hold what the card ties them to, and the card. No condition beside the card's own.
-/
import Derived.Test.YtddnafghiejcoaaGreatDoorTie
import Derived.Test.YtddnafghiejcoaaGreatDoorCards
import Derived.SevenTiedAt
import Derived.ChangeOld
import Derived.Deep.DeepHandedRow
import Derived.Deep.DeepWitnessRowRef
import Derived.Shelf.Vars
import Derived.Test.YtddnafghiejcoaaGreatDoorKKeysNameI
set_option linter.unusedVariables false
set_option linter.unusedSimpArgs false
namespace Go.Proofs.YtddnafghiejcoaaGreatDoor.keysName
open Go.Proofs.zz
open Go.ChangeShapes Go.WideShapes Go.ChangeAt Go.RowKit
open Go.br
theorem own:ownKnob Tryz.prog.godebug=none:= ao
theorem laidOut:laidOutB Tryz.prog=true:= ao
theorem maxLen{W:World}(h:W.ShapedOpen Tryz.prog):∃m,W.cell? ⟨2,0,none⟩=some (.int .i64 m) :=
 cell_of_shapedOpen_int (zero:= #[.int .i64 0]) h (by decide+kernel) ao aC ao ao Tryz.underlying3
theorem yK(os:Os)(args:Array Value):laidMetH Tryz.prog Rows.keysNameUptoRow.laid ((u6 os).forCall (λ_ _=>0) ⟨#[],args,[]⟩).memory:=Proofs.zz.yK os args
theorem reads(os:Os){H:Type}(enc:TypeId×Value->H):∃places,DataW.whole enc Tryz.prog ((u6 os).forCall (λ_ _=>0) ⟨#[],#[.agg #[.int .i8 0,.int .i32 0,.int .u8 0,.int .i64 0,.int .i64 0,.string .empty]],[]⟩).memory Tryz.f5.params.toList Rows.keysNameSpec.vars false #[Value.agg #[.int .i8 0,.int .i32 0,.int .u8 0,.int .i64 0,.int .i64 0,.string .empty]].toList 8=some ([.agg [.lit (.int .i8 0),.lit (.int .i32 0),.lit (.int .u8 0),.lit (.int .i64 0),.lit (.int .i64 0),.lit (.string [])]],[],places):=⟨[],ao⟩
set_option maxRecDepth 100000 in
theorem lifted(os:Os)(started:os.Started)(H:Type)(enc:TypeId×Value->H)(F:Stop.Interp) :
 ReturnsInHanded {} Tryz.checked os 5 .any ((Rows.OpenSpec.upto Rows.keysNameSpec).preRow enc Tryz.prog Tryz.f5 Rows.keysNameUptoRow.domain false Rows.keysNameUptoRow.laid) (((Rows.OpenSpec.upto Rows.keysNameSpec).at F).post enc Tryz.prog Tryz.f5 false true false false):=by
 obtain⟨places,X⟩:=reads os enc
 refine returnsInHanded_of_row (C:=Tryz.checked) (s:=Rows.OpenSpec.upto Rows.keysNameSpec) own started ao Tryz.func5
  (witness_row_atRef (enc:=enc) (C:=Tryz.checked) false (u6 os) #[.agg #[.int .i8 0,.int .i32 0,.int .u8 0,.int .i64 0,.int .i64 0,.string .empty]] rfl ao ao ao
   (OpenSpec.preRow_of_cond 8 X ao (λk L=>by cases L;kernel_rfl) ao (yK os _))) ?_
 intro W base args B gs before u n bv N w D R _;have eh:=L' (W:=W) D (maxLen R);have ct:0<W.heap.size:=Nat.lt_of_le_of_lt (Nat.zero_le _) eh.p;have r:∀(j:Nat) t v,Tryz.f5.params[j]? =some t->args[j]? =some v->Value.okWide Tryz.prog W .any base t v:=u;have G:=n;obtain⟨p,q,l,E,rfl,ce,co⟩:=n;have i:DataW.TrodAll enc Tryz.prog W 0 (λ_=>true) true Tryz.f5.params.toList args.toList B p:=l;rw [Tryz.params5]at i r;obtain⟨v0,c2,d0,a9,a3,c0,bs,rfl,rfl,aM,a4⟩:=trodAll_cons i;obtain⟨rfl,rfl,rfl⟩:=trodAll_nil a4;obtain rfl:args= #[v0]:=by cases args;simp_all
 obtain⟨rfl,rfl⟩:=trodVars_none E;have U:∀y∈DataW.weightsEach Tryz.prog [42] [d0],y<=reachBytes:=λy am=>o2 (ea.1 w y am)
 obtain⟨c3,w⟩:=Ma U;have b:=aM;have a2:∀x∈a3,x.block<W.heap.size:=by obtain⟨m,hm⟩:=b;exact DataW.trod_lt m _ _ _ hm
 obtain⟨g,rfl,z⟩:=okWide_struct Tryz.underlying42 (r 0 42 v0 rfl rfl);obtain⟨S,I⟩:=Mb (d:=5) (sz:=6) (ks:=yL) ao ao z aM;clear l u
 have a0:=b;obtain⟨bn,K⟩:=a0;obtain⟨c,a,o⟩:=Mc (cs:=g.toList) (j:=5) Tryz.underlying42 rfl ao ao K;have a:g.toList[5]? =some (.string c):=a
 have O:c.size<=1048576:=by have P:Rows.uptoSmall H [d0]=true:=N _ rfl;have Q:Rows.uptoBulkAll [d0]<=1048576:=o2 P;simp only [Rows.uptoBulkAll]at Q;have o:c.size<=Rows.uptoBulk d0:=o;omega
 obtain⟨Z,k⟩:=Md (h:=⟨0,.nil⟩) (z.trans ao) I a O;refine(bj.law k eh (cv.empty _ _ _) (by simp only [bo];exact⟨_,_,rfl,S _,rfl⟩)).mono λe a5 ⟨he,f⟩=> ?_
 subst he;exact⟨_,rfl,_,_,_,[],_,[],G,trodAll_mk1 (shut_bool Tryz.underlying4 _),(trodAll_cons_mk (Below.trod laidOut ao (o2 ao) b f a2) trodAll_mk0),rfl,f.frame _,λh=>by cases h⟩
theorem row:Rows.KeysNameUptoSaid :=
 OpenClaim.holds_of_cond 5 Tryz.f5 rfl rfl rfl rfl rfl rfl rfl ⟨rfl,rfl,rfl,rfl,rfl⟩ rfl rfl rfl rfl rfl ao Tryz.func5 ao
  (o2 ao) (by unfold Func.isWrapper;first|(rw [az (by decide+kernel)];kernel_rfl)|(rw [ai (by decide+kernel)];exact⟨rfl,rfl⟩))
  (λos started H enc _ F=>by rw [OpenClaim.pre_eq_preRow];exact lifted os started H enc F)
theorem plain(f:FuncId)(fn:Func)(c:Tryz.pinned.checked.prog.funcNamed "fresco/frescolaw22.KeysName" =some f)(d:Tryz.pinned.checked.prog.funcs[f]? =some fn) :
 true=Tryz.pinned.checked.prog.looks []/\∀(j:Nat) t,fn.params[j]? =some t->Tryz.pinned.checked.prog.wantsStandIn t=false:=by
 obtain rfl:f=5:=Option.some.inj ((show Tryz.prog.funcNamed "fresco/frescolaw22.KeysName" =some 5 by kernel_rfl).symm.trans c) |>.symm
 obtain rfl:fn=Tryz.f5:=(Option.some.inj (Tryz.func5.symm.trans d)).symm;refine⟨ao,λj t b=> ?_⟩;rw [Tryz.params5]at b;have a:t∈ #[42]:=Array.mem_of_getElem? b;simp only [List.mem_toArray,dR,ia,hh]at a;subst a;exact(show Tryz.prog.wantsStandIn 42=false by kernel_rfl)
theorem proved:Rows.KeysNameUptoCardSaid :=
 Claim7.holds_tied_plain_at .later [] _ _ _ _ row (λ_ h=>by cases h) ao (λ_ h=>by cases h) keysNameUpto_row_tie rfl ⟨rfl,rfl⟩ ao rfl
  plain ao
#print axioms proved
end Go.Proofs.YtddnafghiejcoaaGreatDoor.keysName
