/-
  PROVED HERE: 'frescolaw14.TableFits' answers true for every input of bulk at most 1048576 (the given statement TableFitsUptoCardSaid): the row, where the library's variables hold what the card ties them to, and the card. No condition beside the card's own.
-/
import Derived.Test.YtjpfnbihopoeeaaGreatDoorTie
import Derived.Test.YtjpfnbihopoeeaaGreatDoorCards
import Derived.SevenTiedAt
import Derived.ChangeOld
import Derived.Deep.DeepHandedRow
import Derived.Deep.DeepWitnessRowRef
import Derived.Shelf.Vars
import Derived.Test.YtjpfnbihopoeeaaGreatDoorKTableFitsG
set_option linter.unusedSectionVars false
set_option linter.unusedVariables false
set_option linter.unusedSimpArgs false
namespace Go.Proofs.YtjpfnbihopoeeaaGreatDoor.tableFits
open Go.ChangeShapes Go.WideShapes Go.ChangeAt Go.RowKit
open Go.ba
set_option maxHeartbeats 8000000
theorem own:ownKnob Tryz.prog.godebug=none:=by kernel_rfl
theorem laidOut:laidOutB Tryz.prog=true:=by kernel_rfl
theorem zl(os:Os)(args:Array Value):laidMetH Tryz.prog Rows.tableFitsUptoRow.laid ((wu os).forCall (fun _ _=>0) ⟨#[],args,[]⟩).memory:=Proofs.YtjpfnbihopoeeaaGreatDoor.zl os args
theorem reads(os:Os){H:Type}(enc:TypeId×Value→H):∃places,DataW.whole enc Tryz.prog ((wu os).forCall (fun _ _=>0) ⟨#[],#[.slice none 0 0,.slice none 0 0,.int .i64 0],[]⟩).memory Tryz.f8.params.toList Rows.tableFitsSpec.vars false #[Value.slice none 0 0,Value.slice none 0 0,Value.int .i64 0].toList 8=some ([.nil,.nil,.lit (.int .i64 0)],[],places):=⟨[],by kernel_rfl⟩
set_option maxRecDepth 100000 in
theorem lifted(os:Os)(started:os.Started)(H:Type)(enc:TypeId×Value→H)(F:Stop.Interp) :
 ReturnsInHanded {} Tryz.checked os 8 .any ((Rows.OpenSpec.upto Rows.tableFitsSpec).preRow enc Tryz.prog Tryz.f8 Rows.tableFitsUptoRow.domain false Rows.tableFitsUptoRow.laid) (((Rows.OpenSpec.upto Rows.tableFitsSpec).at F).post enc Tryz.prog Tryz.f8 false true false false):=by
 obtain⟨places,ab⟩:=reads os enc
 refine returnsInHanded_of_row (C:=Tryz.checked) (s:=Rows.OpenSpec.upto Rows.tableFitsSpec) own started (by kernel_rfl) Tryz.func8
  (witness_row_atRef (enc:=enc) (C:=Tryz.checked) false (wu os) #[.slice none 0 0,.slice none 0 0,.int .i64 0] rfl (by kernel_rfl) (by kernel_rfl) (by kernel_rfl)
   (OpenSpec.preRow_of_cond 8 ab (by kernel_rfl) (fun k az=>by cases az;kernel_rfl) (by kernel_rfl) (zl os _))) ?_
 intro W base args ez gs before D2 jt VL JK zm de VM _;have dV:=JL (W:=W) de;have di:0<W.heap.size:=Nat.lt_of_le_of_lt (Nat.zero_le _) dV.1;have wv:∀(j:Nat) t v,Tryz.f8.params[j]? =some t→args[j]? =some v→Value.okWide Tryz.prog W .any base t v:=D2;have JM:=jt;obtain⟨p,q,D3,zn,rfl,D4,gi⟩:=jt;have dy:DataW.TrodAll enc Tryz.prog W 0 (fun _=>true) true Tryz.f8.params.toList args.toList ez p:=D3;rw [Tryz.params8]at dy wv;obtain⟨v0,VN,d0,VO,bW,VP,hd,rfl,rfl,bt,r0⟩:=trodAll_cons dy;obtain⟨v1,VQ,d1,VR,cv,VS,rfl,rfl,rfl,U,cB⟩:=trodAll_cons r0;obtain⟨v2,VT,d2,VU,bu,VV,rfl,rfl,rfl,ak,c9⟩:=trodAll_cons cB;obtain⟨rfl,rfl,rfl⟩:=trodAll_nil c9;obtain rfl:args= #[v0,v1,v2]:=by cases args;simp_all
 obtain⟨rfl,rfl⟩:=trodVars_none zn;have ti:∀y∈DataW.weightsEach Tryz.prog [22,27,3] [d0,d1,d2],y≤reachBytes:=fun y bi=>of_decide_eq_true (List.all_eq_true.1 zm y bi)
 obtain⟨JN,zm⟩:=zo ti;obtain⟨JO,JP⟩:=zo zm;obtain⟨VW,VX⟩:=zo JP;have jN:=bt;have JQ:∀x∈bW,x.block<W.heap.size:=by obtain⟨m,hm⟩:=jN;exact DataW.trod_lt m _ _ _ hm
 obtain⟨s0,aD,VY,rfl⟩:=okWide_slice Tryz.underlying22 (wv 0 22 v0 rfl rfl);obtain⟨tj,VZ,jO,V0,D5,JR,JS,JT,JU,JV,V1,V2,JW⟩:=JX Tryz.underlying22 Tryz.underlying36 (by kernel_rfl) Tryz.underlying9 (by kernel_rfl) (by kernel_rfl) (by kernel_rfl) di bt JN;have k1:=U;have JY:∀x∈cv,x.block<W.heap.size:=by obtain⟨m,hm⟩:=k1;exact DataW.trod_lt m _ _ _ hm
 obtain⟨s1,bK,zp,rfl⟩:=okWide_slice Tryz.underlying27 (wv 1 27 v1 rfl rfl);obtain⟨JZ,bU,aT,cC,cf,c',J0,V3,kZ,c3,qf⟩:=J1 (isA:=true) (d:=5) (sz:=5) (ks:=[.int .i8,.int .i64,.int .i64,.int .i64,.int .i64]) di Tryz.underlying27 (by kernel_rfl) rfl (by intro h;cases h) (by kernel_rfl) U tj.length;have D6:=D7 Tryz.underlying27 k1 JO;rw [show Tryz.prog.bytesOf 65=40 by kernel_rfl]at D6;simp only [reachBytes]at D6;obtain⟨a2,rfl,rfl,rfl,cJ⟩:=open_int Tryz.underlying3 (wv 2 3 v2 rfl rfl) ak;clear D3 D2
 obtain⟨J2,J3,D8,zq,J4,J5⟩:=J6 D5 J0;have D9:tj.length<(I.of ((tj++[(aT,cC)]).map (·.1))).next:=by rw [J5];exact Nat.lt_succ_self _
 obtain⟨fc,rc⟩:=J7 c' (kZ _ D8) c3 qf J4 D9;have J8:=JS.aI zq;obtain⟨h',k⟩:=J9 J8 JT (Nat.lt_of_lt_of_le JU zq.next) (fun r aC=>Nat.lt_of_lt_of_le (JV r aC) zq.next) (zr Tryz.underlying22 jN) (J' Tryz.underlying36 JW) rc D9 (zr Tryz.underlying27 k1) (JK _ rfl) a2;refine(aZ.law k dV (J2 _) (by simp only [bd];exact⟨_,_,rfl,JR.mono J3,_,_,rfl,kZ _ D8,_,_,rfl,by simp [aA],rfl⟩)).mono fun e c4 ⟨he,zt⟩=> ?_
 subst he;exact⟨_,rfl,_,_,_,[],_,[],JM,trodAll_mk1 (shut_bool Tryz.underlying4 _),(trodAll_cons_mk (Below.trod laidOut (by kernel_rfl) (of_decide_eq_true (by kernel_rfl)) jN zt JQ) (trodAll_cons_mk (Below.trod laidOut (by kernel_rfl) (of_decide_eq_true (by kernel_rfl)) k1 zt JY) (trodAll_cons_mk (shut_int Tryz.underlying3 cJ) trodAll_mk0))),rfl,zt.frame _,fun h=>by cases h⟩
theorem facts:joinedFacts Tryz.prog 8 Tryz.f8 (Rows.OpenSpec.upto Rows.tableFitsSpec).bare Rows.tableFitsUptoRow=true:=by
 unfold joinedFacts;simp only [Bool.and_eq_true]
 repeat' apply And.intro
 all_goals (as_aux_lemma=>kernel_rfl)
theorem wrapped:Tryz.f8.isWrapper Tryz.prog Rows.tableFitsUptoRow.wrapper Rows.tableFitsUptoRow.mainSum:=by unfold Func.isWrapper;first|(rw [if_pos (by decide+kernel)];kernel_rfl)|(rw [if_neg (by decide+kernel)];exact⟨rfl,rfl⟩)
theorem named:Tryz.pinned.checked.prog.funcNamed Rows.tableFitsUptoRow.func=some 8:=by kernel_rfl
theorem row:Rows.TableFitsUptoSaid :=
 OpenClaim.holds_of_cond 8 Tryz.f8 rfl rfl rfl rfl rfl rfl rfl ⟨rfl,rfl,rfl,rfl,rfl⟩ rfl rfl rfl rfl rfl named Tryz.func8 facts
  (of_decide_eq_true (by kernel_rfl)) wrapped
  (fun os started H enc _ F=>by rw [OpenClaim.pre_eq_preRow];exact lifted os started H enc F)
theorem plain(f:FuncId)(fn:Func)(aS:Tryz.pinned.checked.prog.funcNamed "fresco/frescolaw14.TableFits" =some f)(o1:Tryz.pinned.checked.prog.funcs[f]? =some fn) :
 true=Tryz.pinned.checked.prog.looks []∧∀(j:Nat) t,fn.params[j]? =some t→Tryz.pinned.checked.prog.wantsStandIn t=false:=by
 obtain rfl:f=8:=Option.some.inj ((show Tryz.prog.funcNamed "fresco/frescolaw14.TableFits" =some 8 by kernel_rfl).symm.trans aS) |>.symm
 obtain rfl:fn=Tryz.f8:=(Option.some.inj (Tryz.func8.symm.trans o1)).symm;refine⟨by as_aux_lemma=>kernel_rfl,fun j t bl=> ?_⟩;rw [Tryz.params8]at bl;have aP:t∈ #[22,27,3]:=Array.mem_of_getElem? bl;simp only [List.mem_toArray,List.mem_cons,List.not_mem_nil,or_false]at aP;rcases aP with rfl|rfl|rfl
 ·exact(show Tryz.prog.wantsStandIn 22=false by kernel_rfl)
 ·exact(show Tryz.prog.wantsStandIn 27=false by kernel_rfl)
 ·exact(show Tryz.prog.wantsStandIn 3=false by kernel_rfl)
theorem proved:Rows.TableFitsUptoCardSaid :=
 Claim7.holds_tied_plain_at .later [] [.data,.data,.data,.data,.sentinel,.sentinel,.pinned] true (true, "94b6084aceee19128daf6120a59b64399d844e33429a995a47ea4cad2d545337") true
  row (fun _ h=>by cases h) (by as_aux_lemma=>kernel_rfl) (fun _ h=>by cases h) tableFitsUpto_row_tie rfl ⟨rfl,rfl⟩ (by as_aux_lemma=>kernel_rfl) rfl
  plain (by as_aux_lemma=>kernel_rfl)
#print axioms proved
end Go.Proofs.YtjpfnbihopoeeaaGreatDoor.tableFits
