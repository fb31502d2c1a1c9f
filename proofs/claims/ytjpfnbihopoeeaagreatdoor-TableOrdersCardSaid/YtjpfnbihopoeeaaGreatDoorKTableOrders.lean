/-
  PROVED HERE: 'frescolaw14.TableOrders' answers true for every input (the given statement TableOrdersCardSaid): the row, where the library's variables hold what the card ties them to, and the card. No condition beside the card's own.
-/
import Derived.Test.YtjpfnbihopoeeaaGreatDoorTie
import Derived.Test.YtjpfnbihopoeeaaGreatDoorCards
import Derived.SevenTiedAt
import Derived.ChangeOld
import Derived.Deep.DeepHandedRow
import Derived.Deep.DeepWitnessRowRef
import Derived.Shelf.Vars
import Derived.Test.YtjpfnbihopoeeaaGreatDoorKTableOrdersD
set_option linter.unusedVariables false
set_option linter.unusedSimpArgs false
set_option linter.unusedSectionVars false
namespace Go.Proofs.YtjpfnbihopoeeaaGreatDoor.tableOrders
open Go.ChangeShapes Go.WideShapes Go.ChangeAt Go.RowKit
open Go.Lift
set_option maxHeartbeats 8000000
theorem own:ownKnob Tryz.prog.godebug=none:=by kernel_rfl
theorem laidOut:laidOutB Tryz.prog=true:=by kernel_rfl
theorem laid_met(os:Os)(args:Array Value):laidMetH Tryz.prog Rows.tableOrdersRow.laid ((laidWorld os).forCall (fun _ _=>0) ⟨#[],args,[]⟩).memory:=Proofs.YtjpfnbihopoeeaaGreatDoor.laid_met os args
theorem reads(os:Os){H:Type}(enc:TypeId×Value→H): ∃ places,DataW.whole enc Tryz.prog ((laidWorld os).forCall (fun _ _=>0) ⟨#[],#[.int .i64 0,.bool false,.slice none 0 0,.slice none 0 0,.int .i64 0],[]⟩).memory Tryz.f6.params.toList Rows.tableOrdersSpec.vars false #[Value.int .i64 0,Value.bool false,Value.slice none 0 0,Value.slice none 0 0,Value.int .i64 0].toList 8=some ([.lit (.int .i64 0),.lit (.bool false),.nil,.nil,.lit (.int .i64 0)],[],places):=⟨[],by kernel_rfl⟩
set_option maxRecDepth 100000 in
theorem lifted(os:Os)(started:os.Started)(H:Type)(enc:TypeId×Value→H)(F:Stop.Interp) :
    ReturnsInHanded {} Tryz.checked os 6 .any ((OpenSpec.ofChange Rows.tableOrdersSpec).preRow enc Tryz.prog Tryz.f6 Rows.tableOrdersRow.domain false Rows.tableOrdersRow.laid) (((OpenSpec.ofChange Rows.tableOrdersSpec).at F).post enc Tryz.prog Tryz.f6 false true false false):=by
  obtain⟨places,hx⟩:=reads os enc
  refine returnsInHanded_of_row (C:=Tryz.checked) (s:=OpenSpec.ofChange Rows.tableOrdersSpec) own started (by kernel_rfl) Tryz.func6
    (witness_row_atRef (enc:=enc) (C:=Tryz.checked) false (laidWorld os) #[.int .i64 0,.bool false,.slice none 0 0,.slice none 0 0,.int .i64 0] rfl (by kernel_rfl) (by kernel_rfl) (by kernel_rfl)
      (OpenSpec.preRow_of_cond 8 hx (by kernel_rfl) (fun k hk=>by cases hk) (by kernel_rfl) (laid_met os _))) ?_
  intro W base args ds gs before hval0 hW hcnd hkc hwt0 hL hshape _
  have hC:=cnd_of_laid (W:=W) hL
  have hsz:0<W.heap.size:=Nat.lt_of_le_of_lt (Nat.zero_le _) hC.1
  have hval: ∀ (j:Nat) t v,Tryz.f6.params[j]? =some t→args[j]? =some v→Value.okWide Tryz.prog W .any base t v:=hval0
  have hW':=hW
  obtain⟨p,q,hA0,hV,rfl,hfz,hnd⟩:=hW
  have hA:DataW.TrodAll enc Tryz.prog W 0 (fun _=>true) true Tryz.f6.params.toList args.toList ds p:=hA0
  rw [Tryz.params6]at hA hval
  obtain⟨v0,vs0,d0,ds0,p0,q0_,hargs,rfl,rfl,h0,r0⟩:=trodAll_cons hA
  obtain⟨v1,vs1,d1,ds1,p1,q1_,rfl,rfl,rfl,h1,r1⟩:=trodAll_cons r0
  obtain⟨v2,vs2,d2,ds2,p2,q2_,rfl,rfl,rfl,h2,r2⟩:=trodAll_cons r1
  obtain⟨v3,vs3,d3,ds3,p3,q3_,rfl,rfl,rfl,h3,r3⟩:=trodAll_cons r2
  obtain⟨v4,vs4,d4,ds4,p4,q4_,rfl,rfl,rfl,h4,r4⟩:=trodAll_cons r3
  obtain⟨rfl,rfl,rfl⟩:=trodAll_nil r4
  obtain rfl:args= #[v0,v1,v2,v3,v4]:=by cases args;simp_all
  obtain⟨rfl,rfl⟩:=trodVars_none hV
  have hwt: ∀ y∈DataW.weightsEach Tryz.prog [3,4,36,36,3] [d0,d1,d2,d3,d4],y≤reachBytes:=fun y hy=>of_decide_eq_true (List.all_eq_true.1 hwt0 y hy)
  obtain⟨wt0,hwt0⟩:=weights_cons hwt
  obtain⟨wt1,hwt1⟩:=weights_cons hwt0
  obtain⟨wt2,hwt2⟩:=weights_cons hwt1
  obtain⟨wt3,hwt3⟩:=weights_cons hwt2
  obtain⟨wt4,hwt4⟩:=weights_cons hwt3
  obtain⟨a0,rfl,rfl,rfl,w0⟩:=open_int Tryz.underlying3 (hval 0 3 v0 rfl rfl) h0
  obtain⟨a1,rfl,rfl,rfl⟩:=open_bool Tryz.underlying4 (hval 1 4 v1 rfl rfl) h1
  have k2:=h2
  have lt2: ∀ x∈p2,x.block<W.heap.size:=by obtain⟨m,hm⟩:=k2;exact DataW.trod_lt m _ _ _ hm
  obtain⟨s2,n2,cap2,rfl⟩:=okWide_slice Tryz.underlying36 (hval 2 36 v2 rfl rfl)
  obtain⟨o2,c2,b2,q2,x2,hs2,hr2,hn2,hv2,hx2,he2,tx2⟩:=open_flat_argX (isA:=false) (d:=5) (sz:=1) (ks:= [.string]) hsz Tryz.underlying36 (by kernel_rfl) rfl (by intro _;rfl) (by kernel_rfl) h2 0
  have len2:=weight_len Tryz.underlying36 k2 wt2
  rw [show Tryz.prog.bytesOf 9=16 by kernel_rfl]at len2
  simp only [reachBytes]at len2
  have k3:=h3
  have lt3: ∀ x∈p3,x.block<W.heap.size:=by obtain⟨m,hm⟩:=k3;exact DataW.trod_lt m _ _ _ hm
  obtain⟨s3,n3,cap3,rfl⟩:=okWide_slice Tryz.underlying36 (hval 3 36 v3 rfl rfl)
  obtain⟨o3,c3,b3,q3,x3,hs3,hr3,hn3,hv3,hx3,he3,tx3⟩:=open_flat_argX (isA:=false) (d:=5) (sz:=1) (ks:= [.string]) hsz Tryz.underlying36 (by kernel_rfl) rfl (by intro _;rfl) (by kernel_rfl) h3 1
  have len3:=weight_len Tryz.underlying36 k3 wt3
  rw [show Tryz.prog.bytesOf 9=16 by kernel_rfl]at len3
  simp only [reachBytes]at len3
  obtain⟨a4,rfl,rfl,rfl,w4⟩:=open_int Tryz.underlying3 (hval 4 3 v4 rfl rfl) h4
  clear hA0 hval0
  obtain⟨h',k⟩:=orders_law_at a0 a1 a4 hs2 hs3 hx2 hx3 tx2 tx3 wt2 wt3
  refine(FDoes.law k hC (HRel.of_args (l:= [(b2,q2),(b3,q3)]) (by simp [*])) (by simp only [VRels];exact⟨_,_,rfl,by simp [VRel],_,_,rfl,by simp [VRel],_,_,rfl,hv2 _ rfl,_,_,rfl,hv3 _ rfl,_,_,rfl,by simp [VRel],rfl⟩)).mono fun e W' ⟨he,bel⟩=> ?_
  subst he
  exact⟨_,rfl,_,_,_,[],_,[],hW',trodAll_mk1 (shut_bool Tryz.underlying4 _),(trodAll_cons_mk (shut_int Tryz.underlying3 w0) (trodAll_cons_mk (shut_bool Tryz.underlying4 _) (trodAll_cons_mk (Below.trod laidOut (by kernel_rfl) (of_decide_eq_true (by kernel_rfl)) k2 bel lt2) (trodAll_cons_mk (Below.trod laidOut (by kernel_rfl) (of_decide_eq_true (by kernel_rfl)) k3 bel lt3) (trodAll_cons_mk (shut_int Tryz.underlying3 w4) trodAll_mk0))))),rfl,bel.frame _,fun h=>by cases h⟩
theorem facts:joinedFacts Tryz.prog 6 Tryz.f6 (OpenSpec.ofChange Rows.tableOrdersSpec).bare Rows.tableOrdersRow=true:=by
  unfold joinedFacts
  simp only [Bool.and_eq_true]
  repeat' apply And.intro
  all_goals (as_aux_lemma=>kernel_rfl)
theorem wrapped:Tryz.f6.isWrapper Tryz.prog Rows.tableOrdersRow.wrapper Rows.tableOrdersRow.mainSum:=by
  unfold Func.isWrapper;first | (rw [if_pos (by decide+kernel)];kernel_rfl) | (rw [if_neg (by decide+kernel)];exact⟨rfl,rfl⟩)
theorem named:Tryz.pinned.checked.prog.funcNamed Rows.tableOrdersRow.func=some 6:=by kernel_rfl
theorem row:Rows.TableOrdersSaid :=
  OpenClaim.holds_of_cond 6 Tryz.f6 rfl rfl rfl rfl rfl rfl rfl ⟨rfl,rfl,rfl,rfl,rfl⟩ rfl rfl rfl rfl rfl named Tryz.func6 facts
    (of_decide_eq_true (by kernel_rfl)) wrapped
    (fun os started H enc _ F=>by rw [OpenClaim.pre_eq_preRow];exact lifted os started H enc F)
theorem plain(f:FuncId)(fn:Func)(hf:Tryz.pinned.checked.prog.funcNamed "fresco/frescolaw14.TableOrders" =some f)(hfn:Tryz.pinned.checked.prog.funcs[f]? =some fn) :
    true=Tryz.pinned.checked.prog.looks []∧ ∀ (j:Nat) t,fn.params[j]? =some t→Tryz.pinned.checked.prog.wantsStandIn t=false:=by
  obtain rfl:f=6:=Option.some.inj ((show Tryz.prog.funcNamed "fresco/frescolaw14.TableOrders" =some 6 by kernel_rfl).symm.trans hf) |>.symm
  obtain rfl:fn=Tryz.f6:=(Option.some.inj (Tryz.func6.symm.trans hfn)).symm
  refine⟨by as_aux_lemma=>kernel_rfl,fun j t ht=> ?_⟩
  rw [Tryz.params6]at ht
  have h3:t∈ #[3,4,36,36,3]:=Array.mem_of_getElem? ht
  simp only [List.mem_toArray,List.mem_cons,List.not_mem_nil,or_false]at h3
  rcases h3 with rfl | rfl | rfl | rfl | rfl
  · exact(show Tryz.prog.wantsStandIn 3=false by kernel_rfl)
  · exact(show Tryz.prog.wantsStandIn 4=false by kernel_rfl)
  · exact(show Tryz.prog.wantsStandIn 36=false by kernel_rfl)
  · exact(show Tryz.prog.wantsStandIn 36=false by kernel_rfl)
  · exact(show Tryz.prog.wantsStandIn 3=false by kernel_rfl)
theorem proved:Rows.TableOrdersCardSaid :=
  Claim7.holds_tied_plain_at .later [] [.data,.data,.data,.data,.sentinel,.sentinel,.pinned] true (true, "94b6084aceee19128daf6120a59b64399d844e33429a995a47ea4cad2d545337") true
    row (fun _ h=>by cases h) (by as_aux_lemma=>kernel_rfl) (fun _ h=>by cases h) tableOrders_row_tie rfl ⟨rfl,rfl⟩ (by as_aux_lemma=>kernel_rfl) rfl
    plain (by as_aux_lemma=>kernel_rfl)
#print axioms proved
end Go.Proofs.YtjpfnbihopoeeaaGreatDoor.tableOrders
