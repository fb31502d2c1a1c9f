/-
  PROVED HERE: 'frescolaw14.TableSorts' answers true for every input of bulk at most 1048576 (the given statement TableSortsUptoCardSaid): the row, where the library's variables hold what the card ties them to, and the card. No condition beside the card's own.
-/
import Derived.Test.YtjpfnbihopoeeaaGreatDoorTie
import Derived.Test.YtjpfnbihopoeeaaGreatDoorCards
import Derived.SevenTiedAt
import Derived.ChangeOld
import Derived.Deep.DeepHandedRow
import Derived.Deep.DeepWitnessRowRef
import Derived.Shelf.Vars
import Derived.Test.YtjpfnbihopoeeaaGreatDoorKTableSortsG
set_option linter.unusedVariables false
set_option linter.unusedSimpArgs false
set_option linter.unusedSectionVars false
namespace Go.Proofs.YtjpfnbihopoeeaaGreatDoor.tableSorts
open Go.ChangeShapes Go.WideShapes Go.ChangeAt Go.RowKit
open Go.Lift
set_option maxHeartbeats 8000000
theorem own:ownKnob Tryz.prog.godebug=none:=by kernel_rfl
theorem laidOut:laidOutB Tryz.prog=true:=by kernel_rfl
theorem laid_met(os:Os)(args:Array Value):laidMetH Tryz.prog Rows.tableSortsUptoRow.laid ((laidWorld os).forCall (fun _ _=>0) ⟨#[],args,[]⟩).memory:=Proofs.YtjpfnbihopoeeaaGreatDoor.laid_met os args
theorem reads(os:Os){H:Type}(enc:TypeId×Value→H): ∃ places,DataW.whole enc Tryz.prog ((laidWorld os).forCall (fun _ _=>0) ⟨#[],#[.slice none 0 0,.bool false,.slice none 0 0],[]⟩).memory Tryz.f7.params.toList Rows.tableSortsSpec.vars false #[Value.slice none 0 0,Value.bool false,Value.slice none 0 0].toList 8=some ([.nil,.lit (.bool false),.nil],[],places):=⟨[],by kernel_rfl⟩
set_option maxRecDepth 100000 in
theorem lifted(os:Os)(started:os.Started)(H:Type)(enc:TypeId×Value→H)(F:Stop.Interp) :
    ReturnsInHanded {} Tryz.checked os 7 .any ((Rows.OpenSpec.upto Rows.tableSortsSpec).preRow enc Tryz.prog Tryz.f7 Rows.tableSortsUptoRow.domain false Rows.tableSortsUptoRow.laid) (((Rows.OpenSpec.upto Rows.tableSortsSpec).at F).post enc Tryz.prog Tryz.f7 false true false false):=by
  obtain⟨places,hx⟩:=reads os enc
  refine returnsInHanded_of_row (C:=Tryz.checked) (s:=Rows.OpenSpec.upto Rows.tableSortsSpec) own started (by kernel_rfl) Tryz.func7
    (witness_row_atRef (enc:=enc) (C:=Tryz.checked) false (laidWorld os) #[.slice none 0 0,.bool false,.slice none 0 0] rfl (by kernel_rfl) (by kernel_rfl) (by kernel_rfl)
      (OpenSpec.preRow_of_cond 8 hx (by kernel_rfl) (fun k hk=>by cases hk;kernel_rfl) (by kernel_rfl) (laid_met os _))) ?_
  intro W base args ds gs before hval0 hW hcnd hkc hwt0 hL hshape _
  have hC:=cnd_of_laid (W:=W) hL
  have hsz:0<W.heap.size:=Nat.lt_of_le_of_lt (Nat.zero_le _) hC.1
  have hval: ∀ (j:Nat) t v,Tryz.f7.params[j]? =some t→args[j]? =some v→Value.okWide Tryz.prog W .any base t v:=hval0
  have hW':=hW
  obtain⟨p,q,hA0,hV,rfl,hfz,hnd⟩:=hW
  have hA:DataW.TrodAll enc Tryz.prog W 0 (fun _=>true) true Tryz.f7.params.toList args.toList ds p:=hA0
  rw [Tryz.params7]at hA hval
  obtain⟨v0,vs0,d0,ds0,p0,q0_,hargs,rfl,rfl,h0,r0⟩:=trodAll_cons hA
  obtain⟨v1,vs1,d1,ds1,p1,q1_,rfl,rfl,rfl,h1,r1⟩:=trodAll_cons r0
  obtain⟨v2,vs2,d2,ds2,p2,q2_,rfl,rfl,rfl,h2,r2⟩:=trodAll_cons r1
  obtain⟨rfl,rfl,rfl⟩:=trodAll_nil r2
  obtain rfl:args= #[v0,v1,v2]:=by cases args;simp_all
  obtain⟨rfl,rfl⟩:=trodVars_none hV
  have hwt: ∀ y∈DataW.weightsEach Tryz.prog [22,4,45] [d0,d1,d2],y≤reachBytes:=fun y hy=>of_decide_eq_true (List.all_eq_true.1 hwt0 y hy)
  obtain⟨wt0,hwt0⟩:=weights_cons hwt
  obtain⟨wt1,hwt1⟩:=weights_cons hwt0
  obtain⟨wt2,hwt2⟩:=weights_cons hwt1
  have k0:=h0
  have lt0: ∀ x∈p0,x.block<W.heap.size:=by obtain⟨m,hm⟩:=k0;exact DataW.trod_lt m _ _ _ hm
  obtain⟨s0,n0,cap0,rfl⟩:=okWide_slice Tryz.underlying22 (hval 0 22 v0 rfl rfl)
  obtain⟨l0,o0,c0,rs0,hr0,vr0,tq0,rn0,nx0,rq0,rw0,ml0,bk0⟩:=open_txt_rows2 Tryz.underlying22 Tryz.underlying36 (by kernel_rfl) (by kernel_rfl) (by kernel_rfl) (by kernel_rfl) hsz h0 wt0
  obtain⟨a1,rfl,rfl,rfl⟩:=open_bool Tryz.underlying4 (hval 1 4 v1 rfl rfl) h1
  have k2:=h2
  have lt2: ∀ x∈p2,x.block<W.heap.size:=by obtain⟨m,hm⟩:=k2;exact DataW.trod_lt m _ _ _ hm
  obtain⟨s2,n2,cap2,rfl⟩:=okWide_slice Tryz.underlying45 (hval 2 45 v2 rfl rfl)
  obtain⟨o2,c2,b2,q2,x2,hs2,hr2,hn2,hv2,hx2,he2⟩:=open_flat_arg (isA:=true) (d:=5) (sz:=3) (ks:= [.int .i64,.bool,.bool]) hsz Tryz.underlying45 (by kernel_rfl) rfl (by intro h;cases h) (by kernel_rfl) h2 l0.length
  have len2:=weight_len Tryz.underlying45 k2 wt2
  rw [show Tryz.prog.bytesOf 48=24 by kernel_rfl]at len2
  simp only [reachBytes]at len2
  clear hA0 hval0
  obtain⟨hrX,leX,idX,frX,getX,nxX⟩:=two_rows hr0 hr2
  obtain⟨ks,kl,kd⟩:=keys_of hs2 hx2 he2 getX (by rw [nxX];exact Nat.lt_succ_self _)
  obtain⟨h',k⟩:=sorts_law_at (tq0.fr frX) rn0 (Nat.lt_of_lt_of_le nx0 frX.next) (fun r hr=>Nat.lt_of_lt_of_le (rq0 r hr) frX.next) rw0 (bulk_slice Tryz.underlying22 k0) (bulk_rows Tryz.underlying36 bk0) kd (by rw [nxX];exact Nat.lt_succ_self _) (by rw [kl];exact bulk_slice Tryz.underlying45 k2) (hkc _ rfl) a1
  refine(FDoes.law k hC (hrX _) (by simp only [VRels];exact⟨_,_,rfl,vr0.mono leX,_,_,rfl,by simp [VRel],_,_,rfl,hv2 _ idX,rfl⟩)).mono fun e W' ⟨he,bel⟩=> ?_
  subst he
  exact⟨_,rfl,_,_,_,[],_,[],hW',trodAll_mk1 (shut_bool Tryz.underlying4 _),(trodAll_cons_mk (Below.trod laidOut (by kernel_rfl) (of_decide_eq_true (by kernel_rfl)) k0 bel lt0) (trodAll_cons_mk (shut_bool Tryz.underlying4 _) (trodAll_cons_mk (Below.trod laidOut (by kernel_rfl) (of_decide_eq_true (by kernel_rfl)) k2 bel lt2) trodAll_mk0))),rfl,bel.frame _,fun h=>by cases h⟩
theorem facts:joinedFacts Tryz.prog 7 Tryz.f7 (Rows.OpenSpec.upto Rows.tableSortsSpec).bare Rows.tableSortsUptoRow=true:=by
  unfold joinedFacts
  simp only [Bool.and_eq_true]
  repeat' apply And.intro
  all_goals (as_aux_lemma=>kernel_rfl)
theorem wrapped:Tryz.f7.isWrapper Tryz.prog Rows.tableSortsUptoRow.wrapper Rows.tableSortsUptoRow.mainSum:=by
  unfold Func.isWrapper;first | (rw [if_pos (by decide+kernel)];kernel_rfl) | (rw [if_neg (by decide+kernel)];exact⟨rfl,rfl⟩)
theorem named:Tryz.pinned.checked.prog.funcNamed Rows.tableSortsUptoRow.func=some 7:=by kernel_rfl
theorem row:Rows.TableSortsUptoSaid :=
  OpenClaim.holds_of_cond 7 Tryz.f7 rfl rfl rfl rfl rfl rfl rfl ⟨rfl,rfl,rfl,rfl,rfl⟩ rfl rfl rfl rfl rfl named Tryz.func7 facts
    (of_decide_eq_true (by kernel_rfl)) wrapped
    (fun os started H enc _ F=>by rw [OpenClaim.pre_eq_preRow];exact lifted os started H enc F)
theorem plain(f:FuncId)(fn:Func)(hf:Tryz.pinned.checked.prog.funcNamed "fresco/frescolaw14.TableSorts" =some f)(hfn:Tryz.pinned.checked.prog.funcs[f]? =some fn) :
    true=Tryz.pinned.checked.prog.looks []∧ ∀ (j:Nat) t,fn.params[j]? =some t→Tryz.pinned.checked.prog.wantsStandIn t=false:=by
  obtain rfl:f=7:=Option.some.inj ((show Tryz.prog.funcNamed "fresco/frescolaw14.TableSorts" =some 7 by kernel_rfl).symm.trans hf) |>.symm
  obtain rfl:fn=Tryz.f7:=(Option.some.inj (Tryz.func7.symm.trans hfn)).symm
  refine⟨by as_aux_lemma=>kernel_rfl,fun j t ht=> ?_⟩
  rw [Tryz.params7]at ht
  have h3:t∈ #[22,4,45]:=Array.mem_of_getElem? ht
  simp only [List.mem_toArray,List.mem_cons,List.not_mem_nil,or_false]at h3
  rcases h3 with rfl | rfl | rfl
  · exact(show Tryz.prog.wantsStandIn 22=false by kernel_rfl)
  · exact(show Tryz.prog.wantsStandIn 4=false by kernel_rfl)
  · exact(show Tryz.prog.wantsStandIn 45=false by kernel_rfl)
theorem proved:Rows.TableSortsUptoCardSaid :=
  Claim7.holds_tied_plain_at .later [] [.data,.data,.data,.data,.sentinel,.sentinel,.pinned] true (true, "94b6084aceee19128daf6120a59b64399d844e33429a995a47ea4cad2d545337") true
    row (fun _ h=>by cases h) (by as_aux_lemma=>kernel_rfl) (fun _ h=>by cases h) tableSortsUpto_row_tie rfl ⟨rfl,rfl⟩ (by as_aux_lemma=>kernel_rfl) rfl
    plain (by as_aux_lemma=>kernel_rfl)
#print axioms proved
end Go.Proofs.YtjpfnbihopoeeaaGreatDoor.tableSorts
