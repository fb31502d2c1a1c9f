/-
  PROVED HERE: 'frescolaw14.TableReads' answers true for every input of bulk at most 1048576 (the given statement TableReadsUptoCardSaid): the row, where the library's variables hold what the card ties them to, and the card. No condition beside the card's own.
-/
import Derived.Test.YtjpfnbihopoeeaaGreatDoorTie
import Derived.Test.YtjpfnbihopoeeaaGreatDoorCards
import Derived.SevenTiedAt
import Derived.ChangeOld
import Derived.Deep.DeepHandedRow
import Derived.Deep.DeepWitnessRowRef
import Derived.Shelf.Vars
import Derived.Test.YtjpfnbihopoeeaaGreatDoorKTableReadsD
set_option linter.unusedVariables false
set_option linter.unusedSimpArgs false
set_option linter.unusedSectionVars false
namespace Go.Proofs.YtjpfnbihopoeeaaGreatDoor.tableReads
open Go.ChangeShapes Go.WideShapes Go.ChangeAt Go.RowKit
open Go.Lift
set_option maxHeartbeats 8000000
theorem own:ownKnob Tryz.prog.godebug=none:=by kernel_rfl
theorem laidOut:laidOutB Tryz.prog=true:=by kernel_rfl
theorem laid_met(os:Os)(args:Array Value):laidMetH Tryz.prog Rows.tableReadsUptoRow.laid ((laidWorld os).forCall (fun _ _=>0) ⟨#[],args,[]⟩).memory:=Proofs.YtjpfnbihopoeeaaGreatDoor.laid_met os args
theorem reads(os:Os){H:Type}(enc:TypeId×Value→H): ∃ places,DataW.whole enc Tryz.prog ((laidWorld os).forCall (fun _ _=>0) ⟨#[],#[.string .empty,.string .empty],[]⟩).memory Tryz.f3.params.toList Rows.tableReadsSpec.vars false #[Value.string .empty,Value.string .empty].toList 8=some ([.lit (.string []),.lit (.string [])],[],places):=⟨[],by kernel_rfl⟩
set_option maxRecDepth 100000 in
theorem lifted(os:Os)(started:os.Started)(H:Type)(enc:TypeId×Value→H)(F:Stop.Interp) :
    ReturnsInHanded {} Tryz.checked os 3 .any ((Rows.OpenSpec.upto Rows.tableReadsSpec).preRow enc Tryz.prog Tryz.f3 Rows.tableReadsUptoRow.domain false Rows.tableReadsUptoRow.laid) (((Rows.OpenSpec.upto Rows.tableReadsSpec).at F).post enc Tryz.prog Tryz.f3 false true false false):=by
  obtain⟨places,hx⟩:=reads os enc
  refine returnsInHanded_of_row (C:=Tryz.checked) (s:=Rows.OpenSpec.upto Rows.tableReadsSpec) own started (by kernel_rfl) Tryz.func3
    (witness_row_atRef (enc:=enc) (C:=Tryz.checked) false (laidWorld os) #[.string .empty,.string .empty] rfl (by kernel_rfl) (by kernel_rfl) (by kernel_rfl)
      (OpenSpec.preRow_of_cond 8 hx (by kernel_rfl) (fun k hk=>by cases hk;kernel_rfl) (by kernel_rfl) (laid_met os _))) ?_
  intro W base args ds gs before hval0 hW hcnd hkc hwt0 hL hshape _
  have hC:=cnd_of_laid (W:=W) hL
  have hsz:0<W.heap.size:=Nat.lt_of_le_of_lt (Nat.zero_le _) hC.1
  have hval: ∀ (j:Nat) t v,Tryz.f3.params[j]? =some t→args[j]? =some v→Value.okWide Tryz.prog W .any base t v:=hval0
  have hW':=hW
  obtain⟨p,q,hA0,hV,rfl,hfz,hnd⟩:=hW
  have hA:DataW.TrodAll enc Tryz.prog W 0 (fun _=>true) true Tryz.f3.params.toList args.toList ds p:=hA0
  rw [Tryz.params3]at hA hval
  obtain⟨v0,vs0,d0,ds0,p0,q0_,hargs,rfl,rfl,h0,r0⟩:=trodAll_cons hA
  obtain⟨v1,vs1,d1,ds1,p1,q1_,rfl,rfl,rfl,h1,r1⟩:=trodAll_cons r0
  obtain⟨rfl,rfl,rfl⟩:=trodAll_nil r1
  obtain rfl:args= #[v0,v1]:=by cases args;simp_all
  obtain⟨rfl,rfl⟩:=trodVars_none hV
  have hwt: ∀ y∈DataW.weightsEach Tryz.prog [9,9] [d0,d1],y≤reachBytes:=fun y hy=>of_decide_eq_true (List.all_eq_true.1 hwt0 y hy)
  obtain⟨wt0,hwt0⟩:=weights_cons hwt
  obtain⟨wt1,hwt1⟩:=weights_cons hwt0
  have k0:=h0
  have lt0: ∀ x∈p0,x.block<W.heap.size:=by obtain⟨m,hm⟩:=k0;exact DataW.trod_lt m _ _ _ hm
  obtain⟨a0,rfl⟩:=okWide_string Tryz.underlying9 (hval 0 9 v0 rfl rfl)
  have w0:a0.size≤maxLen:=by obtain⟨fu,hf⟩:=h0;obtain⟨s,hs,_,hl⟩:=DataW.trod_string Tryz.underlying9 (cs:= [.string a0]) hf;simp at hs;subst hs;exact hl
  have sw0:a0.size≤reachBytes:=by obtain⟨fu,hf⟩:=h0;obtain⟨s,hs,hin⟩:=cell_weight 5 (P:=Tryz.prog) (t:=9) (c:=0) (cs:= [.string a0]) (by kernel_rfl) hf;simp at hs;subst hs;exact wt0 _ hin
  have k1:=h1
  have lt1: ∀ x∈p1,x.block<W.heap.size:=by obtain⟨m,hm⟩:=k1;exact DataW.trod_lt m _ _ _ hm
  obtain⟨a1,rfl⟩:=okWide_string Tryz.underlying9 (hval 1 9 v1 rfl rfl)
  have w1:a1.size≤maxLen:=by obtain⟨fu,hf⟩:=h1;obtain⟨s,hs,_,hl⟩:=DataW.trod_string Tryz.underlying9 (cs:= [.string a1]) hf;simp at hs;subst hs;exact hl
  have sw1:a1.size≤reachBytes:=by obtain⟨fu,hf⟩:=h1;obtain⟨s,hs,hin⟩:=cell_weight 5 (P:=Tryz.prog) (t:=9) (c:=0) (cs:= [.string a1]) (by kernel_rfl) hf;simp at hs;subst hs;exact wt1 _ hin
  clear hA0 hval0
  obtain⟨h',k⟩:=reads_law_at (bulk_str Tryz.underlying9 k0) (bulk_str Tryz.underlying9 k1) (hkc _ rfl) ⟨0,.nil⟩
  refine(FDoes.law k hC (HRel.empty _ _ _) (by simp only [VRels];exact⟨_,_,rfl,by simp only [VRel];exact⟨_,rfl,rfl⟩,_,_,rfl,by simp only [VRel];exact⟨_,rfl,rfl⟩,rfl⟩)).mono fun e W' ⟨he,bel⟩=> ?_
  subst he
  exact⟨_,rfl,_,_,_,[],_,[],hW',trodAll_mk1 (shut_bool Tryz.underlying4 _),(trodAll_cons_mk (Below.trod laidOut (by kernel_rfl) (of_decide_eq_true (by kernel_rfl)) k0 bel lt0) (trodAll_cons_mk (Below.trod laidOut (by kernel_rfl) (of_decide_eq_true (by kernel_rfl)) k1 bel lt1) trodAll_mk0)),rfl,bel.frame _,fun h=>by cases h⟩
theorem facts:joinedFacts Tryz.prog 3 Tryz.f3 (Rows.OpenSpec.upto Rows.tableReadsSpec).bare Rows.tableReadsUptoRow=true:=by
  unfold joinedFacts
  simp only [Bool.and_eq_true]
  repeat' apply And.intro
  all_goals (as_aux_lemma=>kernel_rfl)
theorem wrapped:Tryz.f3.isWrapper Tryz.prog Rows.tableReadsUptoRow.wrapper Rows.tableReadsUptoRow.mainSum:=by
  unfold Func.isWrapper;first | (rw [if_pos (by decide+kernel)];kernel_rfl) | (rw [if_neg (by decide+kernel)];exact⟨rfl,rfl⟩)
theorem named:Tryz.pinned.checked.prog.funcNamed Rows.tableReadsUptoRow.func=some 3:=by kernel_rfl
theorem row:Rows.TableReadsUptoSaid :=
  OpenClaim.holds_of_cond 3 Tryz.f3 rfl rfl rfl rfl rfl rfl rfl ⟨rfl,rfl,rfl,rfl,rfl⟩ rfl rfl rfl rfl rfl named Tryz.func3 facts
    (of_decide_eq_true (by kernel_rfl)) wrapped
    (fun os started H enc _ F=>by rw [OpenClaim.pre_eq_preRow];exact lifted os started H enc F)
theorem plain(f:FuncId)(fn:Func)(hf:Tryz.pinned.checked.prog.funcNamed "fresco/frescolaw14.TableReads" =some f)(hfn:Tryz.pinned.checked.prog.funcs[f]? =some fn) :
    true=Tryz.pinned.checked.prog.looks []∧ ∀ (j:Nat) t,fn.params[j]? =some t→Tryz.pinned.checked.prog.wantsStandIn t=false:=by
  obtain rfl:f=3:=Option.some.inj ((show Tryz.prog.funcNamed "fresco/frescolaw14.TableReads" =some 3 by kernel_rfl).symm.trans hf) |>.symm
  obtain rfl:fn=Tryz.f3:=(Option.some.inj (Tryz.func3.symm.trans hfn)).symm
  refine⟨by as_aux_lemma=>kernel_rfl,fun j t ht=> ?_⟩
  rw [Tryz.params3]at ht
  have h3:t∈ #[9,9]:=Array.mem_of_getElem? ht
  simp only [List.mem_toArray,List.mem_cons,List.not_mem_nil,or_false]at h3
  rcases h3 with rfl | rfl
  · exact(show Tryz.prog.wantsStandIn 9=false by kernel_rfl)
  · exact(show Tryz.prog.wantsStandIn 9=false by kernel_rfl)
theorem proved:Rows.TableReadsUptoCardSaid :=
  Claim7.holds_tied_plain_at .later [] [.data,.data,.data,.data,.sentinel,.sentinel,.pinned] true (true, "94b6084aceee19128daf6120a59b64399d844e33429a995a47ea4cad2d545337") true
    row (fun _ h=>by cases h) (by as_aux_lemma=>kernel_rfl) (fun _ h=>by cases h) tableReadsUpto_row_tie rfl ⟨rfl,rfl⟩ (by as_aux_lemma=>kernel_rfl) rfl
    plain (by as_aux_lemma=>kernel_rfl)
#print axioms proved
end Go.Proofs.YtjpfnbihopoeeaaGreatDoor.tableReads
