/-
  PROVED HERE: 'frescolaw14.TableKnown' answers true for every input (the given statement TableKnownCardSaid): the row, where the library's variables hold what the card ties them to, and the card. No condition beside the card's own.
-/
import Derived.Test.YtjpfnbihopoeeaaGreatDoorTie
import Derived.Test.YtjpfnbihopoeeaaGreatDoorCards
import Derived.SevenTiedAt
import Derived.ChangeOld
import Derived.Test.YtjpfnbihopoeeaaGreatDoorKTableKnownB
set_option linter.unusedVariables false
set_option linter.unusedSimpArgs false
set_option linter.unusedSectionVars false
namespace Go.Proofs.YtjpfnbihopoeeaaGreatDoor.tableKnown
open Go.ChangeShapes Go.WideShapes Go.ChangeAt Go.RowKit
open Go.Lift
set_option maxHeartbeats 8000000
theorem own:ownKnob Tryz.prog.godebug=none:=by kernel_rfl
theorem laidOut:laidOutB Tryz.prog=true:=by kernel_rfl
theorem cond_of {W:World}(h:laidMetH Tryz.prog Rows.tableKnownRow.laid W):env.cond (fun k=>k<W.heap.size) W:=cnd_of_laid h
theorem walk(W:World)(args:Array Value)(hs:args.size=0)(h:laidMetH Tryz.prog Rows.tableKnownRow.laid W):Calls Tryz.prog 10 args W fun e w'=>e= .returned (.bool true)∧Below W.heap.size W w':=by
  obtain⟨h',hc⟩:=fcall_true tableKnown_run
  refine acall_true env_ok mixed hc (cond_of h) (HRel.empty _ _ _) ?_
  obtain⟨l⟩:=args
  simp only [List.size_toArray]at hs
  rw [List.length_eq_zero_iff.1 hs]
  simp [VRels]
set_option maxRecDepth 100000 in
theorem lifted(os:Os)(started:os.Started)(H:Type)(enc:TypeId×Value→H) :
    ReturnsInHanded {} Tryz.checked os 10 .any (fun w args=>(Rows.tableKnownSpec.pre enc Tryz.prog Tryz.f10 [] false w args∧laidMetH Tryz.prog Rows.tableKnownRow.laid w)∧sizedMet enc Tryz.prog Tryz.f10 (OpenSpec.ofChange Rows.tableKnownSpec) false w args)
      (Rows.tableKnownSpec.post enc Tryz.prog Tryz.f10 false true false false):=by
  refine returnsInHanded_of_change_and (C:=Tryz.checked) (X:=fun w _=>laidMetH Tryz.prog Rows.tableKnownRow.laid w) (fun _ _ _ hh h=>h.of_heap hh) own started (by kernel_rfl) Tryz.func10
    (ChangeSpec.witness_shaped (enc:=enc) (C:=Tryz.checked) (os:=os) (X:=fun w _=>laidMetH Tryz.prog Rows.tableKnownRow.laid w) false (laidWorld os) #[] 8 rfl (laid_shaped os _) (by kernel_rfl) (by kernel_rfl) (by kernel_rfl) (laid_met os _)) ?_
  intro W base args ds gs before hval0 hW _ _ hL _
  have hW':=hW
  obtain⟨p,q,hA0,hV,rfl,hfz,hnd⟩:=hW
  have hA:DataW.TrodAll enc Tryz.prog W 0 (fun _=>true) true Tryz.f10.params.toList args.toList ds p:=hA0
  rw [Tryz.params10]at hA
  obtain⟨rfl,rfl,rfl⟩:=trodAll_none hA
  obtain⟨rfl,rfl⟩:=trodVars_none hV
  refine(walk W _ (by simp) hL).mono fun e W' ⟨he,bel⟩=> ?_
  subst he
  exact⟨_,rfl,_,_,_,[],_,[],hW',trodAll_mk1 (shut_bool Tryz.underlying4 _),trodAll_mk0,rfl,bel.frame _,fun h=>by cases h⟩
theorem facts:joinedFacts Tryz.prog 10 Tryz.f10 Rows.tableKnownSpec Rows.tableKnownRow=true:=by
  unfold joinedFacts
  simp only [Bool.and_eq_true]
  repeat' apply And.intro
  all_goals (as_aux_lemma=>kernel_rfl)
theorem wrapped:Tryz.f10.isWrapper Tryz.prog Rows.tableKnownRow.wrapper Rows.tableKnownRow.mainSum:=by
  unfold Func.isWrapper;first | (rw [if_pos (by decide+kernel)];kernel_rfl) | (rw [if_neg (by decide+kernel)];exact⟨rfl,rfl⟩)
theorem named:Tryz.pinned.checked.prog.funcNamed Rows.tableKnownRow.func=some 10:=by kernel_rfl
theorem row:Rows.TableKnownSaid :=
  OpenClaim.holds_of_wide 10 Tryz.f10 rfl rfl rfl rfl rfl rfl rfl ⟨rfl,rfl,rfl,rfl,rfl⟩ rfl rfl rfl rfl rfl named Tryz.func10 facts
    (of_decide_eq_true (by kernel_rfl)) wrapped
    (fun os started H enc _=>lifted os started H enc)
theorem proved:Rows.TableKnownCardSaid :=
  Claim7.holds_tied_plain_at .later [] [.data,.data,.data,.data,.sentinel,.sentinel,.pinned] true (true, "94b6084aceee19128daf6120a59b64399d844e33429a995a47ea4cad2d545337") true
    row (fun _ h=>by cases h) (by as_aux_lemma=>kernel_rfl) (fun _ h=>by cases h) tableKnown_row_tie rfl ⟨rfl,rfl⟩ (by as_aux_lemma=>kernel_rfl) rfl
    (fun f fn hf hfn=>by
      obtain rfl:f=10:=Option.some.inj ((show Tryz.prog.funcNamed "fresco/frescolaw14.TableKnown" =some 10 by kernel_rfl).symm.trans hf) |>.symm
      obtain rfl:fn=Tryz.f10:=(Option.some.inj (Tryz.func10.symm.trans hfn)).symm
      exact⟨by as_aux_lemma=>kernel_rfl,fun j t ht=>by
        rw [Tryz.params10]at ht
        simp at ht⟩)
    (by as_aux_lemma=>kernel_rfl)
#print axioms proved
end Go.Proofs.YtjpfnbihopoeeaaGreatDoor.tableKnown
