/-
  Parts of the proof, one behind the other:
  THE LIFT, PART L: regions that draw their order: whatever order is drawn, the answer is that of the order of the text.
  THE LIFT, PART M: code and calls: what the abstract machine answers the model answers.
  THE LIFT, PART N: from an answer of the abstract machine to the model's call; types that '==' takes cell by cell.
  THE LIFT, PART P: a closed run, taken as a function whose answer is known, wherever it is called.
  THE LIFT, PART U: one call, told of a small memory, holds in every memory that holds the small one (with other numbers for the rows).
  THE LIFT, PART S: runs of the abstract machine over values that are not known: a path through a function is run with hints (what an operation answers that cannot be worked out, which way a test goes), and what the hints ask is told.
  THE LIFT, PART T: paths (part S) are sound: what a path answers the model does, wherever the rows lie; loops; functions.
  THE LIFT, PART V: canonical memories; rows forgotten at a loop's head; a call told of a small memory, in every memory; what hints ask, paid.
  THE ENVIRONMENT OF THIS PROGRAM for the abstract machine, and that it is sound.
  SLICES OF INTEGERS of this program: indexes.
  ITEMS THAT MAY BE: what solve.Right and the document's Right answer, for every item.
  THE LIFT: arguments that came in, as rows that must not be written.
  THE LIFT: arguments of flat types (numbers, bools, strings, structs and arrays of these; slices of such), as they came in.
  ITEMS: as values, and as they came in.
  ROWS OF NUMBERS: read, written, grown, put over.
  ROWS OF FOUR NUMBERS (spans, rectangles): as values, as they came in, written and grown.
  A PLACE FOR EACH SPAN: the law of it, without the program.
  SEEKING A PLACE: why what is passed over is not free. Without the program.
  grid.board: hit, across, down: the walk.
  THE LIFT, PART W: a call told of a small memory whose rows name rows of it, in every memory.
  THE LIFT, PART Y: a call told of a small memory whose rows name rows of it: what comes new, in every memory.
  grid.board: hit, across and down: what they answer.
  Have two spans a cell in common: the walk.
-/
import Derived.Scope
import Derived.Test.YtcgcpmcjaeenlaaRows
import Derived.KernelRfl
import Derived.ProofKit
import Derived.OpenShut
import Derived.ChangeOld
import Derived.HandedShaped
import Derived.Deep.Slices
import Derived.Test.YtcgcpmcjaeenlaaKGridHoldsA

namespace Go.Lift
noncomputable section
open Go.RowKit
set_option linter.unusedVariables false
set_option linter.unusedSimpArgs false

/-! ## values held against each other -/

mutual
theorem AVal.same_eq : ∀ {a b : AVal}, AVal.same a b = true → a = b := by
  intro a b h
  cases a <;> cases b <;> simp only [AVal.same, Bool.false_eq_true, Bool.and_eq_true, beq_iff_eq, decide_eq_true_eq] at h <;>
    first
      | rfl
      | (subst h; rfl)
      | (obtain ⟨rfl, rfl⟩ := h; rfl)
      | (obtain ⟨⟨rfl, rfl⟩, rfl⟩ := h; rfl)
      | (obtain ⟨⟨rfl, h1⟩, h2⟩ := h; rw [AVal.sames_eq h1, AVal.sames_eq h2])
      | (obtain ⟨rfl, h1⟩ := h; rw [AVal.same_eq h1])
      | (rw [AVal.sames_eq h])
theorem AVal.sames_eq : ∀ {a b : List AVal}, AVal.sames a b = true → a = b := by
  intro a b h
  cases a <;> cases b <;> simp only [AVal.sames, Bool.false_eq_true, Bool.and_eq_true] at h
  · rfl
  · obtain ⟨h1, h2⟩ := h
    rw [AVal.same_eq h1, AVal.sames_eq h2]
end

theorem ABlk.same_eq {a b : ABlk} (h : ABlk.same a b = true) : a = b := by
  cases a; cases b
  simp only [ABlk.same, Bool.and_eq_true, beq_iff_eq] at h
  obtain ⟨⟨⟨⟨⟨⟨h1, h2⟩, h3⟩, h4⟩, h5⟩, h6⟩, h7⟩ := h
  rw [AVal.sames_eq h1, h2, h3, h4, h5, h6, h7]

mutual
theorem AVal.same_refl : ∀ (a : AVal), AVal.same a a = true
  | .undef => rfl
  | .bool _ => by simp [AVal.same]
  | .int _ _ => by simp [AVal.same]
  | .str _ => by simp [AVal.same]
  | .ptr _ => by simp [AVal.same]
  | .slice _ _ _ => by simp [AVal.same]
  | .func _ f c => by simp [AVal.same, AVal.sames_refl f, AVal.sames_refl c]
  | .nilFunc => rfl
  | .iface _ v => by simp [AVal.same, AVal.same_refl v]
  | .nilIface => rfl
  | .agg l => by simp [AVal.same, AVal.sames_refl l]
  | .tuple l => by simp [AVal.same, AVal.sames_refl l]
theorem AVal.sames_refl : ∀ (l : List AVal), AVal.sames l l = true
  | [] => rfl
  | a :: r => by simp [AVal.sames, AVal.same_refl a, AVal.sames_refl r]
end

theorem ABlk.same_refl (a : ABlk) : ABlk.same a a = true := by simp [ABlk.same, AVal.sames_refl]
theorem sameOld_get {lim : Nat} {h h' : AHeap} (k : sameOld lim h h' = true) {i : Nat} (hi : i < lim) : h'.get i = h.get i :=
  Trie.sameBelow_spec (fun _ _ => ABlk.same_eq) lim h'.blks h.blks 0 1 k i (by omega)

section
variable {E : AEnv} {call : ACall}

theorem pure_spec {nid : Nat} {ρ : Operand → AVal} {h h1 : AHeap} {o : Op} {v : AVal} (hc : cls o = .pure) (ho : aop E call nid ρ h o = some (v, h1)) :
    h1 = h ∧ ∀ (nid' : Nat) (h' : AHeap), aop E call nid' ρ h' o = some (v, h') := by
  cases o <;> simp only [cls, reduceCtorEq] at hc <;> simp only [aop] at ho ⊢ <;>
    first
      | (simp only [Option.map_eq_some_iff, Prod.mk.injEq, Option.some.injEq] at ho
         obtain ⟨v1, hv, rfl, rfl⟩ := ho
         exact ⟨rfl, fun _ _ => by rw [hv]; rfl⟩)
      | (simp only [Prod.mk.injEq, Option.some.injEq] at ho
         obtain ⟨rfl, rfl⟩ := ho
         exact ⟨rfl, fun _ _ => rfl⟩)
      | skip
  · split at ho
    · rename_i t ht
      simp only [Prod.mk.injEq, Option.some.injEq] at ho
      obtain ⟨rfl, rfl⟩ := ho
      exact ⟨rfl, fun _ _ => by simp only [ht]⟩
    · cases ho
  · split at ho
    · rename_i a ha
      simp only [Prod.mk.injEq, Option.some.injEq] at ho
      obtain ⟨rfl, rfl⟩ := ho
      exact ⟨rfl, fun _ _ => by simp only [ha]⟩
    · rename_i g fs cs ha
      simp only [Prod.mk.injEq, Option.some.injEq] at ho
      obtain ⟨rfl, rfl⟩ := ho
      exact ⟨rfl, fun _ _ => by simp only [ha]⟩
    · cases ho
  · rename_i fn fs cs
    cases fn <;> simp only [aop] at ho ⊢ <;> first | (cases ho; done) | skip
    simp only [Prod.mk.injEq, Option.some.injEq] at ho
    obtain ⟨rfl, rfl⟩ := ho
    exact ⟨rfl, fun _ _ => rfl⟩
  · split at ho
    · rename_i vs hv
      simp only [Option.map_eq_some_iff, Prod.mk.injEq] at ho
      obtain ⟨v1, h1, rfl, rfl⟩ := ho
      exact ⟨rfl, fun _ _ => by simp only [hv, h1, Option.map_some]⟩
    · cases ho
  · rename_i c
    cases hcal : c.callee with
    | value f => rw [hcal] at hc; simp at hc
    | invoke r m => rw [hcal] at hc; simp at hc
    | builtin b =>
      rw [hcal] at hc ho
      simp only [hcal]
      cases b <;> first | (simp at hc; done) | skip
      all_goals
        simp only [abuiltin] at ho ⊢
        split at ho
        · simp only [Option.map_eq_some_iff, Prod.mk.injEq] at ho
          obtain ⟨v1, h1, rfl, rfl⟩ := ho
          exact ⟨rfl, fun _ _ => by simp only [h1, Option.map_some]⟩
        · cases ho

theorem load_spec {nid : Nat} {ρ : Operand → AVal} {h h1 : AHeap} {o : Op} {v : AVal} (hc : cls o = .load) (ho : aop E call nid ρ h o = some (v, h1)) :
    h1 = h ∧ ∃ b, loadId ρ o = some b ∧ ∀ (nid' : Nat) (h' : AHeap), h'.get b = h.get b → aop E call nid' ρ h' o = some (v, h') := by
  cases o <;> simp only [cls, reduceCtorEq] at hc
  · rename_i t x
    simp only [aop] at ho ⊢
    split at ho
    · rename_i a ha
      simp only [Option.map_eq_some_iff, Prod.mk.injEq] at ho
      obtain ⟨v1, hv, rfl, rfl⟩ := ho
      refine ⟨rfl, a.id, by simp [loadId, ha], fun nid' h' hg => ?_⟩
      simp only [ha, aload, hg] at hv ⊢
      rw [hv]; rfl
    · cases ho
  · rename_i c
    cases hcal : c.callee with
    | value f => rw [hcal] at hc; simp at hc
    | invoke r m => rw [hcal] at hc; simp at hc
    | builtin b => rw [hcal] at hc; cases b <;> simp at hc

theorem store_spec {nid : Nat} {ρ : Operand → AVal} {h h1 : AHeap} {o : Op} {v : AVal} (hc : cls o = .store) (ho : aop E call nid ρ h o = some (v, h1)) :
    ∃ s b, storeId ρ o = some s ∧ h1 = h.set s b ∧ True := by
  cases o <;> simp only [cls, reduceCtorEq] at hc
  · rename_i t x y
    simp only [aop] at ho
    split at ho
    · rename_i a ha
      simp only [Option.map_eq_some_iff, Prod.mk.injEq] at ho
      obtain ⟨h2, hv, rfl, rfl⟩ := ho
      unfold astore at hv
      split at hv
      · split at hv
        · split at hv
          · split at hv
            · simp only [Option.some.injEq] at hv
              exact ⟨a.id, _, by simp [storeId, ha], hv.symm, trivial⟩
            · cases hv
          · cases hv
        · cases hv
      · cases hv
    · cases ho
  · rename_i c
    cases hcal : c.callee with
    | value f => rw [hcal] at hc; simp at hc
    | invoke r m => rw [hcal] at hc; simp at hc
    | builtin b => rw [hcal] at hc; cases b <;> simp at hc

theorem alloc_spec {nid : Nat} {ρ : Operand → AVal} {h h1 : AHeap} {o : Op} {v : AVal} (hc : cls o = .alloc) (ho : aop E call nid ρ h o = some (v, h1)) :
    ∃ b, h1 = h.set nid b ∧ ∀ (h' : AHeap), aop E call nid ρ h' o = some (v, h'.set nid b) := by
  cases o <;> simp only [cls, reduceCtorEq] at hc
  · rename_i t
    simp only [aop] at ho ⊢
    split at ho
    · rename_i d hd
      split at ho
      · rename_i z hz
        split at ho
        · rename_i hcc
          simp only [Prod.mk.injEq, Option.some.injEq] at ho
          obtain ⟨rfl, rfl⟩ := ho
          exact ⟨_, rfl, fun h' => by simp only [hcc, if_true]⟩
        · cases ho
      · cases ho
    · cases ho
  · rename_i t x
    simp only [aop] at ho ⊢
    split at ho
    · rename_i d hd
      split at ho
      · rename_i hcc
        simp only [Prod.mk.injEq, Option.some.injEq] at ho
        obtain ⟨rfl, rfl⟩ := ho
        exact ⟨_, rfl, fun h' => by simp only [hcc, if_true]⟩
      · cases ho
    · cases ho
  · rename_i t n parts
    simp only [aop, abuildSlice] at ho ⊢
    split at ho
    · rename_i d hd
      split at ho
      · rename_i e he
        split at ho
        · rename_i x hx
          split at ho
          · rename_i z hz
            split at ho
            · rename_i hcc
              split at ho
              · rename_i l hl
                simp only [Prod.mk.injEq, Option.some.injEq] at ho
                obtain ⟨rfl, rfl⟩ := ho
                refine ⟨_, rfl, fun h' => ?_⟩
                simp only [he, hx, hz, hcc, hl, and_self, if_true]
              · cases ho
            · cases ho
          · cases ho
        · cases ho
      · cases ho
    · cases ho
  · rename_i t l c
    simp only [aop, amakeSlice] at ho ⊢
    split at ho
    · rename_i d k1 n k2 m hd hl hm
      split at ho
      · rename_i e he
        split at ho
        · rename_i x hx
          split at ho
          · rename_i z hz
            split at ho
            · rename_i hcc
              simp only [Prod.mk.injEq, Option.some.injEq] at ho
              obtain ⟨rfl, rfl⟩ := ho
              refine ⟨_, rfl, fun h' => ?_⟩
              simp only [he, hx, hz, hcc, and_self, if_true]
            · cases ho
          · cases ho
        · cases ho
      · cases ho
    · cases ho
  · rename_i c
    cases hcal : c.callee with
    | value f => rw [hcal] at hc; simp at hc
    | invoke r m => rw [hcal] at hc; simp at hc
    | builtin b => rw [hcal] at hc; cases b <;> simp at hc

/-! ## the operands alone decide -/

theorem map_congr_ops {ρ ρ' : Operand → AVal} {xs : Array Operand} (h : ∀ x ∈ xs.toList, ρ x = ρ' x) : xs.toList.map ρ = xs.toList.map ρ' := List.map_congr_left h

theorem opt_congr {ρ ρ' : Operand → AVal} {o : Option Operand} (h : ∀ x ∈ o.toList, ρ x = ρ' x) : o.map ρ = o.map ρ' := by
  cases o with
  | none => rfl
  | some x => simp [h x (by simp)]

theorem aop_congr {nid : Nat} {ρ ρ' : Operand → AVal} {h : AHeap} {o : Op} (hρ : ∀ x ∈ o.operands.toList, ρ x = ρ' x) : aop E call nid ρ h o = aop E call nid ρ' h o := by
  cases o
  case call c =>
    simp only [Op.operands, Call.operands, Array.toList_append, List.mem_append] at hρ
    simp only [aop]
    have ha := map_congr_ops (xs := c.args) (fun x hx => hρ x (.inr hx))
    cases hcal : c.callee with
    | value f =>
      rw [hcal] at hρ
      simp only [ha, hρ f (.inl (by simp))]
    | invoke r m => rfl
    | builtin b => simp only [ha]
  case makeFunc fn fs cs =>
    simp only [Op.operands, Array.toList_append, List.mem_append] at hρ
    cases fn <;> simp only [aop]
    rw [map_congr_ops (xs := fs) (fun x hx => hρ x (.inl hx)), map_congr_ops (xs := cs) (fun x hx => hρ x (.inr hx))]
  case slice t x lo hi mx =>
    simp only [Op.operands, Array.toList_append, List.mem_append] at hρ
    simp only [aop]
    rw [hρ x (by simp), opt_congr (o := lo) (fun y hy => hρ y (by simp_all)), opt_congr (o := hi) (fun y hy => hρ y (by simp_all)), opt_congr (o := mx) (fun y hy => hρ y (by simp_all))]
  case build t parts =>
    have hp : (parts.toList.map fun p => (p.1, ρ p.2)) = parts.toList.map fun p => (p.1, ρ' p.2) := by
      refine List.map_congr_left fun p hp => ?_
      rw [hρ p.2 (by simp only [Op.operands]; exact List.mem_map.2 ⟨p, hp, rfl⟩)]
    simp only [aop, hp]
  case buildSlice t n parts =>
    have hp : (parts.toList.map fun p => (p.1, ρ p.2)) = parts.toList.map fun p => (p.1, ρ' p.2) := by
      refine List.map_congr_left fun p hp => ?_
      rw [hρ p.2 (by simp only [Op.operands]; exact List.mem_map.2 ⟨p, hp, rfl⟩)]
    simp only [aop, hp]
  all_goals first
    | rfl
    | (simp only [aop, Op.operands] at hρ ⊢; simp_all)


/-! ## what stands ahead -/

def maskOf (acc : Array Nat) (o : Oper) : Nat := o.after.toList.foldl (fun s e => if binding e then s ||| 2 ^ e.on ||| acc.getD e.on 0 else s) 0

theorem fold_keep : ∀ (l : List Oper) (acc : Array Nat) (k : Nat), k < acc.size → (l.foldl (fun acc o => acc.push (maskOf acc o)) acc).getD k 0 = acc.getD k 0
  | [], acc, k, h => rfl
  | o :: r, acc, k, h => by
    simp only [List.foldl_cons]
    rw [fold_keep r _ k (by simp; omega)]
    simp [Array.getD_eq_getD_getElem?, Array.getElem?_push, Nat.ne_of_lt h]

theorem maskOf_congr {a b : Array Nat} {o : Oper} (h : ∀ e ∈ o.after.toList, binding e = true → a.getD e.on 0 = b.getD e.on 0) : maskOf a o = maskOf b o := by
  unfold maskOf
  have key : ∀ (l : List Edge) (s : Nat), (∀ e ∈ l, binding e = true → a.getD e.on 0 = b.getD e.on 0) →
      l.foldl (fun s e => if binding e then s ||| 2 ^ e.on ||| a.getD e.on 0 else s) s = l.foldl (fun s e => if binding e then s ||| 2 ^ e.on ||| b.getD e.on 0 else s) s := by
    intro l
    induction l with
    | nil => intro s _; rfl
    | cons e r ih =>
      intro s hl
      simp only [List.foldl_cons]
      have : (if binding e then s ||| 2 ^ e.on ||| a.getD e.on 0 else s) = (if binding e then s ||| 2 ^ e.on ||| b.getD e.on 0 else s) := by
        cases hb : binding e
        · rfl
        · simp only [if_true]; rw [hl e (by simp) hb]
      rw [this, ih _ (fun e he => hl e (by simp [he]))]
  exact key _ 0 h

theorem fold_at : ∀ (l : List Oper) (acc : Array Nat) (m : Nat) (o : Oper), l[m]? = some o → (∀ e ∈ o.after.toList, binding e = true → e.on < acc.size + m) →
    (l.foldl (fun acc o => acc.push (maskOf acc o)) acc).getD (acc.size + m) 0 = maskOf (l.foldl (fun acc o => acc.push (maskOf acc o)) acc) o
  | [], acc, m, o, h, _ => by simp at h
  | a :: r, acc, 0, o, h, he => by
    simp at h; subst h
    simp only [List.foldl_cons, Nat.add_zero]
    rw [fold_keep r _ acc.size (by simp)]
    have : (acc.push (maskOf acc a)).getD acc.size 0 = maskOf acc a := by simp [Array.getD_eq_getD_getElem?]
    rw [this]
    refine maskOf_congr fun e hm hb => ?_
    have hlt := he e hm hb
    rw [fold_keep r _ e.on (by simp; omega)]
    simp [Array.getD_eq_getD_getElem?, Array.getElem?_push]
    rw [if_neg (by omega)]
  | a :: r, acc, m + 1, o, h, he => by
    simp at h
    simp only [List.foldl_cons]
    have := fold_at r (acc.push (maskOf acc a)) m o h (fun e hm hb => by have := he e hm hb; simp; omega)
    simp only [Array.size_push] at this
    rw [show acc.size + (m + 1) = acc.size + 1 + m by omega]
    exact this

theorem mask_bit {acc : Array Nat} {i : Nat} : ∀ (l : List Edge) (s : Nat), (l.foldl (fun s e => if binding e then s ||| 2 ^ e.on ||| acc.getD e.on 0 else s) s).testBit i = true →
    s.testBit i = true ∨ ∃ e ∈ l, binding e = true ∧ (e.on = i ∨ (acc.getD e.on 0).testBit i = true)
  | [], s, h => .inl h
  | e :: r, s, h => by
    simp only [List.foldl_cons] at h
    rcases mask_bit r _ h with h1 | ⟨e', h1, h2⟩
    · cases hb : binding e
      · rw [hb] at h1; exact .inl (by simpa using h1)
      · rw [hb] at h1
        simp only [if_true, Nat.testBit_or, Bool.or_eq_true] at h1
        rcases h1 with (h1 | h1) | h1
        · exact .inl h1
        · right
          rw [Nat.testBit_two_pow] at h1
          exact ⟨e, by simp, hb, .inl (by simpa using h1)⟩
        · exact .inr ⟨e, by simp, hb, .inr h1⟩
    · exact .inr ⟨e', by simp [h1], h2⟩

/-- the edges go down -/
def Lower (ops : Array Oper) : Prop := ∀ (j : Nat) (o : Oper), ops[j]? = some o → ∀ e ∈ o.after.toList, binding e = true → e.on < j

theorem ordered_spec {ops : Array Oper} (hl : Lower ops) {i j : Nat} {o : Oper} (ho : ops[j]? = some o) (h : ordered (aheads ops) i j = true) :
    ∃ e ∈ o.after.toList, binding e = true ∧ (e.on = i ∨ ordered (aheads ops) i e.on = true) := by
  unfold ordered at h
  have := fold_at ops.toList #[] j o (by simpa using ho) (fun e he hb => by have := hl j o ho e he hb; simp; omega)
  simp only [List.size_toArray, List.length_nil, Nat.zero_add] at this
  have e1 : aheads ops = ops.toList.foldl (fun acc o => acc.push (maskOf acc o)) #[] := rfl
  rw [e1, this] at h
  rcases mask_bit _ _ h with h1 | h1
  · simp at h1
  · exact h1

theorem ordered_none {ops : Array Oper} {i j : Nat} (ho : ops[j]? = none) : ordered (aheads ops) i j = false := by
  have hsz : ∀ (l : List Oper) (acc : Array Nat), (l.foldl (fun acc o => acc.push (maskOf acc o)) acc).size = acc.size + l.length := by
    intro l
    induction l with
    | nil => intro acc; rfl
    | cons a r ih => intro acc; simp only [List.foldl_cons, ih, Array.size_push, List.length_cons]; omega
  have e1 : aheads ops = ops.toList.foldl (fun acc o => acc.push (maskOf acc o)) #[] := rfl
  have hj : ops.size ≤ j := by simpa using ho
  unfold ordered
  rw [e1, Array.getD_eq_getD_getElem?, Array.getElem?_eq_none (by rw [hsz]; simpa using hj)]
  simp

theorem ordered_lt {ops : Array Oper} (hl : Lower ops) : ∀ (j : Nat) {i : Nat}, ordered (aheads ops) i j = true → i < j := by
  intro j
  induction j using Nat.strongRecOn with
  | _ j ih =>
    intro i h
    cases ho : ops[j]? with
    | none => rw [ordered_none ho] at h; cases h
    | some o =>
      obtain ⟨e, he, hb, hc⟩ := ordered_spec hl ho h
      have := hl j o ho e he hb
      rcases hc with rfl | hc
      · exact this
      · have := ih e.on this hc; omega

/-- what is listed is closed -/
def Closed (ops : Array Oper) (listed : Array Bool) : Prop := ∀ (j : Nat) (o : Oper), listed.getD j false = true → ops[j]? = some o → ∀ e ∈ o.after.toList, binding e = true → listed.getD e.on false = true

theorem ordered_listed {ops : Array Oper} (hl : Lower ops) {listed : Array Bool} (hc : Closed ops listed) : ∀ (j : Nat) (o : Oper), ops[j]? = some o → (∀ e ∈ o.after.toList, binding e = true → listed.getD e.on false = true) →
    ∀ {i : Nat}, ordered (aheads ops) i j = true → listed.getD i false = true := by
  intro j
  induction j using Nat.strongRecOn with
  | _ j ih =>
    intro o ho hp i h
    obtain ⟨e, he, hb, hcase⟩ := ordered_spec hl ho h
    have hlt := hl j o ho e he hb
    have hle := hp e he hb
    rcases hcase with rfl | hcase
    · exact hle
    · cases hoe : ops[e.on]? with
      | none => rw [ordered_none hoe] at hcase; cases hcase
      | some oe => exact ih e.on hlt oe hoe (hc e.on oe hle hoe) hcase

/-! ## two operations change places -/

/-- what an operation makes, and the memory behind it -/
def dval (E : AEnv) (call : ACall) (ops : Array Oper) (n0 j : Nat) (o : Oper) (σ : List AVal) (h : AHeap) : Option (AVal × AHeap) :=
  match awanted ops σ o with
  | some true => dop E call ops n0 j (agetOp σ) h o.op
  | some false => some (skipped, h)
  | none => none

theorem dstep_eq {ops : Array Oper} {n0 j : Nat} {o : Oper} (ho : ops[j]? = some o) (s : ASt) :
    dstep E call ops n0 j s = (dval E call ops n0 j o s.slots s.heap).map fun p => ⟨aput s.slots o.dst p.1, p.2⟩ := by
  unfold dstep dval
  rw [ho]
  simp only
  cases awanted ops s.slots o with
  | none => rfl
  | some b =>
    cases b with
    | false => rfl
    | true =>
      simp only
      cases dop E call ops n0 j (agetOp s.slots) s.heap o.op with
      | none => rfl
      | some p => rfl

theorem dop_aop {ops : Array Oper} {n0 j : Nat} {ρ : Operand → AVal} {h : AHeap} {o : Op} {v : AVal} {h' : AHeap} (hd : dop E call ops n0 j ρ h o = some (v, h')) : aop E call (n0 + j) ρ h o = some (v, h') := by
  unfold dop at hd
  split at hd
  · split at hd
    · split at hd
      · exact hd
      · cases hd
    · cases hd
  · split at hd
    · split at hd
      · cases hd
      · exact hd
    · cases hd
  · split at hd
    · rename_i v1 h1 he
      split at hd
      · split at hd
        · rw [he]; exact hd
        · cases hd
      · rw [he]; exact hd
    · cases hd
  · exact hd

theorem aget_put {σ : List AVal} {d : Tmp} {v : AVal} {x : Operand} (h : ∀ t, x = .tmp t → t ≠ d) : agetOp (σ.set d v) x = agetOp σ x := by
  cases x with
  | tmp t =>
    have : d ≠ t := fun e => h t rfl e.symm
    simp [agetOp, List.getD_eq_getElem?_getD, List.getElem?_set_ne this]
  | const v => rfl
  | global g => rfl
  | func f => rfl

theorem mem_tmpsOf {xs : List Operand} {t : Tmp} (h : Operand.tmp t ∈ xs) : t ∈ tmpsOf xs := by
  unfold tmpsOf; exact List.mem_filterMap.2 ⟨_, h, rfl⟩

theorem dval_congr {ops : Array Oper} {n0 j : Nat} {o : Oper} {σ : List AVal} {d : Tmp} {v : AVal} {h : AHeap} (hd : d ∉ readsOf ops o) :
    dval E call ops n0 j o (σ.set d v) h = dval E call ops n0 j o σ h := by
  unfold readsOf at hd
  simp only [List.mem_append, not_or] at hd
  obtain ⟨hd1, hd2⟩ := hd
  have hρ : ∀ x ∈ o.op.operands.toList, agetOp (σ.set d v) x = agetOp σ x := fun x hx => aget_put fun t ht e => by
    subst ht e; exact hd1 (mem_tmpsOf hx)
  have hw : awanted ops (σ.set d v) o = awanted ops σ o := by
    unfold awanted
    split
    · rfl
    · rename_i g want hg
      rw [hg] at hd2
      split
      · rename_i dd hdd
        simp only [hdd, Option.toList_some, List.mem_singleton] at hd2
        rw [List.getElem?_set_ne (fun e => hd2 e)]
      · rfl
  unfold dval
  rw [hw]
  have hop : ∀ nid, aop E call nid (agetOp (σ.set d v)) h o.op = aop E call nid (agetOp σ) h o.op := fun nid => aop_congr hρ
  have hlo : loadId (agetOp (σ.set d v)) o.op = loadId (agetOp σ) o.op := by
    cases hoo : o.op <;> simp only [loadId]
    rename_i t x
    rw [hoo] at hρ
    rw [hρ x (by simp [Op.operands])]
  have hso : storeId (agetOp (σ.set d v)) o.op = storeId (agetOp σ) o.op := by
    cases hoo : o.op <;> simp only [storeId]
    rename_i t x y
    rw [hoo] at hρ
    rw [hρ x (by simp [Op.operands])]
  have hdop : dop E call ops n0 j (agetOp (σ.set d v)) h o.op = dop E call ops n0 j (agetOp σ) h o.op := by
    unfold dop
    rw [hop, hlo, hso]
  rw [hdop]

theorem aput_congr {ops : Array Oper} {n0 j : Nat} {o x : Oper} {σ : List AVal} {v : AVal} {h : AHeap} (hd : ∀ d, x.dst = some d → d ∉ readsOf ops o) :
    dval E call ops n0 j o (aput σ x.dst v) h = dval E call ops n0 j o σ h := by
  cases hx : x.dst with
  | none => rfl
  | some d => exact dval_congr (hd d hx)

theorem aput_comm {σ : List AVal} {x y : Oper} {v u : AVal} (h : ∀ d, x.dst = some d → y.dst ≠ some d) : aput (aput σ x.dst v) y.dst u = aput (aput σ y.dst u) x.dst v := by
  cases hx : x.dst with
  | none => rfl
  | some d =>
    cases hy : y.dst with
    | none => rfl
    | some e =>
      have hne : d ≠ e := fun he => h d hx (by rw [hy, he])
      simp only [aput]; exact List.set_comm _ _ hne

theorem set_comm {a b : Nat} (hab : a ≠ b) (h : AHeap) (x y : ABlk) : (h.set a x).set b y = (h.set b y).set a x := by
  unfold AHeap.set
  simp only [Trie.set_comm x y h.blks a b hab]

/-- may i be run ahead of x? (x stands ahead of it in the text) -/
structure May (ops : Array Oper) (x i : Nat) : Prop where
  lt : x < i
  hi : i < ops.size
  no : ordered (aheads ops) x i = false
  pair : ∀ ox oi, ops[x]? = some ox → ops[i]? = some oi → pairOk (cls ox.op) (cls oi.op) = true ∧ apartOps ops ox oi = true

theorem apart_spec {ops : Array Oper} {x y : Oper} (h : apartOps ops x y = true) : (∀ d, x.dst = some d → d ∉ readsOf ops y) ∧ (∀ d, y.dst = some d → d ∉ readsOf ops x) ∧ (∀ d, x.dst = some d → y.dst ≠ some d) := by
  unfold apartOps at h
  simp only [Bool.and_eq_true] at h
  obtain ⟨h1, h2⟩ := h
  refine ⟨fun d hd => ?_, fun d hd => ?_, fun d hd => ?_⟩
  · rw [hd] at h1; simp at h1; exact h1.1
  · rw [hd] at h2; simp at h2; exact h2
  · rw [hd] at h1; simp at h1; exact h1.2

/-- a load and a store that may be run in either order are not of one row -/
theorem looseBelow {ops : Array Oper} {n0 x i : Nat} {ox oi : Oper} (hox : ops[x]? = some ox) (hoi : ops[i]? = some oi) (hcx : cls ox.op = .load) (hci : cls oi.op = .store) (no1 : ordered (aheads ops) x i = false) (no2 : ordered (aheads ops) i x = false) (hx : x < ops.size) (hi : i < ops.size)
    {ρ : Operand → AVal} {h h2 : AHeap} {vi : AVal} {b s0 : Nat} (hl : ∃ b, loadId ρ ox.op = some b ∧ (b < n0 ∨ (b < n0 + ops.size ∧ ordered (aheads ops) (b - n0) x = true ∧ looseStore ops (aheads ops) x = false))) (hb : loadId ρ ox.op = some b)
    (hd : dop E call ops n0 i ρ h oi.op = some (vi, h2)) (hs : storeId ρ oi.op = some s0) : b < n0 ∧ n0 ≤ s0 := by
  have l1 : looseStore ops (aheads ops) x = true := by
    unfold looseStore
    rw [List.any_eq_true]
    refine ⟨i, List.mem_range.2 hi, ?_⟩
    rw [hoi]; simp [hci, no1, no2]
  have l2 : looseCall ops (aheads ops) i = true := by
    unfold looseCall
    rw [List.any_eq_true]
    refine ⟨x, List.mem_range.2 hx, ?_⟩
    rw [hox]; simp [hcx, no1, no2]
  refine ⟨?_, ?_⟩
  · obtain ⟨b', hb', hc⟩ := hl
    rw [hb] at hb'; simp only [Option.some.injEq] at hb'; subst hb'
    rcases hc with hc | ⟨_, _, hc⟩
    · exact hc
    · rw [l1] at hc; cases hc
  · unfold dop at hd
    rw [hci] at hd
    simp only [hs] at hd
    split at hd
    · cases hd
    · rename_i hc
      rcases Nat.lt_or_ge s0 n0 with hlt | hge
      · exact absurd ⟨l2, hlt⟩ hc
      · exact hge

/-- the heart: the two operations on one memory -/
theorem swap_val {ops : Array Oper} (hl : Lower ops) {n0 x i : Nat} (m : May ops x i) {ox oi : Oper} (hox : ops[x]? = some ox) (hoi : ops[i]? = some oi) {σ : List AVal} {h hx h2 : AHeap} {vx vi : AVal}
    (h1 : dval E call ops n0 x ox σ h = some (vx, hx)) (hi : dval E call ops n0 i oi σ hx = some (vi, h2)) :
    ∃ h1', dval E call ops n0 i oi σ h = some (vi, h1') ∧ dval E call ops n0 x ox σ h1' = some (vx, h2) := by
  obtain ⟨hpair, hap⟩ := m.pair ox oi hox hoi
  have hnoi : ordered (aheads ops) i x = false := by
    cases hb : ordered (aheads ops) i x with
    | false => rfl
    | true => have := ordered_lt hl x hb; have := m.lt; omega
  unfold dval at h1 hi ⊢
  cases hwx : awanted ops σ ox with
  | none => rw [hwx] at h1; cases h1
  | some bx =>
    cases hwi : awanted ops σ oi with
    | none => rw [hwi] at hi; cases hi
    | some bi =>
      rw [hwx] at h1; rw [hwi] at hi
      cases bx with
      | false =>
        simp only [Option.some.injEq, Prod.mk.injEq] at h1
        obtain ⟨rfl, rfl⟩ := h1
        exact ⟨h2, hi, rfl⟩
      | true =>
        cases bi with
        | false =>
          simp only [Option.some.injEq, Prod.mk.injEq] at hi
          obtain ⟨rfl, rfl⟩ := hi
          exact ⟨h, rfl, h1⟩
        | true =>
          simp only at h1 hi ⊢
          have ax := dop_aop h1
          have ai := dop_aop hi
          -- the loads' checks
          have loadx : cls ox.op = .load → ∃ b, loadId (agetOp σ) ox.op = some b ∧ (b < n0 ∨ (b < n0 + ops.size ∧ ordered (aheads ops) (b - n0) x = true ∧ looseStore ops (aheads ops) x = false)) := by
            intro hc
            unfold dop at h1; rw [hc] at h1; simp only at h1
            split at h1
            · rename_i b hb
              split at h1
              · rename_i hcc; exact ⟨b, hb, hcc⟩
              · cases h1
            · cases h1
          have loadi : cls oi.op = .load → ∃ b, loadId (agetOp σ) oi.op = some b ∧ (b < n0 ∨ (b < n0 + ops.size ∧ ordered (aheads ops) (b - n0) i = true ∧ looseStore ops (aheads ops) i = false)) := by
            intro hc
            unfold dop at hi; rw [hc] at hi; simp only at hi
            split at hi
            · rename_i b hb
              split at hi
              · rename_i hcc; exact ⟨b, hb, hcc⟩
              · cases hi
            · cases hi
          have dload : ∀ {j : Nat} {o : Oper} {h h' : AHeap} {v : AVal}, cls o.op = .load → (∃ b, loadId (agetOp σ) o.op = some b ∧ (b < n0 ∨ (b < n0 + ops.size ∧ ordered (aheads ops) (b - n0) j = true ∧ looseStore ops (aheads ops) j = false))) →
              aop E call (n0 + j) (agetOp σ) h o.op = some (v, h') → dop E call ops n0 j (agetOp σ) h o.op = some (v, h') := by
            intro j o h h' v hc ⟨b, hb, hcc⟩ ha
            unfold dop; rw [hc]; simp only [hb]; rw [if_pos hcc]; exact ha
          have dalloc : ∀ {j : Nat} {o : Oper} {h : AHeap}, cls o.op = .alloc → dop E call ops n0 j (agetOp σ) h o.op = aop E call (n0 + j) (agetOp σ) h o.op := by
            intro j o h hc; unfold dop; rw [hc]
          have dpure : ∀ {j : Nat} {o : Oper} {h : AHeap}, cls o.op = .pure → dop E call ops n0 j (agetOp σ) h o.op = aop E call (n0 + j) (agetOp σ) h o.op := by
            intro j o h hc; unfold dop; rw [hc]
          cases hcx : cls ox.op with
          | pure =>
            obtain ⟨rfl, hp⟩ := pure_spec hcx ax
            exact ⟨h2, hi, by rw [dpure hcx]; exact hp _ _⟩
          | load =>
            obtain ⟨rfl, b, hb, hp⟩ := load_spec hcx ax
            cases hci : cls oi.op with
            | pure =>
              obtain ⟨rfl, hq⟩ := pure_spec hci ai
              exact ⟨_, hi, h1⟩
            | load =>
              obtain ⟨rfl, b', hb', hq⟩ := load_spec hci ai
              exact ⟨_, hi, h1⟩
            | alloc =>
              obtain ⟨blk, rfl, hq⟩ := alloc_spec hci ai
              refine ⟨_, hi, dload hcx (loadx hcx) (hp _ _ ?_)⟩
              refine AHeap.get_set_ne _ _ ?_
              rintro rfl
              obtain ⟨b'', hb'', hcc⟩ := loadx hcx
              rw [hb] at hb''; simp at hb''; subst hb''
              rcases hcc with hcc | ⟨_, hcc, _⟩
              · omega
              · rw [show n0 + i - n0 = i by omega, hnoi] at hcc; cases hcc
            | call =>
              refine ⟨_, hi, dload hcx (loadx hcx) (hp _ _ ?_)⟩
              unfold dop at hi; rw [hci] at hi; simp only [ai] at hi
              have hloose : looseCall ops (aheads ops) i = true := by
                unfold looseCall
                rw [List.any_eq_true]
                refine ⟨x, List.mem_range.2 (by have := m.lt; have := m.hi; omega), ?_⟩
                rw [hox]; simp [hcx, m.no, hnoi]
              rw [if_pos hloose] at hi
              split at hi
              · rename_i hs
                obtain ⟨b'', hb'', hcc⟩ := loadx hcx
                rw [hb] at hb''; simp at hb''; subst hb''
                exact sameOld_get hs (by rcases hcc with hcc | ⟨hcc, _, _⟩ <;> omega)
              · cases hi
            | store =>
              obtain ⟨s0, blk, hs0, rfl, hq⟩ := store_spec hci ai
              refine ⟨_, hi, dload hcx (loadx hcx) (hp _ _ ?_)⟩
              refine AHeap.get_set_ne _ _ ?_
              rintro rfl
              have hlb := looseBelow hox hoi hcx hci m.no hnoi (by have := m.lt; have := m.hi; omega) m.hi (loadx hcx) hb hi hs0
              omega
            | other => rw [hcx, hci] at hpair; cases hpair
          | store =>
            obtain ⟨s0, blk, hs0, rfl, hq⟩ := store_spec hcx ax
            cases hci : cls oi.op with
            | pure =>
              obtain ⟨rfl, hq⟩ := pure_spec hci ai
              exact ⟨h, by rw [dpure hci]; exact hq _ _, h1⟩
            | load =>
              obtain ⟨rfl, b', hb', hq⟩ := load_spec hci ai
              refine ⟨h, dload hci (loadi hci) (hq _ _ ?_), h1⟩
              refine (AHeap.get_set_ne _ _ ?_).symm
              rintro rfl
              have hlb := looseBelow hoi hox hci hcx hnoi m.no m.hi (by have := m.lt; have := m.hi; omega) (loadi hci) hb' h1 hs0
              omega
            | alloc => rw [hcx, hci] at hpair; cases hpair
            | store => rw [hcx, hci] at hpair; cases hpair
            | call => rw [hcx, hci] at hpair; cases hpair
            | other => rw [hcx, hci] at hpair; cases hpair
          | alloc =>
            obtain ⟨blk, rfl, hp⟩ := alloc_spec hcx ax
            cases hci : cls oi.op with
            | pure =>
              obtain ⟨rfl, hq⟩ := pure_spec hci ai
              exact ⟨h, by rw [dpure hci]; exact hq _ _, h1⟩
            | load =>
              obtain ⟨rfl, b', hb', hq⟩ := load_spec hci ai
              refine ⟨h, dload hci (loadi hci) (hq _ _ ?_), h1⟩
              refine (AHeap.get_set_ne _ _ ?_).symm
              rintro rfl
              obtain ⟨b'', hb'', hcc⟩ := loadi hci
              rw [hb'] at hb''; simp at hb''; subst hb''
              rcases hcc with hcc | ⟨_, hcc, _⟩
              · omega
              · rw [show n0 + x - n0 = x by omega, m.no] at hcc; cases hcc
            | alloc =>
              obtain ⟨blk', rfl, hq⟩ := alloc_spec hci ai
              refine ⟨h.set (n0 + i) blk', by rw [dalloc hci]; exact hq _, ?_⟩
              rw [dalloc hcx, hp, set_comm (by have := m.lt; omega)]
            | store => rw [hcx, hci] at hpair; cases hpair
            | call => rw [hcx, hci] at hpair; cases hpair
            | other => rw [hcx, hci] at hpair; cases hpair
          | call =>
            cases hci : cls oi.op with
            | pure =>
              obtain ⟨rfl, hq⟩ := pure_spec hci ai
              exact ⟨h, by rw [dpure hci]; exact hq _ _, h1⟩
            | load =>
              obtain ⟨rfl, b', hb', hq⟩ := load_spec hci ai
              refine ⟨h, dload hci (loadi hci) (hq _ _ ?_), h1⟩
              unfold dop at h1; rw [hcx] at h1; simp only [ax] at h1
              have hloose : looseCall ops (aheads ops) x = true := by
                unfold looseCall
                rw [List.any_eq_true]
                refine ⟨i, List.mem_range.2 m.hi, ?_⟩
                rw [hoi]; simp [hci, m.no, hnoi]
              rw [if_pos hloose] at h1
              split at h1
              · rename_i hs
                obtain ⟨b'', hb'', hcc⟩ := loadi hci
                rw [hb'] at hb''; simp at hb''; subst hb''
                exact (sameOld_get hs (by rcases hcc with hcc | ⟨hcc, _, _⟩ <;> omega)).symm
              · cases h1
            | alloc => rw [hcx, hci] at hpair; cases hpair
            | store => rw [hcx, hci] at hpair; cases hpair
            | call => rw [hcx, hci] at hpair; cases hpair
            | other => rw [hcx, hci] at hpair; cases hpair
          | other =>
            cases hci : cls oi.op with
            | pure =>
              obtain ⟨rfl, hq⟩ := pure_spec hci ai
              exact ⟨h, by rw [dpure hci]; exact hq _ _, h1⟩
            | load => rw [hcx, hci] at hpair; cases hpair
            | alloc => rw [hcx, hci] at hpair; cases hpair
            | store => rw [hcx, hci] at hpair; cases hpair
            | call => rw [hcx, hci] at hpair; cases hpair
            | other => rw [hcx, hci] at hpair; cases hpair

theorem swap_step {ops : Array Oper} (hl : Lower ops) {n0 x i : Nat} (m : May ops x i) {s s1 s2 : ASt} (h1 : dstep E call ops n0 x s = some s1) (h2 : dstep E call ops n0 i s1 = some s2) :
    ∃ t, dstep E call ops n0 i s = some t ∧ dstep E call ops n0 x t = some s2 := by
  have hxl : x < ops.size := by have := m.lt; have := m.hi; omega
  have hox : ops[x]? = some ops[x] := Array.getElem?_eq_getElem hxl
  have hoi : ops[i]? = some (ops[i]'m.hi) := Array.getElem?_eq_getElem m.hi
  obtain ⟨hpair, hap⟩ := m.pair _ _ hox hoi
  obtain ⟨a1, a2, a3⟩ := apart_spec hap
  rw [dstep_eq hox, Option.map_eq_some_iff] at h1
  obtain ⟨⟨vx, hx⟩, k1, rfl⟩ := h1
  rw [dstep_eq hoi, Option.map_eq_some_iff] at h2
  obtain ⟨⟨vi, hh2⟩, k2, rfl⟩ := h2
  simp only at k2
  rw [aput_congr a1] at k2
  obtain ⟨h1', g1, g2⟩ := swap_val hl m hox hoi k1 k2
  refine ⟨⟨aput s.slots (ops[i]'m.hi).dst vi, h1'⟩, ?_, ?_⟩
  · rw [dstep_eq hoi, g1]; rfl
  · rw [dstep_eq hox]
    simp only
    rw [aput_congr a2, g2]
    simp only [Option.map_some]
    rw [aput_comm a3]

theorem front {ops : Array Oper} (hl : Lower ops) {n0 i : Nat} {q : List Nat} : ∀ {p : List Nat} {s s' : ASt}, (∀ x ∈ p, May ops x i) → drun E call ops n0 (p ++ i :: q) s = some s' →
    ∃ t, dstep E call ops n0 i s = some t ∧ drun E call ops n0 (p ++ q) t = some s'
  | [], s, s', _, h => by
    simp only [List.nil_append, drun] at h ⊢
    split at h
    · rename_i t ht; exact ⟨t, ht, h⟩
    · cases h
  | x :: p, s, s', hm, h => by
    simp only [List.cons_append, drun] at h
    split at h
    · rename_i s1 hs1
      obtain ⟨t, h1, h2⟩ := front hl (fun y hy => hm y (by simp [hy])) h
      obtain ⟨u, g1, g2⟩ := swap_step hl (hm x (by simp)) hs1 h1
      refine ⟨u, g1, ?_⟩
      simp only [List.cons_append, drun, g2]; exact h2
    · cases h

theorem dstep_astep {ops : Array Oper} {n0 j : Nat} {s s' : ASt} (h : dstep E call ops n0 j s = some s') : astep E call ops n0 j s = some s' := by
  unfold dstep at h
  unfold astep
  split at h
  · rename_i e; simp [e]; simpa using h
  · rename_i o e
    split at h
    · rename_i hw
      split at h
      · rename_i v hp hd
        rw [dop_aop hd]; exact h
      · cases h
    · exact h
    · cases h
end

section
variable {P : Program} {φ : Map} {E : AEnv}

theorem drawOk_spec {ops : Array Oper} (h : drawOk ops = true) : Lower ops ∧ ∀ x i, x < i → i < ops.size → ordered (aheads ops) x i = false → May ops x i := by
  unfold drawOk at h
  simp only [List.all_eq_true, List.mem_range] at h
  have hlow : Lower ops := by
    intro j o ho e he hb
    have hj : j < ops.size := by
      rcases Nat.lt_or_ge j ops.size with h' | h'
      · exact h'
      · rw [Array.getElem?_eq_none h'] at ho; cases ho
    have := h j hj
    rw [ho] at this
    simp only [Bool.and_eq_true, List.all_eq_true] at this
    have := this.1 e he
    simpa [hb] using this
  refine ⟨hlow, fun x i hxi hi hno => ⟨hxi, hi, hno, fun ox oi hox hoi => ?_⟩⟩
  have := h i hi
  rw [hoi] at this
  simp only [Bool.and_eq_true, List.all_eq_true, List.mem_range] at this
  have := this.2 x hxi
  rw [hno, hox] at this
  simpa using this

/-- what is not listed yet, in the order of the text -/
def unlisted (ops : Array Oper) (listed : Array Bool) : List Nat := (List.range ops.size).filter fun i => !listed.getD i true

theorem ready_mem {ops : Array Oper} {listed : Array Bool} {i : Nat} (h : i ∈ Region.ready .any ops listed) :
    i < ops.size ∧ listed.getD i true = false ∧ ∃ o, ops[i]? = some o ∧ ∀ e ∈ o.after.toList, binding e = true → listed.getD e.on false = true := by
  unfold Region.ready at h
  simp only [List.mem_filter, List.mem_range, Bool.and_eq_true, Bool.not_eq_true'] at h
  obtain ⟨h1, h2, h3⟩ := h
  refine ⟨h1, h2, ops[i], Array.getElem?_eq_getElem h1, fun e he hb => ?_⟩
  rw [Array.getElem?_eq_getElem h1] at h3
  simp only [Option.map_some, Option.getD_some, Array.all_eq_true_iff_forall_mem] at h3
  have := h3 e (by simpa using he)
  unfold binding at hb
  simpa [hb] using this

theorem ready_first {ops : Array Oper} (hl : Lower ops) {listed : Array Bool} (hsz : listed.size = ops.size) {i : Nat} {r : List Nat} (h : unlisted ops listed = i :: r) : i ∈ Region.ready .any ops listed := by
  have hi : i ∈ unlisted ops listed := by rw [h]; simp
  have hi' := hi
  unfold unlisted at hi
  simp only [List.mem_filter, List.mem_range, Bool.not_eq_true'] at hi
  unfold Region.ready
  simp only [List.mem_filter, List.mem_range, Bool.and_eq_true, Bool.not_eq_true']
  refine ⟨hi.1, hi.2, ?_⟩
  rw [Array.getElem?_eq_getElem hi.1]
  simp only [Option.map_some, Option.getD_some, Array.all_eq_true_iff_forall_mem]
  intro e he
  cases hb : Region.binds .any e with
  | false => rfl
  | true =>
    simp only [Bool.not_true, Bool.false_or]
    have hlt := hl i _ (Array.getElem?_eq_getElem hi.1) e (by simpa using he) hb
    -- were it not listed, it would stand ahead of the first
    cases hle : listed.getD e.on false with
    | true => rfl
    | false =>
      exfalso
      have hin : e.on ∈ unlisted ops listed := by
        unfold unlisted
        simp only [List.mem_filter, List.mem_range, Bool.not_eq_true']
        refine ⟨by omega, ?_⟩
        have hlt' : e.on < listed.size := by omega
        rw [Array.getD_eq_getD_getElem?, Array.getElem?_eq_getElem hlt'] at hle ⊢
        simpa using hle
      have hsorted : (unlisted ops listed).Pairwise (· < ·) := List.Pairwise.filter _ List.pairwise_lt_range
      rw [h] at hsorted hin
      rcases List.mem_cons.1 hin with he' | he'
      · omega
      · have := (List.pairwise_cons.1 hsorted).1 _ he'; omega

theorem unlisted_set {ops : Array Oper} {listed : Array Bool} (hsz : listed.size = ops.size) {i : Nat} {p q : List Nat} (h : unlisted ops listed = p ++ i :: q) : unlisted ops (listed.setIfInBounds i true) = p ++ q := by
  have hnd : (unlisted ops listed).Nodup := List.Pairwise.filter _ List.nodup_range
  have hi : i ∈ unlisted ops listed := by rw [h]; simp
  have hil : i < ops.size := by unfold unlisted at hi; simp only [List.mem_filter, List.mem_range] at hi; exact hi.1
  have e1 : unlisted ops (listed.setIfInBounds i true) = (unlisted ops listed).filter fun j => decide (j ≠ i) := by
    unfold unlisted
    rw [List.filter_filter]
    refine List.filter_congr fun j hj => ?_
    have hjl := List.mem_range.1 hj
    by_cases hji : j = i
    · subst hji
      simp [Array.getD_eq_getD_getElem?, hsz, hil]
    · have hij : ¬ i = j := fun e => hji e.symm
      simp [Array.getD_eq_getD_getElem?, Array.getElem?_setIfInBounds, hji, hij]
  rw [e1, h]
  rw [h] at hnd
  have hp : ∀ j ∈ p, j ≠ i := fun j hj e => by
    subst e
    exact (List.nodup_append.1 hnd).2.2 j hj j (by simp) rfl
  have hq : ∀ j ∈ q, j ≠ i := fun j hj e => by
    subst e
    have := (List.nodup_append.1 hnd).2.1
    exact (List.nodup_cons.1 this).1 hj
  rw [List.filter_append, List.filter_cons]
  simp only [ne_eq, not_true_eq_false, decide_false, Bool.false_eq_true, if_false]
  rw [List.filter_eq_self.2 (fun j hj => by simpa using hp j hj), List.filter_eq_self.2 (fun j hj => by simpa using hq j hj)]

theorem drun_any (hE : EnvOk P E) {N0 : Nat → Prop} {w0 : World} (hN : Low N0 w0.heap.size) {call : ACall} (hcall : CallOk P N0 w0 call) {ops : Array Oper} (hok : drawOk ops = true) {n0 : Nat} {Q : Exit → Act → World → Prop} :
    ∀ {fuel : Nat} {listed : Array Bool} {s s' : ASt} {a : Act} {w : World} {φ : Map}, listed.size = ops.size → Closed ops listed → (unlisted ops listed).length ≤ fuel → drun E call ops n0 (unlisted ops listed) s = some s' →
      SRel φ N0 w0 s a w → (∀ j ∈ unlisted ops listed, n0 + j < s.heap.next ∧ ∀ v, φ (n0 + j) v = none) →
      (∀ a' w' φ', Keep φ φ' n0 → SRel φ' N0 w0 s' a' w' → s.heap.next ≤ s'.heap.next → Q .normal a' w') → wpAny P .any ops Q fuel listed a w := by
  intro fuel
  obtain ⟨hlow, hmay⟩ := drawOk_spec hok
  have hempty : ∀ {listed : Array Bool} {s s' : ASt} {a : Act} {w : World} {φ : Map}, listed.size = ops.size → drun E call ops n0 (unlisted ops listed) s = some s' → SRel φ N0 w0 s a w →
      (∀ a' w' φ', Keep φ φ' n0 → SRel φ' N0 w0 s' a' w' → s.heap.next ≤ s'.heap.next → Q .normal a' w') → Region.ready .any ops listed = [] → Q .normal a w := by
    intro listed s s' a w φ hsz h r hk hr
    cases hu : unlisted ops listed with
    | nil =>
      rw [hu] at h; simp [drun] at h; subst h
      exact hk a w φ (Keep.refl _ _) r (Nat.le_refl _)
    | cons i q =>
      exfalso
      have := ready_first hlow hsz hu
      rw [hr] at this; cases this
  induction fuel with
  | zero =>
    intro listed s s' a w φ hsz hcl hlen h r hid hk
    have hu : unlisted ops listed = [] := List.length_eq_zero_iff.1 (by omega)
    simp only [wpAny]
    have hre : Region.ready .any ops listed = [] := by
      cases hr : Region.ready .any ops listed with
      | nil => rfl
      | cons i q =>
        exfalso
        obtain ⟨h1, h2, _⟩ := ready_mem (by rw [hr]; exact List.mem_cons_self)
        have : i ∈ unlisted ops listed := by unfold unlisted; simp only [List.mem_filter, List.mem_range, Bool.not_eq_true']; exact ⟨h1, h2⟩
        rw [hu] at this; cases this
    exact ⟨hre, hempty hsz h r hk hre⟩
  | succ fuel ih =>
    intro listed s s' a w φ hsz hcl hlen h r hid hk
    simp only [wpAny]
    refine ⟨hempty hsz h r hk, fun i hi => ?_⟩
    obtain ⟨h1, h2, o, ho, hpre⟩ := ready_mem hi
    have hmem : i ∈ unlisted ops listed := by unfold unlisted; simp only [List.mem_filter, List.mem_range, Bool.not_eq_true']; exact ⟨h1, h2⟩
    obtain ⟨p, q, hpq⟩ := List.append_of_mem hmem
    have hsorted : (unlisted ops listed).Pairwise (· < ·) := List.Pairwise.filter _ List.pairwise_lt_range
    have hm : ∀ x ∈ p, May ops x i := by
      intro x hx
      rw [hpq] at hsorted
      have hlt : x < i := (List.pairwise_append.1 hsorted).2.2 x hx i (by simp)
      refine hmay x i hlt h1 ?_
      cases hb : ordered (aheads ops) x i with
      | false => rfl
      | true =>
        exfalso
        have hxl := ordered_listed hlow hcl i o ho hpre hb
        have hxm : x ∈ unlisted ops listed := by rw [hpq]; simp [hx]
        unfold unlisted at hxm
        simp only [List.mem_filter, List.mem_range, Bool.not_eq_true'] at hxm
        have hlt' : x < listed.size := by omega
        rw [Array.getD_eq_getD_getElem?, Array.getElem?_eq_getElem hlt'] at hxl
        have h3 := hxm.2
        rw [Array.getD_eq_getD_getElem?, Array.getElem?_eq_getElem hlt'] at h3
        simp at hxl h3
        rw [hxl] at h3; cases h3
    rw [hpq] at h
    obtain ⟨t, g1, g2⟩ := front hlow hm h
    refine astep_sound hE hN hcall r (hid i hmem) (dstep_astep g1) fun a' w' φ' hx r' hle => ?_
    have hun := unlisted_set hsz hpq
    refine ih (listed := listed.setIfInBounds i true) (by simpa using hsz) ?_ ?_ (by rw [hun]; exact g2) r' (fun j hj => ?_) fun a'' w'' φ'' hkp r'' hle' => ?_
    · intro j oj hj hoj e he hb
      by_cases hei : e.on = i
      · rw [hei]; simp [Array.getD_eq_getD_getElem?, hsz, h1]
      · have hold : listed.getD e.on false = true := by
          by_cases hji : j = i
          · subst hji
            rw [ho] at hoj; simp at hoj; subst hoj
            exact hpre e he hb
          · refine hcl j oj ?_ hoj e he hb
            have hij : ¬ i = j := fun e => hji e.symm
            simpa [Array.getD_eq_getD_getElem?, Array.getElem?_setIfInBounds, hij] using hj
        have hie : ¬ i = e.on := fun e' => hei e'.symm
        simpa [Array.getD_eq_getD_getElem?, Array.getElem?_setIfInBounds, hie] using hold
    · rw [hun]; rw [hpq] at hlen; simp at hlen ⊢; omega
    · rw [hun] at hj
      have hjm : j ∈ unlisted ops listed := by rw [hpq]; rcases List.mem_append.1 hj with hj | hj <;> simp [hj]
      have hnd : (unlisted ops listed).Nodup := List.Pairwise.filter _ List.nodup_range
      have hji : j ≠ i := by
        rintro rfl
        rw [hpq] at hnd
        rcases List.mem_append.1 hj with hj | hj
        · exact (List.nodup_append.1 hnd).2.2 j hj j (by simp) rfl
        · exact (List.nodup_cons.1 (List.nodup_append.1 hnd).2.1).1 hj
      obtain ⟨k1, k2⟩ := hid j hjm
      exact ⟨by omega, hx.new _ k1 (by omega) k2⟩
    · refine hk _ _ _ (Keep.trans ⟨hx.le, fun k hkn hnn => hx.new k ?_ (by omega) hnn, hx.ro⟩ hkp) r'' (by omega)
      have := (hid i hmem).1; omega

theorem drun_sound (hE : EnvOk P E) {N0 : Nat → Prop} {w0 : World} (hN : Low N0 w0.heap.size) {call : ACall} (hcall : CallOk P N0 w0 call) {ops : Array Oper} (hok : drawOk ops = true) {n0 : Nat} {s s' : ASt} {a : Act} {w : World} {φ : Map}
    {Q : Exit → Act → World → Prop} (h : drun E call ops n0 (List.range ops.size) s = some s') (r : SRel φ N0 w0 s a w) (hid : ∀ j, j < ops.size → n0 + j < s.heap.next ∧ ∀ v, φ (n0 + j) v = none)
    (hk : ∀ a' w' φ', Keep φ φ' n0 → SRel φ' N0 w0 s' a' w' → s.heap.next ≤ s'.heap.next → Q .normal a' w') : wpAny P .any ops Q ops.size (Array.replicate ops.size false) a w := by
  have hu : unlisted ops (Array.replicate ops.size false) = List.range ops.size := by
    unfold unlisted
    refine List.filter_eq_self.2 fun i hi => ?_
    have := List.mem_range.1 hi
    simp [Array.getD_eq_getD_getElem?, Array.getElem?_replicate, this]
  refine drun_any hE hN hcall hok (by simp) ?_ (by rw [hu]; simp) (by rw [hu]; exact h) r (fun j hj => by rw [hu] at hj; exact hid j (List.mem_range.1 hj)) hk
  intro j o hj
  simp [Array.getD_eq_getD_getElem?, Array.getElem?_replicate] at hj
  split at hj <;> simp at hj

end
end
end Go.Lift

namespace Go.Lift
noncomputable section
open Go.RowKit
set_option linter.unusedVariables false
set_option linter.unusedSimpArgs false
section
variable {P : Program} {φ : Map} {E : AEnv}

def toExit : AExit → Exit
  | .normal => .normal
  | .exit id => .exit id
  | .goto l => .goto l
  | .ret => .ret

theorem SRel.bump {N0 : Nat → Prop} {w0 w : World} {s : ASt} {a : Act} (r : SRel φ N0 w0 s a w) (n : Nat) : SRel φ N0 w0 ⟨s.slots, { s.heap with next := s.heap.next + n }⟩ a w :=
  ⟨r.slots, r.heap.next (by omega), r.below, r.defers⟩

theorem SRel.drew {N0 : Nat → Prop} {w0 w : World} {s : ASt} {a : Act} (r : SRel φ N0 w0 s a w) : SRel φ N0 w0 s a w.drew :=
  ⟨r.slots, r.heap.alike (Alike.drew' w), r.below.drew, r.defers⟩

theorem fresh_ids {N0 : Nat → Prop} {w : World} {h : AHeap} (r : HRel φ N0 h w) {i : Nat} (hi : h.next ≤ i) : ∀ v, φ i v = none := by
  intro v
  cases hq : φ i v with
  | none => rfl
  | some p => have := (r.dom i v p hq).1; omega

theorem aregion_sound (hE : EnvOk P E) {N0 : Nat → Prop} {w0 w : World} (hN : Low N0 w0.heap.size) {call : ACall} (hcall : CallOk P N0 w0 call) (hmix : P.follows .mixedOrders = true) {id : Nat} {ops : Array Oper} {draw : Bool} {s s' : ASt} {a : Act} (r : SRel φ N0 w0 s a w) (h : aregion E call ops draw s = some s')
    {Q : Exit → Act → World → Prop} (hk : ∀ a' w' φ', Keep φ φ' s.heap.next → SRel φ' N0 w0 s' a' w' → s.heap.next ≤ s'.heap.next → Q .normal a' w') : (Code.region id ops draw).wp P Q a w := by
  have hids : ∀ j, j < ops.size → s.heap.next + j < s.heap.next + ops.size ∧ ∀ v, φ (s.heap.next + j) v = none := fun j hj => ⟨by omega, fresh_ids r.heap (by omega)⟩
  unfold aregion at h
  cases draw with
  | false =>
    simp only [Bool.false_eq_true, if_false] at h
    refine wp_region ?_
    refine arun_sound hE hN hcall h (r.bump _) List.nodup_range (fun j hj => hids j (List.mem_range.1 hj)) fun a' w' φ' h1 h2 h3 => hk a' w' φ' h1 h2 ?_
    simp only at h3; omega
  | true =>
    simp only [if_true] at h
    split at h
    · rename_i hok
      refine wp_region_any hmix ?_
      refine drun_sound hE hN hcall hok h (r.bump _).drew hids fun a' w' φ' h1 h2 h3 => hk a' w' φ' h1 h2 ?_
      simp only at h3; omega
    · cases h

/-- a loop's rounds -/
def LoopW (P : Program) (c : Code) (Q : Exit → Act → World → Prop) (a : Act) (w : World) : Prop :=
  ∀ (b : Frame) (k : List Item) (cs : List Frame), ∃ e a' w', Q e a' w' ∧ Arrives P (lone (b.at a (.code c :: .inLoop c :: k)) cs w) b k cs e a' w'

theorem wp_of_loopW {c : Code} {Q : Exit → Act → World → Prop} {a : Act} {w : World} (h : LoopW P c Q a w) : (Code.loop c).wp P Q a w := fun b k cs =>
  let ⟨e, a', w', q, r⟩ := h b k cs; ⟨e, a', w', q, .of_steps (.one step_loop) r⟩

theorem loopW_round {c : Code} {Q : Exit → Act → World → Prop} {a : Act} {w : World} (h : c.wp P (Exit.then (LoopW P c Q) Q) a w) : LoopW P c Q a w := by
  intro b k cs
  obtain ⟨e, a₁, w₁, hq, harr⟩ := h b (.inLoop c :: k) cs
  cases e with
  | normal =>
    obtain ⟨e₂, a₂, w₂, hq₂, harr₂⟩ := hq b k cs
    exact ⟨e₂, a₂, w₂, hq₂, .of_steps (Steps.trans harr (.one step_inLoop)) harr₂⟩
  | exit id => exact ⟨_, a₁, w₁, hq, .pass (x := .inLoop c) rfl (fun _ _ => .inl (by simp)) harr⟩
  | goto l => exact ⟨_, a₁, w₁, hq, .pass (x := .inLoop c) rfl (fun _ _ => .inl (by simp)) harr⟩
  | ret => exact ⟨_, a₁, w₁, hq, .pass (x := .inLoop c) rfl (fun _ _ => .inl (by simp)) harr⟩
  | panic ch => exact ⟨_, a₁, w₁, hq, .pass (x := .inLoop c) rfl (fun _ _ => .inl (by simp)) harr⟩
  | outgrown => exact ⟨_, a₁, w₁, hq, .pass (x := .inLoop c) rfl (fun _ _ => .inl (by simp)) harr⟩

/-- the code c within the scope of 'body' -/
def ScopeW (P : Program) (body c : Code) (Q : Exit → Act → World → Prop) (a : Act) (w : World) : Prop :=
  ∀ (b : Frame) (k : List Item) (cs : List Frame), ∃ e a' w', Q e a' w' ∧ Arrives P (lone (b.at a (.code c :: .inScope body :: k)) cs w) b k cs e a' w'

theorem wp_of_scopeW {c : Code} {Q : Exit → Act → World → Prop} {a : Act} {w : World} (h : ScopeW P c c Q a w) : (Code.scope c).wp P Q a w := fun b k cs =>
  let ⟨e, a', w', q, r⟩ := h b k cs; ⟨e, a', w', q, .of_steps (.one step_scope) r⟩

/-- what stands behind the code of a scope -/
def scopePost (P : Program) (body : Code) (Q : Exit → Act → World → Prop) : Exit → Act → World → Prop
  | .goto l, a, w =>
    match findLabel body l with
    | some rest => ScopeW P body rest Q a w
    | none => Q (.goto l) a w
  | e, a, w => Q e a w

theorem scopeW_of_wp {body c : Code} {Q : Exit → Act → World → Prop} {a : Act} {w : World} (h : c.wp P (scopePost P body Q) a w) : ScopeW P body c Q a w := by
  intro b k cs
  obtain ⟨e, a₁, w₁, hq, harr⟩ := h b (.inScope body :: k) cs
  cases e with
  | normal => exact ⟨.normal, a₁, w₁, hq, Steps.trans harr (.one step_inScope)⟩
  | exit id => exact ⟨.exit id, a₁, w₁, hq, fun k' hk => harr k' (by simp [exitTo, hk])⟩
  | goto l =>
    simp only [scopePost] at hq
    cases hf : findLabel body l with
    | some rest =>
      rw [hf] at hq
      obtain ⟨e₂, a₂, w₂, hq₂, harr₂⟩ := hq b k cs
      exact ⟨e₂, a₂, w₂, hq₂, .of_steps (harr _ (by simp [gotoIn, hf])) harr₂⟩
    | none =>
      rw [hf] at hq
      exact ⟨.goto l, a₁, w₁, hq, fun k' hk => harr k' (by simp [gotoIn, hf, hk])⟩
  | ret => exact ⟨.ret, a₁, w₁, hq, harr⟩
  | panic ch => exact ⟨.panic ch, a₁, w₁, hq, harr⟩
  | outgrown => exact ⟨.outgrown, a₁, w₁, hq, harr⟩

/-- what is claimed of one run -/
def Sound (P : Program) (E : AEnv) (N0 : Nat → Prop) (w0 : World) (s s' : ASt) (e : AExit) (a : Act) (w : World) (goal : (Exit → Act → World → Prop) → Prop) : Prop :=
  ∀ {φ : Map} {Q : Exit → Act → World → Prop}, SRel φ N0 w0 s a w → (∀ a' w' φ', Keep φ φ' s.heap.next → SRel φ' N0 w0 s' a' w' → s.heap.next ≤ s'.heap.next → Q (toExit e) a' w') → goal Q

theorem aexec_sound (hE : EnvOk P E) {N0 : Nat → Prop} {w0 : World} (hN : Low N0 w0.heap.size) {call : ACall} (hcall : CallOk P N0 w0 call) (hmix : P.follows .mixedOrders = true) : ∀ (n : Nat),
    (∀ {c : Code} {s s' : ASt} {e : AExit} {a : Act} {w : World}, aexec E call n none c s = some (e, s') → Sound P E N0 w0 s s' e a w fun Q => c.wp P Q a w) ∧
    (∀ {c : Code} {s s' : ASt} {e : AExit} {a : Act} {w : World}, aexec E call n none (.loop c) s = some (e, s') → Sound P E N0 w0 s s' e a w fun Q => LoopW P c Q a w) ∧
    (∀ {b c : Code} {s s' : ASt} {e : AExit} {a : Act} {w : World}, aexec E call n (some b) c s = some (e, s') → Sound P E N0 w0 s s' e a w fun Q => ScopeW P b c Q a w) := by
  intro n
  induction n with
  | zero => refine ⟨?_, ?_, ?_⟩ <;> (intros; simp_all [aexec])
  | succ n ih =>
    obtain ⟨ih1, ih2, ih3⟩ := ih
    have hloop : ∀ {c : Code} {s s' : ASt} {e : AExit} {a : Act} {w : World}, aexec E call (n + 1) none (.loop c) s = some (e, s') → Sound P E N0 w0 s s' e a w fun Q => LoopW P c Q a w := by
      intro c s s' e a w h φ Q r hk
      simp only [aexec] at h
      refine loopW_round ?_
      cases h1 : aexec E call n none c s with
      | none => simp [h1] at h
      | some p =>
        obtain ⟨e1, s1⟩ := p
        rw [h1] at h
        refine ih1 h1 r fun a' w' φ' g1 g2 g3 => ?_
        cases e1 with
        | normal =>
          simp only at h
          show LoopW P c Q a' w'
          exact ih2 h g2 fun a'' w'' φ'' k1 k2 k3 => hk a'' w'' φ'' (g1.trans (k1.mono g3)) k2 (by omega)
        | exit id => simp at h; obtain ⟨rfl, rfl⟩ := h; exact hk a' w' φ' g1 g2 g3
        | goto id => simp at h; obtain ⟨rfl, rfl⟩ := h; exact hk a' w' φ' g1 g2 g3
        | ret => simp at h; obtain ⟨rfl, rfl⟩ := h; exact hk a' w' φ' g1 g2 g3
    have hscope : ∀ {b c : Code} {s s' : ASt} {e : AExit} {a : Act} {w : World}, aexec E call (n + 1) (some b) c s = some (e, s') → Sound P E N0 w0 s s' e a w fun Q => ScopeW P b c Q a w := by
      intro b c s s' e a w h φ Q r hk
      simp only [aexec] at h
      refine scopeW_of_wp ?_
      cases h1 : aexec E call n none c s with
      | none => simp [h1] at h
      | some p =>
        obtain ⟨e1, s1⟩ := p
        rw [h1] at h
        refine ih1 h1 r fun a' w' φ' g1 g2 g3 => ?_
        cases e1 with
        | normal => simp at h; obtain ⟨rfl, rfl⟩ := h; exact hk a' w' φ' g1 g2 g3
        | exit id => simp at h; obtain ⟨rfl, rfl⟩ := h; exact hk a' w' φ' g1 g2 g3
        | goto l =>
          simp only at h
          show scopePost P b Q (.goto l) a' w'
          simp only [scopePost]
          cases hf : findLabel b l with
          | some rest =>
            rw [hf] at h
            exact ih3 h g2 fun a'' w'' φ'' k1 k2 k3 => hk a'' w'' φ'' (g1.trans (k1.mono g3)) k2 (by omega)
          | none =>
            rw [hf] at h
            simp at h; obtain ⟨rfl, rfl⟩ := h; exact hk a' w' φ' g1 g2 g3
        | ret => simp at h; obtain ⟨rfl, rfl⟩ := h; exact hk a' w' φ' g1 g2 g3
    refine ⟨?_, hloop, hscope⟩
    intro c s s' e a w h φ Q r hk
    cases c with
    | skip => simp [aexec] at h; obtain ⟨rfl, rfl⟩ := h; exact wp_skip (hk a w φ (Keep.refl _ _) r (Nat.le_refl _))
    | label l => simp [aexec] at h; obtain ⟨rfl, rfl⟩ := h; exact wp_label (hk a w φ (Keep.refl _ _) r (Nat.le_refl _))
    | region id ops draw =>
      simp only [aexec, Option.map_eq_some_iff, Prod.mk.injEq] at h
      obtain ⟨s1, h1, rfl, rfl⟩ := h
      exact aregion_sound hE hN hcall hmix r h1 hk
    | seq x y =>
      simp only [aexec] at h
      refine wp_seq ?_
      cases h1 : aexec E call n none x s with
      | none => simp [h1] at h
      | some p =>
        obtain ⟨e1, s1⟩ := p
        rw [h1] at h
        refine ih1 h1 r fun a' w' φ' g1 g2 g3 => ?_
        cases e1 with
        | normal =>
          simp only at h
          show y.wp P Q a' w'
          exact ih1 h g2 fun a'' w'' φ'' k1 k2 k3 => hk a'' w'' φ'' (g1.trans (k1.mono g3)) k2 (by omega)
        | exit id => simp at h; obtain ⟨rfl, rfl⟩ := h; exact hk a' w' φ' g1 g2 g3
        | goto id => simp at h; obtain ⟨rfl, rfl⟩ := h; exact hk a' w' φ' g1 g2 g3
        | ret => simp at h; obtain ⟨rfl, rfl⟩ := h; exact hk a' w' φ' g1 g2 g3
    | cond x y z =>
      simp only [aexec] at h
      have hx := r.eval x
      split at h
      · rename_i hb
        rw [hb] at hx; simp only [VRel] at hx
        exact wp_cond_true hx (ih1 h r hk)
      · rename_i hb
        rw [hb] at hx; simp only [VRel] at hx
        exact wp_cond_false hx (ih1 h r hk)
      · cases h
    | block id c =>
      simp only [aexec] at h
      refine wp_block ?_
      cases h1 : aexec E call n none c s with
      | none => simp [h1] at h
      | some p =>
        obtain ⟨e1, s1⟩ := p
        rw [h1] at h
        refine ih1 h1 r fun a' w' φ' g1 g2 g3 => ?_
        cases e1 with
        | normal => simp at h; obtain ⟨rfl, rfl⟩ := h; exact hk a' w' φ' g1 g2 g3
        | exit j =>
          simp at h; obtain ⟨rfl, rfl⟩ := h
          simp only [toExit, Exit.inBlock]
          by_cases hj : j = id
          · rw [if_pos hj] at hk ⊢; exact hk a' w' φ' g1 g2 g3
          · rw [if_neg hj] at hk ⊢; exact hk a' w' φ' g1 g2 g3
        | goto l => simp at h; obtain ⟨rfl, rfl⟩ := h; exact hk a' w' φ' g1 g2 g3
        | ret => simp at h; obtain ⟨rfl, rfl⟩ := h; exact hk a' w' φ' g1 g2 g3
    | loop c => exact wp_of_loopW (hloop h r hk)
    | scope c =>
      simp only [aexec] at h
      exact wp_of_scopeW (ih3 h r hk)
    | goto l => simp [aexec] at h; obtain ⟨rfl, rfl⟩ := h; exact wp_goto (hk a w φ (Keep.refl _ _) r (Nat.le_refl _))
    | exit id => simp [aexec] at h; obtain ⟨rfl, rfl⟩ := h; exact wp_exit (hk a w φ (Keep.refl _ _) r (Nat.le_refl _))
    | ret => simp [aexec] at h; obtain ⟨rfl, rfl⟩ := h; exact wp_ret (hk a w φ (Keep.refl _ _) r (Nat.le_refl _))
    | rangeFunc f ps x y => simp [aexec] at h
    | refuse w => simp [aexec] at h

/-! ## results -/

theorem aresults_sound (hD : E.D.Ok P) {N0 : Nat → Prop} {w0 w : World} {s : ASt} {a : Act} (r : SRel φ N0 w0 s a w) : ∀ {rs : List ResultVar} {l : List AVal}, aresults E.D rs s = some l →
    ∃ vs, (rs.mapM (fun (x : ResultVar) => (match x with | .tmp t => pure (a.tmps.getD t undef) | .cell b t => do loadVar t (← asAddr (a.tmps.getD b undef)) : Sem Value))).run P w = .ok vs w ∧ VRels φ l vs
  | [], l, h => by simp [aresults] at h; subst h; exact ⟨[], rfl, by simp [VRels]⟩
  | .tmp t :: rs, l, h => by
    simp only [aresults, Option.map_eq_some_iff] at h
    obtain ⟨m, h1, rfl⟩ := h
    obtain ⟨vs, k1, k2⟩ := aresults_sound hD r h1
    refine ⟨a.tmps.getD t undef :: vs, ?_, ?_⟩
    · simp only [List.mapM_cons, Sem.run_bind, Sem.run_pure, Result.andThen_ok, k1]
    · simp only [VRels]; exact ⟨_, _, rfl, r.slots.getD_arr t, k2⟩
  | .cell b t :: rs, l, h => by
    simp only [aresults] at h
    split at h
    · rename_i p hp
      split at h
      · rename_i v m h1 h2
        simp at h; subst h
        obtain ⟨vs, k1, k2⟩ := aresults_sound hD r h2
        have hb := r.slots.getD_arr b
        rw [hp] at hb
        obtain ⟨v', g1, g2⟩ := sim_load hD r.heap hb h1
        simp only [VRel] at hb
        obtain ⟨xa, hxa, hat⟩ := hb
        rw [hxa] at g1
        simp only [Instr.loadAt, Instr.sureAddr, Sem.run_bind, Sem.run_pure, Result.andThen_ok] at g1
        refine ⟨v' :: vs, ?_, ?_⟩
        · have hA : (asAddr (a.tmps.getD b undef)).run P w = .ok xa w := by rw [hxa]; rfl
          simp only [List.mapM_cons, Sem.run_bind, hA, Sem.run_pure, Result.andThen_ok, g1, k1]
        · simp only [VRels]; exact ⟨_, _, rfl, g2, k2⟩
      · cases h
    · cases h

theorem results_sound (hD : E.D.Ok P) {N0 : Nat → Prop} {w0 w : World} {s : ASt} {a : Act} (r : SRel φ N0 w0 s a w) {fn : Func} {l : List AVal} (h : aresults E.D fn.results.toList s = some l) :
    ∃ v', (results fn a.tmps).run P w = .ok v' w ∧ VRel φ (aresult l) v' := by
  obtain ⟨vs, h1, h2⟩ := aresults_sound hD r h
  have hm : (fn.results.mapM (fun (x : ResultVar) => (match x with | .tmp t => pure (a.tmps.getD t undef) | .cell b t => do loadVar t (← asAddr (a.tmps.getD b undef)) : Sem Value))).run P w = .ok vs.toArray w := by
    rw [← Array.toArray_toList (xs := fn.results)]
    simp only [List.mapM_toArray, Sem.run_map, h1, Result.andThen_ok]
  have hlen := h2.length
  by_cases h1l : l.length = 1
  · obtain ⟨x, rfl⟩ := List.length_eq_one_iff.1 h1l
    obtain ⟨y, rfl⟩ := List.length_eq_one_iff.1 (by rw [hlen, h1l])
    refine ⟨y, ?_, ?_⟩
    · unfold results
      rw [Sem.run_bind]
      erw [hm]
      rfl
    · simp only [VRels] at h2
      obtain ⟨v, t, e, h3, h4⟩ := h2
      simp at e; obtain ⟨rfl, rfl⟩ := e
      exact h3
  · refine ⟨.tuple vs.toArray, ?_, ?_⟩
    · unfold results
      rw [Sem.run_bind]
      erw [hm]
      simp only [Result.andThen_ok, Sem.run_pure]
      rw [dif_neg (by simp; omega)]
    · have : aresult l = .tuple l := by
        unfold aresult
        split
        · simp at h1l
        · rfl
      rw [this]; simp only [VRel]; exact ⟨_, rfl, by simpa using h2⟩

theorem acall_sound (hE : EnvOk P E) {N0 : Nat → Prop} {w0 : World} (hN : Low N0 w0.heap.size) (hmix : P.follows .mixedOrders = true) : ∀ n, CallOk P N0 w0 (acall P E n) := by
  intro n
  induction n with
  | zero => intro f args h v h' hc; simp [acall] at hc
  | succ n ih =>
    intro f args h v h' hc φ w args' hH hB hA
    simp only [acall] at hc
    split at hc
    · rename_i g hg; exact hE.prims f g hg N0 w0 hN args h v h' hc φ w args' hH hB hA
    · rename_i hnone
      split at hc
      · rename_i fn hfn
        split at hc
        · rename_i c hbody
          refine ⟨⟨fn, c, hfn, hbody⟩, ?_⟩
          refine calls_of_wp hfn hbody ?_
          have hlen : args'.size = args.length := by have := hA.length; rwa [Array.length_toList] at this
          have r : SRel φ N0 w0 ⟨args ++ List.replicate (fn.ntmps - args.length) skipped, h⟩ { tmps := args' ++ Array.replicate (fn.ntmps - args'.size) undef, defers := [] } w := by
            refine ⟨?_, hH, hB, rfl⟩
            simp only [Array.toList_append, Array.toList_replicate, hlen]
            exact hA.append (VRels.replicate (VRel.skipped φ) _)
          cases hx : aexec E (acall P E n) n none c ⟨args ++ List.replicate (fn.ntmps - args.length) skipped, h⟩ with
          | none => simp [hx] at hc
          | some p =>
            obtain ⟨e, s⟩ := p
            rw [hx] at hc
            have fin : ∀ a' w' φ', Keep φ φ' h.next → SRel φ' N0 w0 s a' w' → h.next ≤ s.heap.next → ∀ {l}, aresults E.D fn.results.toList s = some l → v = aresult l → h' = s.heap →
                a'.defers = [] ∧ ∃ v_1, (results fn a'.tmps).run P w' = .ok v_1 w' ∧ ∃ v' φ', Ending.returned v_1 = .returned v' ∧ Keep φ φ' h.next ∧ VRel φ' v v' ∧ HRel φ' N0 h' w' ∧ Safe N0 w0 w' ∧ h.next ≤ h'.next := by
              intro a' w' φ' g1 g2 g3 l hl hv hh
              subst hv hh
              obtain ⟨v', k1, k2⟩ := results_sound hE.tys g2 hl
              exact ⟨g2.defers, v', k1, v', φ', rfl, g1, k2, g2.heap, g2.below, g3⟩
            refine (aexec_sound hE hN ih hmix n).1 hx r fun a' w' φ' g1 g2 g3 => ?_
            cases e with
            | normal =>
              simp only [Option.map_eq_some_iff, Prod.mk.injEq] at hc
              obtain ⟨l, hl, h1, h2⟩ := hc
              exact fin a' w' φ' g1 g2 g3 hl h1.symm h2.symm
            | ret =>
              simp only [Option.map_eq_some_iff, Prod.mk.injEq] at hc
              obtain ⟨l, hl, h1, h2⟩ := hc
              exact fin a' w' φ' g1 g2 g3 hl h1.symm h2.symm
            | exit id => simp at hc
            | goto id => simp at hc
        · cases hc
      · cases hc
end
end
end Go.Lift

namespace Go.Lift
noncomputable section
open Go.RowKit
set_option linter.unusedVariables false
set_option linter.unusedSimpArgs false
section
variable {P : Program} {E : AEnv}

/-- is it 'true'? -/
def saysTrue : Option (AVal × AHeap) → Bool
  | some (.bool true, _) => true
  | _ => false

theorem saysTrue_spec {r : Option (AVal × AHeap)} (h : saysTrue r = true) : ∃ h', r = some (.bool true, h') := by
  unfold saysTrue at h
  split at h
  · exact ⟨_, rfl⟩
  · cases h

def noMap : Map := fun _ _ => none

theorem Tys.ok_self (P : Program) : Tys.Ok (tyD P) P := fun _ _ h => h

theorem names_of {P : Program} (h : (P.funcs.toList.all fun fn => !(fn.name == "runtime.NumGoroutine")) = true) : ∀ (f : Nat) fn, P.funcs[f]? = some fn → (fn.name == "runtime.NumGoroutine") = false := by
  intro f fn hf
  have hm : fn ∈ P.funcs.toList := by
    rw [← Array.getElem?_toList] at hf
    exact List.mem_of_getElem? hf
  have := List.all_eq_true.1 h fn hm
  simpa using this

theorem eqs_of {P : Program} {E : AEnv} (h : (E.eqs.all fun t => eqOkB P t) = true) : ∀ t, E.eqT t = true → EqOk P t := by
  intro t ht
  exact List.all_eq_true.1 h t (by simpa [AEnv.eqT] using ht)

end
end
end Go.Lift

namespace Go.Lift
noncomputable section
open Go.RowKit
set_option linter.unusedVariables false
section
variable {P : Program} {E : AEnv}

/-- it answers true, and no memory that was there is touched -/
def saysYes : APrim
  | [], h => some (.bool true, h)
  | _, _ => none

end
end
end Go.Lift

namespace Go.Lift
noncomputable section
open Go.RowKit
set_option linter.unusedVariables false
set_option linter.unusedSimpArgs false

/-! ## other numbers for the rows -/

def AAddr.ren (r : Nat → Nat) (a : AAddr) : AAddr := { a with id := r a.id }

mutual
def AVal.ren (r : Nat → Nat) : AVal → AVal
  | .ptr (some a) => .ptr (some (a.ren r))
  | .slice (some a) n c => .slice (some (a.ren r)) n c
  | .func fn f c => .func fn (AVal.rens r f) (AVal.rens r c)
  | .iface t v => .iface t (AVal.ren r v)
  | .agg cs => .agg (AVal.rens r cs)
  | .tuple vs => .tuple (AVal.rens r vs)
  | .undef => .undef
  | .bool b => .bool b
  | .int k n => .int k n
  | .str s => .str s
  | .ptr none => .ptr none
  | .slice none n c => .slice none n c
  | .nilFunc => .nilFunc
  | .nilIface => .nilIface
def AVal.rens (r : Nat → Nat) : List AVal → List AVal
  | [] => []
  | a :: l => AVal.ren r a :: AVal.rens r l
end

theorem AVal.rens_map (r : Nat → Nat) : ∀ (l : List AVal), AVal.rens r l = l.map (AVal.ren r)
  | [] => rfl
  | a :: l => by simp [AVal.rens, AVal.rens_map r l]

/-! which rows a value names -/
mutual
def Clo (D : Nat → Prop) : AVal → Prop
  | .ptr (some a) => D a.id
  | .slice (some a) _ _ => D a.id
  | .func _ f c => Clos D f ∧ Clos D c
  | .iface _ v => Clo D v
  | .agg cs => Clos D cs
  | .tuple vs => Clos D vs
  | .undef => True
  | .bool _ => True
  | .int _ _ => True
  | .str _ => True
  | .ptr none => True
  | .slice none _ _ => True
  | .nilFunc => True
  | .nilIface => True
def Clos (D : Nat → Prop) : List AVal → Prop
  | [] => True
  | a :: l => Clo D a ∧ Clos D l
end

theorem Clos_iff {D : Nat → Prop} : ∀ {l : List AVal}, Clos D l ↔ ∀ a ∈ l, Clo D a
  | [] => by simp [Clos]
  | a :: l => by simp [Clos, Clos_iff (l := l)]

mutual
theorem VRel.ren {φ ψ : Map} {r : Nat → Nat} (h : ∀ i v p, φ i v = some p → ψ (r i) v = some p) : ∀ {a : AVal} {v : Value}, VRel φ a v → VRel ψ (a.ren r) v
  | .undef, _, _ => by simp [VRel, AVal.ren]
  | .bool b, v, k => by simpa [VRel, AVal.ren] using k
  | .int _ n, v, k => by simpa [VRel, AVal.ren] using k
  | .str s, v, k => by simpa [VRel, AVal.ren] using k
  | .ptr none, v, k => by simpa [VRel, AVal.ren] using k
  | .ptr (some a), v, k => by
    simp only [VRel, AVal.ren] at k ⊢
    obtain ⟨x, e, p, hp, q⟩ := k
    exact ⟨x, e, p, h _ _ _ hp, q⟩
  | .slice none len cap, v, k => by simpa [VRel, AVal.ren] using k
  | .slice (some a) len cap, v, k => by
    simp only [VRel, AVal.ren] at k ⊢
    obtain ⟨x, c, e, l1, l2, hf, p, hp, q⟩ := k
    exact ⟨x, c, e, l1, l2, hf, p, h _ _ _ hp, q⟩
  | .func fn f c, v, k => by
    simp only [VRel, AVal.ren] at k ⊢
    obtain ⟨f', c', e, r1, r2⟩ := k
    exact ⟨f', c', e, VRels.ren h r1, VRels.ren h r2⟩
  | .nilFunc, v, k => by simpa [VRel, AVal.ren] using k
  | .iface t a, v, k => by
    simp only [VRel, AVal.ren] at k ⊢
    obtain ⟨x, e, q⟩ := k
    exact ⟨x, e, VRel.ren h q⟩
  | .nilIface, v, k => by simpa [VRel, AVal.ren] using k
  | .agg cs, v, k => by
    simp only [VRel, AVal.ren] at k ⊢
    obtain ⟨x, e, q⟩ := k
    exact ⟨x, e, VRels.ren h q⟩
  | .tuple cs, v, k => by
    simp only [VRel, AVal.ren] at k ⊢
    obtain ⟨x, e, q⟩ := k
    exact ⟨x, e, VRels.ren h q⟩
theorem VRels.ren {φ ψ : Map} {r : Nat → Nat} (h : ∀ i v p, φ i v = some p → ψ (r i) v = some p) : ∀ {l : List AVal} {t : List Value}, VRels φ l t → VRels ψ (AVal.rens r l) t
  | [], t, k => by simpa [VRels, AVal.rens] using k
  | a :: l, t, k => by
    simp only [VRels, AVal.rens] at k ⊢
    obtain ⟨v, t', e, k1, k2⟩ := k
    exact ⟨v, t', e, VRel.ren h k1, VRels.ren h k2⟩
end

mutual
theorem VRel.unren {φ ψ : Map} {r : Nat → Nat} {D : Nat → Prop} (h : ∀ i, D i → ∀ v p, ψ (r i) v = some p → φ i v = some p) : ∀ {a : AVal} {v : Value}, Clo D a → VRel ψ (a.ren r) v → VRel φ a v
  | .undef, _, _, _ => by simp [VRel]
  | .bool b, v, _, k => by simpa [VRel, AVal.ren] using k
  | .int _ n, v, _, k => by simpa [VRel, AVal.ren] using k
  | .str s, v, _, k => by simpa [VRel, AVal.ren] using k
  | .ptr none, v, _, k => by simpa [VRel, AVal.ren] using k
  | .ptr (some a), v, c, k => by
    simp only [VRel, AVal.ren, Clo] at k c ⊢
    obtain ⟨x, e, p, hp, q⟩ := k
    exact ⟨x, e, p, h _ c _ _ hp, q⟩
  | .slice none len cap, v, _, k => by simpa [VRel, AVal.ren] using k
  | .slice (some a) len cap, v, cl, k => by
    simp only [VRel, AVal.ren, Clo] at k cl ⊢
    obtain ⟨x, c, e, l1, l2, hf, p, hp, q⟩ := k
    exact ⟨x, c, e, l1, l2, hf, p, h _ cl _ _ hp, q⟩
  | .func fn f c, v, cl, k => by
    simp only [VRel, AVal.ren, Clo] at k cl ⊢
    obtain ⟨f', c', e, r1, r2⟩ := k
    exact ⟨f', c', e, VRels.unren h cl.1 r1, VRels.unren h cl.2 r2⟩
  | .nilFunc, v, _, k => by simpa [VRel, AVal.ren] using k
  | .iface t a, v, cl, k => by
    simp only [VRel, AVal.ren, Clo] at k cl ⊢
    obtain ⟨x, e, q⟩ := k
    exact ⟨x, e, VRel.unren h cl q⟩
  | .nilIface, v, _, k => by simpa [VRel, AVal.ren] using k
  | .agg cs, v, cl, k => by
    simp only [VRel, AVal.ren, Clo] at k cl ⊢
    obtain ⟨x, e, q⟩ := k
    exact ⟨x, e, VRels.unren h cl q⟩
  | .tuple cs, v, cl, k => by
    simp only [VRel, AVal.ren, Clo] at k cl ⊢
    obtain ⟨x, e, q⟩ := k
    exact ⟨x, e, VRels.unren h cl q⟩
theorem VRels.unren {φ ψ : Map} {r : Nat → Nat} {D : Nat → Prop} (h : ∀ i, D i → ∀ v p, ψ (r i) v = some p → φ i v = some p) : ∀ {l : List AVal} {t : List Value}, Clos D l → VRels ψ (AVal.rens r l) t → VRels φ l t
  | [], t, _, k => by simpa [VRels, AVal.rens] using k
  | a :: l, t, c, k => by
    simp only [VRels, AVal.rens, Clos] at k c ⊢
    obtain ⟨v, t', e, k1, k2⟩ := k
    exact ⟨v, t', e, VRel.unren h c.1 k1, VRels.unren h c.2 k2⟩
end

def ABlk.ren (r : Nat → Nat) (b : ABlk) : ABlk := { b with elems := b.elems.map (AVal.ren r) }

theorem ABlk.lim_ren (r : Nat → Nat) (b : ABlk) (v : Nat) : (b.ren r).lim v = b.lim v := by
  show (if v = b.ver then (b.elems.map (AVal.ren r)).length else if b.minVer ≤ v ∧ v < b.ver then b.forkLen else 0) = b.lim v
  rw [List.length_map]; rfl

theorem AVal.cells_ren (r : Nat → Nat) (e : AVal) : (e.ren r).cells = e.cells.map (AVal.ren r) := by
  cases e with
  | ptr o => cases o <;> simp [AVal.ren, AVal.cells]
  | slice o n c => cases o <;> simp [AVal.ren, AVal.cells]
  | agg l => simp [AVal.ren, AVal.cells, AVal.rens_map]
  | _ => simp [AVal.ren, AVal.cells]

theorem Row.ren {φ ψ : Map} {r : Nat → Nat} (h : ∀ i v p, φ i v = some p → ψ (r i) v = some p) {S T : Nat → Prop} {b : ABlk} {v : Nat} {p : Place} {w : World} (k : Row φ S b v p w) (hT : p.ro = false → ¬ T p.blk) : Row ψ T (b.ren r) v p w where
  blk := k.blk
  base := hT
  cells := k.cells
  free := k.free
  cont i e h1 h2 h3 := by
    rw [ABlk.lim_ren] at h2
    simp only [ABlk.ren, List.getElem?_map, Option.map_eq_some_iff] at h3
    obtain ⟨e0, h3, rfl⟩ := h3
    obtain ⟨k1, k2, k3⟩ := k.cont i e0 h1 h2 h3
    refine ⟨by rw [AVal.cells_ren, List.length_map]; exact k1, k2, fun j x' hx => ?_⟩
    rw [AVal.cells_ren, List.getElem?_map, Option.map_eq_some_iff] at hx
    obtain ⟨x0, hx, rfl⟩ := hx
    obtain ⟨x, g1, g2, g3⟩ := k3 j x0 hx
    exact ⟨x, g1, VRel.ren h g2, g3⟩

theorem Clo.cells {D : Nat → Prop} {e : AVal} (h : Clo D e) : ∀ x ∈ e.cells, Clo D x := by
  intro x hx
  cases e with
  | agg l => simp only [Clo] at h; exact Clos_iff.1 h x (by simpa [AVal.cells] using hx)
  | ptr o => cases o <;> (simp only [AVal.cells, List.mem_singleton] at hx; subst hx; exact h)
  | slice o n c => cases o <;> (simp only [AVal.cells, List.mem_singleton] at hx; subst hx; exact h)
  | _ => simp only [AVal.cells, List.mem_singleton] at hx; subst hx; exact h

theorem Row.unren {φ ψ : Map} {r : Nat → Nat} {D : Nat → Prop} (h : ∀ i, D i → ∀ v p, ψ (r i) v = some p → φ i v = some p) {S T : Nat → Prop} {b : ABlk} {v : Nat} {p : Place} {w : World} (hc : ∀ e ∈ b.elems, Clo D e) (k : Row ψ S (b.ren r) v p w)
    (hT : p.ro = false → ¬ T p.blk) : Row φ T b v p w where
  blk := k.blk
  base := hT
  cells := k.cells
  free := k.free
  cont i e h1 h2 h3 := by
    have h3' : (b.ren r).elems[i]? = some (e.ren r) := by simp [ABlk.ren, h3]
    obtain ⟨k1, k2, k3⟩ := k.cont i (e.ren r) h1 (by rw [ABlk.lim_ren]; exact h2) h3'
    rw [AVal.cells_ren, List.length_map] at k1
    refine ⟨k1, k2, fun j x' hx => ?_⟩
    obtain ⟨x, g1, g2, g3⟩ := k3 j (x'.ren r) (by rw [AVal.cells_ren, List.getElem?_map, hx]; rfl)
    exact ⟨x, g1, VRel.unren h ((hc e (List.mem_of_getElem? h3)).cells x' (List.mem_of_getElem? hx)) g2, g3⟩

theorem Row.at {φ ψ : Map} (h : φ.le ψ) {S : Nat → Prop} {b : ABlk} {v : Nat} {p : Place} {w w' : World} (k : Row φ S b v p w) (hs : w.heap.size ≤ w'.heap.size) (hb : w'.heap[p.blk]? = w.heap[p.blk]?) : Row ψ S b v p w' where
  blk := Nat.lt_of_lt_of_le k.blk hs
  base := k.base
  cells o ho := by
    have := k.cells o ho
    simp only [World.cell?, hb] at this ⊢; exact this
  free hr o ho := by
    have := k.free hr o ho
    simp only [World.frozen?, hb] at this ⊢; exact this
  cont i e h1 h2 h3 := by
    obtain ⟨k1, k2, k3⟩ := k.cont i e h1 h2 h3
    refine ⟨k1, k2, fun j x' hx => ?_⟩
    obtain ⟨x, g1, g2, g3⟩ := k3 j x' hx
    refine ⟨x, ?_, VRel.mono h g2, g3⟩
    simp only [World.cell?, Place.at, hb] at g1 ⊢; exact g1

/-! ## a small memory within a great one -/

def In (h : AHeap) (i : Nat) : Prop := (h.get i).isSome = true

structure Within (r : Nat → Nat) (h H : AHeap) : Prop where
  get : ∀ i b, h.get i = some b → i < h.next ∧ H.get (r i) = some (b.ren r)
  inj : ∀ i j, In h i → In h j → r i = r j → i = j
  clo : ∀ i b, h.get i = some b → ∀ e ∈ b.elems, Clo (In h) e

open Classical in
def pull (ψ : Map) (r : Nat → Nat) (h : AHeap) : Map := fun i v => if In h i then ψ (r i) v else none

theorem pull_some {ψ : Map} {r : Nat → Nat} {h : AHeap} {i v : Nat} {p : Place} (k : pull ψ r h i v = some p) : In h i ∧ ψ (r i) v = some p := by
  unfold pull at k
  split at k
  · rename_i hi; exact ⟨hi, k⟩
  · cases k
theorem pull_of {ψ : Map} {r : Nat → Nat} {h : AHeap} {i v : Nat} (hi : In h i) : pull ψ r h i v = ψ (r i) v := by unfold pull; rw [if_pos hi]

theorem HRel.pull {ψ : Map} {S T : Nat → Prop} {H h : AHeap} {w : World} {r : Nat → Nat} (k : HRel ψ S H w) (hw : Within r h H) (hT : ∀ i v p, pull ψ r h i v = some p → p.ro = false → ¬ T p.blk) : HRel (pull ψ r h) T h w where
  dom i v p hp := by
    obtain ⟨hi, hq⟩ := pull_some hp
    obtain ⟨b, hb⟩ := Option.isSome_iff_exists.1 hi
    obtain ⟨h1, h2⟩ := hw.get i b hb
    obtain ⟨k1, B, k2, k3, k4, k5, k6, k7, k8⟩ := k.dom _ _ _ hq
    rw [h2] at k2; simp only [Option.some.injEq] at k2; subst k2
    exact ⟨h1, b, hb, k3, k4, k5, k6, k7, k8.unren (fun i hi v p hp => by rw [pull_of hi]; exact hp) (hw.clo i b hb) (hT i v p hp)⟩
  apart i v p j u q hp hq hb hne := by
    obtain ⟨hi, hp'⟩ := pull_some hp
    obtain ⟨hj, hq'⟩ := pull_some hq
    exact k.apart _ _ _ _ _ _ hp' hq' hb fun e => hne (hw.inj i j hi hj e)
  same i v p u q hp hq hb := by
    obtain ⟨hi, hp'⟩ := pull_some hp
    obtain ⟨_, hq'⟩ := pull_some hq
    exact k.same _ _ _ _ _ hp' hq' hb

/-- one call: what it promises -/
def FDoes (P : Program) (f : FuncId) (args : List AVal) (h : AHeap) (v : AVal) (h' : AHeap) : Prop :=
  ∀ (N0 : Nat → Prop) (w0 : World), Low N0 w0.heap.size → ∀ (φ : Map) (w : World) (args' : Array Value), HRel φ N0 h w → Safe N0 w0 w → VRels φ args args'.toList →
    (∃ fn c, P.funcs[f]? = some fn ∧ fn.body = some c) ∧
    Calls P f args' w fun e w' => ∃ v' φ', e = .returned v' ∧ Keep φ φ' h.next ∧ VRel φ' v v' ∧ HRel φ' N0 h' w' ∧ Safe N0 w0 w' ∧ h.next ≤ h'.next

theorem FDoes.of_acall {P : Program} {E : AEnv} (hE : EnvOk P E) (hmix : P.follows .mixedOrders = true) {n : Nat} {f : FuncId} {args : List AVal} {h h' : AHeap} {v : AVal} (hc : acall P E n f args h = some (v, h')) : FDoes P f args h v h' :=
  fun N0 w0 hN φ w args' hH hB hA => acall_sound hE hN hmix n f args h v h' hc φ w args' hH hB hA

open Classical in
/-- the great map behind the call -/
def push (ψ φ' : Map) (r : Nat → Nat) : Map := fun j u => if k : ∃ i p, r i = j ∧ φ' i u = some p then φ' k.choose u else ψ j u

theorem FDoes.frame {P : Program} {f : FuncId} {args : List AVal} {h h' : AHeap} {v : AVal} (k : FDoes P f args h v h') {r : Nat → Nat} {H H' : AHeap} (hw : Within r h H) (hargs : Clos (In h) args)
    (hnew : ∀ i, h.next ≤ i → r i = H.next + (i - h.next)) (hget : ∀ i b, h'.get i = some b → (In h i ∨ h.next ≤ i) → H'.get (r i) = some (b.ren r)) (hnext : H'.next = H.next + (h'.next - h.next))
    (hout : ∀ j, j < H.next → (∀ i, In h i → r i ≠ j) → H'.get j = H.get j) : FDoes P f (args.map (AVal.ren r)) H (v.ren r) H' := by
  intro S w0 hS ψ w args' hH hsafe hA
  let φ := pull ψ r h
  let S1 : Nat → Prop := fun x => S x ∨ (x < w.heap.size ∧ ∀ i v p, φ i v = some p → p.ro = false → p.blk ≠ x)
  have hlow : Low S1 w.heap.size := by
    rintro x (hx | hx)
    · exact Nat.lt_of_lt_of_le (hS x hx) hsafe.size
    · exact hx.1
  have hbase : ∀ i v p, φ i v = some p → p.ro = false → ¬ S1 p.blk := by
    rintro i v p hp hro (hx | hx)
    · obtain ⟨_, hq⟩ := pull_some hp
      obtain ⟨_, B, _, _, _, _, _, _, hrow⟩ := hH.dom _ _ _ hq
      exact hrow.base hro hx
    · exact hx.2 i v p hp hro rfl
  have hφ : HRel φ S1 h w := hH.pull hw hbase
  have hA' : VRels φ args args'.toList := by
    rw [← AVal.rens_map] at hA
    exact VRels.unren (fun i hi v p hp => by show pull ψ r h i v = some p; rw [pull_of hi]; exact hp) hargs hA
  obtain ⟨hb, hc⟩ := k S1 w hlow φ w args' hφ (Safe.refl _ _) hA'
  refine ⟨hb, hc.mono fun e w' ⟨v', φ', he, kp, hv, hr, hs, hn⟩ => ?_⟩
  -- what is mapped behind the call
  have from' : ∀ i u p, φ' i u = some p → (In h i ∧ r i < H.next) ∨ h.next ≤ i := by
    intro i u p hp
    by_cases hi : i < h.next
    · by_cases hin : In h i
      · left
        refine ⟨hin, ?_⟩
        by_cases hex : ∃ u0 p0, φ i u0 = some p0
        · obtain ⟨u0, p0, h0⟩ := hex
          exact (hH.dom _ _ _ (pull_some h0).2).1
        · have := kp.new i hi (fun u => by
            cases hq : φ i u with
            | none => rfl
            | some q => exact absurd ⟨u, q, hq⟩ hex) u
          rw [this] at hp; cases hp
      · have := kp.new i hi (fun u => by show pull ψ r h i u = none; unfold Lift.pull; rw [if_neg hin]) u
        rw [this] at hp; cases hp
    · exact .inr (by omega)
  have uniq : ∀ i j u t p q, φ' i u = some p → φ' j t = some q → r i = r j → i = j := by
    intro i j u t p q hp hq e
    rcases from' i u p hp with ⟨hi, li⟩ | hi <;> rcases from' j t q hq with ⟨hj, lj⟩ | hj
    · exact hw.inj i j hi hj e
    · rw [hnew j hj] at e; omega
    · rw [hnew i hi] at e; omega
    · rw [hnew i hi, hnew j hj] at e; omega
  have q1 : ∀ i u p, φ' i u = some p → push ψ φ' r (r i) u = some p := by
    intro i u p hp
    have hex : ∃ i' p', r i' = r i ∧ φ' i' u = some p' := ⟨i, p, rfl, hp⟩
    unfold push
    rw [dif_pos hex]
    obtain ⟨p', e1, e2⟩ := hex.choose_spec
    rw [uniq _ _ _ _ _ _ e2 hp e1]; exact hp
  have q2 : ∀ j u, (¬ ∃ i p, r i = j ∧ φ' i u = some p) → push ψ φ' r j u = ψ j u := by
    intro j u hex; unfold push; rw [dif_neg hex]
  have q3 : ∀ j u p, ψ j u = some p → (¬ ∃ i p, r i = j ∧ φ' i u = some p) → ∀ i, In h i → r i ≠ j := by
    intro j u p hp hex i hi e
    subst e
    have h1 : φ i u = some p := by show pull ψ r h i u = some p; rw [pull_of hi]; exact hp
    exact hex ⟨i, p, rfl, kp.le _ _ _ h1⟩
  have q4 : (ψ : Map).le (push ψ φ' r) := by
    intro j u p hp
    by_cases hex : ∃ i p, r i = j ∧ φ' i u = some p
    · obtain ⟨i, q, rfl, hq⟩ := hex
      rw [q1 i u q hq]
      rcases from' i u q hq with ⟨hi, li⟩ | hi
      · have h1 : φ i u = some p := by show pull ψ r h i u = some p; rw [pull_of hi]; exact hp
        rw [kp.le _ _ _ h1] at hq; exact hq.symm
      · have := (hH.dom _ _ _ hp).1
        rw [hnew i hi] at this; omega
    · rw [q2 j u hex]; exact hp
  -- rows of the great memory that the call does not know
  have away : ∀ j u p, ψ j u = some p → (∀ i, In h i → r i ≠ j) → S1 p.blk := by
    intro j u p hp hne
    obtain ⟨_, B, _, _, _, _, _, _, hrow⟩ := hH.dom _ _ _ hp
    refine .inr ⟨hrow.blk, fun i v q hq hro e => ?_⟩
    obtain ⟨hi, hq'⟩ := pull_some hq
    have := (hH.apart _ _ _ _ _ _ hq' hp e (hne i hi)).1
    rw [hro] at this; cases this
  refine ⟨v', push ψ φ' r, he, ⟨q4, ?_, ?_⟩, VRel.ren q1 hv, ⟨?_, ?_, ?_⟩, hsafe.trans (hs.less fun i hi => .inl hi), by omega⟩
  · intro j hj hnone u
    by_cases hex : ∃ i p, r i = j ∧ φ' i u = some p
    · obtain ⟨i, q, rfl, hq⟩ := hex
      rcases from' i u q hq with ⟨hi, li⟩ | hi
      · have hil : i < h.next := by
          obtain ⟨b, hb⟩ := Option.isSome_iff_exists.1 hi
          exact (hw.get i b hb).1
        have := kp.new i hil (fun u => by show pull ψ r h i u = none; rw [pull_of hi]; exact hnone u) u
        rw [this] at hq; cases hq
      · rw [hnew i hi] at hj; omega
    · rw [q2 j u hex]; exact hnone u
  · intro j u p hp hro
    by_cases hex : ∃ i p, r i = j ∧ φ' i u = some p
    · obtain ⟨i, q, rfl, hq⟩ := hex
      rw [q1 i u q hq] at hp
      simp only [Option.some.injEq] at hp; subst hp
      exact (pull_some (kp.ro i u q hq hro)).2
    · rw [q2 j u hex] at hp; exact hp
  · intro j u p hp
    by_cases hex : ∃ i p, r i = j ∧ φ' i u = some p
    · obtain ⟨i, q, rfl, hq⟩ := hex
      rw [q1 i u q hq] at hp
      simp only [Option.some.injEq] at hp; subst hp
      obtain ⟨d1, b, d2, d3, d4, d5, d6, d7, d8⟩ := hr.dom _ _ _ hq
      have hio : In h i ∨ h.next ≤ i := by
        rcases from' i u q hq with ⟨hi, _⟩ | hi
        · exact .inl hi
        · exact .inr hi
      refine ⟨?_, b.ren r, hget i b d2 hio, d3, d4, d5, d6, d7, d8.ren q1 fun hro hx => d8.base hro (.inl hx)⟩
      rcases from' i u q hq with ⟨_, li⟩ | hi
      · omega
      · rw [hnew i hi, hnext]; omega
    · rw [q2 j u hex] at hp
      obtain ⟨d1, B, d2, d3, d4, d5, d6, d7, d8⟩ := hH.dom _ _ _ hp
      have hne := q3 j u p hp hex
      exact ⟨by omega, B, by rw [hout j d1 hne]; exact d2, d3, d4, d5, d6, d7, d8.at q4 hs.size (hs.block _ (away j u p hp hne))⟩
  · have mixed : ∀ i u p j t q, φ' i u = some p → ψ j t = some q → (∀ i, In h i → r i ≠ j) → p.blk = q.blk → p.ro = true ∧ q.ro = true := by
      intro i u p j t q hp hq hne hb
      have hx := away j t q hq hne
      by_cases hro : p.ro = true
      · obtain ⟨hi, hp'⟩ := pull_some (kp.ro i u p hp hro)
        exact hH.apart _ _ _ _ _ _ hp' hq hb (hne i hi)
      · obtain ⟨_, b, _, _, _, _, _, _, d8⟩ := hr.dom _ _ _ hp
        exact absurd (hb ▸ hx) (d8.base (by simpa using hro))
    intro i u p j t q hp hq hb hne
    by_cases hex : ∃ i' p, r i' = i ∧ φ' i' u = some p <;> by_cases hey : ∃ i' p, r i' = j ∧ φ' i' t = some p
    · obtain ⟨i', p', rfl, hp'⟩ := hex
      obtain ⟨j', q', rfl, hq'⟩ := hey
      rw [q1 _ _ _ hp'] at hp; rw [q1 _ _ _ hq'] at hq
      simp only [Option.some.injEq] at hp hq; subst hp; subst hq
      exact hr.apart _ _ _ _ _ _ hp' hq' hb fun e => hne (by rw [e])
    · obtain ⟨i', p', rfl, hp'⟩ := hex
      rw [q1 _ _ _ hp'] at hp; rw [q2 _ _ hey] at hq
      simp only [Option.some.injEq] at hp; subst hp
      exact mixed _ _ _ _ _ _ hp' hq (q3 j t q hq hey) hb
    · obtain ⟨j', q', rfl, hq'⟩ := hey
      rw [q2 _ _ hex] at hp; rw [q1 _ _ _ hq'] at hq
      simp only [Option.some.injEq] at hq; subst hq
      exact (mixed _ _ _ _ _ _ hq' hp (q3 i u p hp hex) hb.symm).symm
    · rw [q2 _ _ hex] at hp; rw [q2 _ _ hey] at hq
      exact hH.apart _ _ _ _ _ _ hp hq hb hne
  · intro i u p t q hp hq hb
    have both : ∀ i' p', r i' = i → ∀ u', φ' i' u' = some p' → ∀ t q, push ψ φ' r i t = some q → φ' i' t = some q := by
      intro i' p' e u' hp' t q hq
      by_cases hey : ∃ j' p, r j' = i ∧ φ' j' t = some p
      · obtain ⟨j', q', e2, hq'⟩ := hey
        have := uniq i' j' _ _ _ _ hp' hq' (by rw [e, e2])
        subst this
        rw [← e2, q1 _ _ _ hq'] at hq; rw [hq']; exact hq
      · rw [q2 _ _ hey] at hq
        rcases from' i' u' p' hp' with ⟨hi, _⟩ | hi
        · exact absurd e (q3 i t q hq hey i' hi)
        · have := (hH.dom _ _ _ hq).1
          rw [← e, hnew i' hi] at this; omega
    by_cases hex : ∃ i' p, r i' = i ∧ φ' i' u = some p
    · obtain ⟨i', p', e, hp'⟩ := hex
      exact hr.same i' _ _ _ _ (both i' p' e u hp' u p hp) (both i' p' e u hp' t q hq) hb
    · by_cases hey : ∃ i' p, r i' = i ∧ φ' i' t = some p
      · obtain ⟨i', p', e, hp'⟩ := hey
        exact hr.same i' _ _ _ _ (both i' p' e t hp' u p hp) (both i' p' e t hp' t q hq) hb
      · rw [q2 _ _ hex] at hp; rw [q2 _ _ hey] at hq
        exact hH.same _ _ _ _ _ hp hq hb
end
end Go.Lift

namespace Go.Lift
noncomputable section
set_option linter.unusedVariables false
set_option linter.unusedSimpArgs false

/-- what is known of the slots -/
abbrev Facts := List (Nat × AVal)

def lookF : Facts → Nat → Option AVal
  | [], _ => none
  | (k, v) :: r, t => cond (Nat.beq k t) (some v) (lookF r t)

def dropF (t : Nat) : Facts → Facts
  | [] => []
  | (k, v) :: r => cond (Nat.beq k t) (dropF t r) ((k, v) :: dropF t r)

def setF (F : Facts) (d : Option Tmp) (v : AVal) : Facts :=
  match d with
  | some d => (d, v) :: dropF d F
  | none => F

def onlyF (F : Facts) : List Nat → Facts
  | [] => []
  | t :: r => match lookF F t with | some v => (t, v) :: onlyF F r | none => onlyF F r

def Has (F : Facts) (s : List AVal) : Prop := ∀ t v, lookF F t = some v → s[t]? = some v

theorem beq_cases (a b : Nat) : (a = b ∧ Nat.beq a b = true) ∨ (a ≠ b ∧ Nat.beq a b = false) := by
  by_cases h : a = b
  · exact .inl ⟨h, beq_true h⟩
  · exact .inr ⟨h, beq_false h⟩

theorem lookF_cons (k : Nat) (v : AVal) (r : Facts) (t : Nat) : lookF ((k, v) :: r) t = if k = t then some v else lookF r t := by
  simp only [lookF]
  rcases beq_cases k t with ⟨h, e⟩ | ⟨h, e⟩ <;> simp [h, e]

theorem lookF_drop (d t : Nat) (h : d ≠ t) : ∀ (F : Facts), lookF (dropF d F) t = lookF F t
  | [] => rfl
  | (k, v) :: r => by
    simp only [dropF]
    rcases beq_cases k d with ⟨hk, e⟩ | ⟨hk, e⟩
    · rw [e, cond_true, lookF_cons, if_neg (by omega), lookF_drop d t h r]
    · rw [e, cond_false, lookF_cons, lookF_cons, lookF_drop d t h r]

theorem Has.set {F : Facts} {s : List AVal} (hs : Has F s) {d : Option Tmp} (hd : ∀ t, d = some t → t < s.length) (v : AVal) : Has (setF F d v) (aput s d v) := by
  cases d with
  | none => exact hs
  | some d =>
    intro t u hu
    have hd' := hd d rfl
    simp only [setF, lookF_cons] at hu
    simp only [aput, List.getElem?_set]
    by_cases h : d = t
    · subst h
      rw [if_pos rfl] at hu
      rw [if_pos rfl, if_pos hd']; exact hu
    · rw [if_neg h, lookF_drop d t h] at hu
      rw [if_neg h]; exact hs t u hu

theorem lookF_only {F : Facts} {t : Nat} {v : AVal} : ∀ {l : List Nat}, lookF (onlyF F l) t = some v → lookF F t = some v
  | [], h => by cases h
  | k :: r, h => by
    simp only [onlyF] at h
    split at h
    · rename_i u hu
      rw [lookF_cons] at h
      split at h
      · rename_i e; subst e; rw [hu]; exact h
      · exact lookF_only h
    · exact lookF_only h

theorem Has.only {F : Facts} {s : List AVal} (hs : Has F s) (l : List Nat) : Has (onlyF F l) s := fun t v h => hs t v (lookF_only h)

def getF (F : Facts) : Operand → AVal
  | .tmp t => match lookF F t with | some v => v | none => .undef
  | .const v => ofConst v
  | .global _ => .undef
  | .func f => .func (.func f) [] []

def knownF (F : Facts) : Operand → Bool
  | .tmp t => match lookF F t with | some _ => true | none => false
  | _ => true

theorem Has.get {F : Facts} {s : List AVal} (hs : Has F s) {o : Operand} (hk : knownF F o = true) : getF F o = agetOp s o := by
  cases o with
  | tmp t =>
    simp only [knownF] at hk
    split at hk
    · rename_i v hv
      simp only [getF, agetOp, hv, List.getD_eq_getElem?_getD, hs t v hv, Option.getD_some]
    · cases hk
  | const v => rfl
  | global g => rfl
  | func f => rfl

def awantedF (ops : Array Oper) (F : Facts) (o : Oper) : Option Bool :=
  match o.guard with
  | none => some true
  | some (j, want) =>
    match (ops[j]?).bind (·.dst) with
    | some d =>
      match lookF F d with
      | some (.bool b) => some (b == want)
      | some (.tuple []) => some false
      | _ => none
    | none => none

theorem awantedF_eq {ops : Array Oper} {F : Facts} {s : List AVal} (hs : Has F s) {o : Oper} {b : Bool} (h : awantedF ops F o = some b) : awanted ops s o = some b := by
  unfold awantedF at h
  unfold awanted
  split at h
  · rename_i hg; simp only [hg]; exact h
  · rename_i j want hg
    simp only [hg]
    split at h
    · rename_i d hd
      simp only [hd]
      split at h
      · rename_i b' hb; simp only [hs _ _ hb]; exact h
      · rename_i hb; simp only [hs _ _ hb]; exact h
      · cases h
    · cases h

inductive Hint where
  /-- operation i of the region q (the number is 1000 q + i) answers so, and turns no memory -/
  | val (i : Nat) (v : AVal)
  /-- it answers so, and turns memory so -/
  | act (i : Nat) (v : AVal) (g : AHeap → AHeap)
  /-- it goes well: what it must for that is asked -/
  | go (i : Nat)
  /-- a load: the element that is read is e -/
  | ld (i : Nat) (e : AVal)
  /-- a store: the element that was there is e -/
  | st (i : Nat) (e : AVal)
  /-- the guard of operation i is so -/
  | guard (i : Nat) (b : Bool)
  /-- the test of slot t is so -/
  | test (t : Nat) (b : Bool)
  /-- of the facts these slots are kept -/
  | keep (l : List Nat)
  /-- the next loop ends so -/
  | loop (F : Facts) (h : AHeap) (e : AExit)
  /-- the next test or block, taken as a whole, ends so -/
  | cut (F : Facts) (h : AHeap) (e : AExit)
  /-- the next result that lies in a variable -/
  | cell (v : AVal)

def noCall : ACall := fun _ _ _ => none

/-- the function answers so -/
structure CallT (P : Program) (f : FuncId) (args : List AVal) (h : AHeap) (v : AVal) (h' : AHeap) : Prop where
  does : FDoes P f args h v h'

/-- what is known of a call -/
structure CFact where
  f : FuncId
  args : List AVal
  h : AHeap
  v : AVal
  h' : AHeap

def CFact.holds (call : ACall) (k : CFact) : Prop := call k.f k.args k.h = some (k.v, k.h')

abbrev Fit64 (n : Int) : Prop := -9223372036854775808 ≤ n ∧ n ≤ 9223372036854775807
/-- does the number fit? -/
def FitK (k : IntKind) (n : Int) : Prop :=
  match k with
  | .i64 => Fit64 n
  | .i8 => -128 ≤ n ∧ n ≤ 127
  | .i32 => -2147483648 ≤ n ∧ n ≤ 2147483647
  | .u8 => 0 ≤ n ∧ n ≤ 255
  | k => k.min ≤ n ∧ n ≤ k.max

theorem wrap_fit {k : IntKind} {n : Int} (h : FitK k n) : k.wrap n = n := by
  cases k <;> simp only [FitK, Fit64, IntKind.min, IntKind.max, IntKind.signed, IntKind.bits, IntKind.wrap] at h ⊢ <;> simp at h ⊢ <;> omega

section
variable (P : Program) (E : AEnv)

/-- an operation that goes well -/
def goOp (nid : Nat) (ρ : Operand → AVal) (h : AHeap) (o : Op) : Option (AVal × AHeap × Prop) :=
  match o with
  | .binOp op t x y _ =>
    match ρ x, ρ y with
    | .int k a, .int k' b =>
      match decEq k k' with
      | isTrue _ =>
        match op with
        | .add => some (.int k (a + b), h, FitK k (a + b))
        | .sub => some (.int k (a - b), h, FitK k (a - b))
        | .mul => some (.int k (a * b), h, FitK k (a * b))
        | .quo => some (.int k (a.tdiv b), h, b ≠ 0 ∧ FitK k (a.tdiv b))
        | .rem => some (.int k (a.tmod b), h, b ≠ 0)
        | _ => none
      | isFalse _ => none
    | _, _ => none
  | .indexAddr t x i =>
    match E.D t, ρ x, ρ i with
    | some d, .slice (some a) len _, .int _ i =>
      match d.kind with
      | .slice e =>
        match E.D e with
        | some xd => some (.ptr (some { a with idx := a.idx + i.toNat }), h, 0 ≤ i ∧ i < len ∧ a.es = xd.size)
        | none => none
      | _ => none
    | _, _, _ => none
  | .convert s d x =>
    match E.D s, E.D d, ρ x with
    | some _, some dd, .int _ n => match dd.kind with | .int k => some (.int k n, h, FitK k n) | _ => none
    | _, _, _ => none
  | .makeSlice t l c =>
    match E.D t, ρ l, ρ c with
    | some d, .int _ l, .int _ c =>
      match d.kind with
      | .slice e =>
        match E.D e with
        | some x =>
          match x.zero with
          | some z =>
            cond (Nat.blt 0 x.size && z.fits x.kind.isAgg x.size)
              (some (newSlice nid x.size l.toNat c.toNat, h.set nid (.made (List.replicate c.toNat z) x.size true), 0 ≤ l ∧ l ≤ c ∧ c < 2 ^ 62 ∧ x.bytes * c ≤ 2 ^ 48)) none
          | none => none
        | none => none
      | _ => none
    | _, _, _ => none
  | _ => none

theorem goOp_spec {nid : Nat} {ρ : Operand → AVal} {h h' : AHeap} {o : Op} {v : AVal} {p : Prop} (k : goOp E nid ρ h o = some (v, h', p)) (hp : p) (call : ACall) : aop E call nid ρ h o = some (v, h') := by
  cases o <;> simp only [goOp] at k <;> try (cases k; done)
  case binOp op t x y ty =>
    split at k
    · rename_i k1 a k2 b hx hy
      split at k
      · rename_i hk _
        subst hk
        simp only [aop, hx, hy, abin]
        split at k <;> first | (cases k; done) | (simp only [Option.some.injEq, Prod.mk.injEq] at k)
        all_goals (obtain ⟨rfl, rfl, rfl⟩ := k)
        · simp [aint, wrap_fit hp]
        · simp [aint, wrap_fit hp]
        · simp [aint, wrap_fit hp]
        · simp [aint, wrap_fit hp.2, hp.1]
        · simp [aint, hp]
      · cases k
    · cases k
  case indexAddr t x i =>
    split at k
    · rename_i d a len c kk i hd hx hi
      split at k
      · rename_i e he
        split at k
        · rename_i xd hxd
          simp only [Option.some.injEq, Prod.mk.injEq] at k
          obtain ⟨rfl, rfl, rfl⟩ := k
          simp only [aop, hx, hi, aindexAddr, hd, he, hxd]
          rw [if_pos hp]; rfl
        · cases k
      · cases k
    · cases k
  case convert s d x =>
    split at k
    · rename_i sd dd kk n hs hd hx
      split at k
      · rename_i k2 hk2
        simp only [Option.some.injEq, Prod.mk.injEq] at k
        obtain ⟨rfl, rfl, rfl⟩ := k
        simp [aop, hx, aconvert, hs, hd, hk2, wrap_fit hp]
      · cases k
    · cases k
  case makeSlice t l c =>
    split at k
    · rename_i d k1 l' k2 c' hd hl hc
      split at k
      · rename_i e he
        split at k
        · rename_i x hx
          split at k
          · rename_i z hz
            cases hb : (Nat.blt 0 x.size && z.fits x.kind.isAgg x.size) with
            | false => rw [hb] at k; cases k
            | true =>
              rw [hb, cond_true] at k
              simp only [Option.some.injEq, Prod.mk.injEq] at k
              obtain ⟨rfl, rfl, rfl⟩ := k
              simp only [Bool.and_eq_true] at hb
              simp only [aop, hl, hc, amakeSlice, hd, he, hx, hz]
              rw [if_pos ⟨hp.1, hp.2.1, hp.2.2.1, hp.2.2.2, Nat.blt_eq.mp hb.1, hb.2⟩]
          · cases k
        · cases k
      · cases k
    · cases k

/-- a load of an element that is told -/
def ldOp (ρ : Operand → AVal) (h : AHeap) (o : Op) (e : AVal) : Option (AVal × Prop) :=
  match o with
  | .load t x =>
    match ρ x with
    | .ptr (some a) =>
      match E.D t, h.get a.id with
      | some d, some b =>
        match loadElem d.kind.isAgg d.size a.fld e with
        | some v => some (v, b.elem? a.ver a.idx = some e)
        | none => none
      | _, _ => none
    | _ => none
  | _ => none

theorem ldOp_spec {nid : Nat} {ρ : Operand → AVal} {h : AHeap} {o : Op} {e v : AVal} {p : Prop} (k : ldOp E ρ h o e = some (v, p)) (hp : p) (call : ACall) : aop E call nid ρ h o = some (v, h) := by
  unfold ldOp at k
  split at k
  · rename_i t x
    split at k
    · rename_i a ha
      split at k
      · rename_i d b hd hb
        split at k
        · rename_i v' hv
          simp only [Option.some.injEq, Prod.mk.injEq] at k
          obtain ⟨rfl, rfl⟩ := k
          simp [aop, ha, aload, hd, hb, hp, hv]
        · cases k
      · cases k
    · cases k
  · cases k

/-- a store over an element that is told -/
def stOp (ρ : Operand → AVal) (h : AHeap) (o : Op) (e : AVal) : Option (AHeap × Prop) :=
  match o with
  | .store t x y =>
    match ρ x with
    | .ptr (some a) =>
      match E.D t, h.get a.id with
      | some d, some b =>
        cond ((ρ y).fits d.kind.isAgg d.size && !b.ro)
          (match storeElem a.fld (ρ y) e with
          | some e' => some (h.set a.id { b with elems := b.elems.set a.idx e', minVer := b.ver }, a.ver = b.ver ∧ b.elems[a.idx]? = some e)
          | none => none) none
      | _, _ => none
    | _ => none
  | _ => none

theorem stOp_spec {nid : Nat} {ρ : Operand → AVal} {h h' : AHeap} {o : Op} {e : AVal} {p : Prop} (k : stOp E ρ h o e = some (h', p)) (hp : p) (call : ACall) : aop E call nid ρ h o = some (skipped, h') := by
  unfold stOp at k
  split at k
  · rename_i t x y
    split at k
    · rename_i a ha
      split at k
      · rename_i d b hd hb
        cases hc : ((ρ y).fits d.kind.isAgg d.size && !b.ro) with
        | false => rw [hc] at k; cases k
        | true =>
          rw [hc, cond_true] at k
          split at k
          · rename_i e' he
            simp only [Option.some.injEq, Prod.mk.injEq] at k
            obtain ⟨rfl, rfl⟩ := k
            simp [aop, ha, astore, hd, hb, hp.1, hp.2, he, hc]
          · cases k
      · cases k
    · cases k
  · cases k

/-- what is asked for an operation to answer so; a call that is leant on -/
def actCond (nid : Nat) (ρ : Operand → AVal) (h : AHeap) (o : Op) (v : AVal) (h' : AHeap) : Prop × List CFact :=
  match o with
  | .call c =>
    match c.callee with
    | .value f => match ρ f with | .func (.func g) fs cs => (CallT P g (fs ++ c.args.toList.map ρ ++ cs) h v h', [⟨g, fs ++ c.args.toList.map ρ ++ cs, h, v, h'⟩]) | _ => (False, [])
    | .builtin b => (abuiltin E b c.argTypes (c.args.toList.map ρ) nid h = some (v, h'), [])
    | _ => (False, [])
  | o => (aop E noCall nid ρ h o = some (v, h'), [])

/-- likewise, where memory stays -/
def valCond (nid : Nat) (ρ : Operand → AVal) (h : AHeap) (o : Op) (v : AVal) : Prop × List CFact :=
  match o with
  | .load t x => (match ρ x with | .ptr (some a) => aload E.D t a h = some v | _ => False, [])
  | .indexAddr t x i => (aindexAddr E.D t (ρ x) (ρ i) = some v, [])
  | .index t x i => (aindex E.D t (ρ x) (ρ i) = some v, [])
  | .slice t x lo hi mx => (aslice E.D t (ρ x) (lo.map ρ) (hi.map ρ) (mx.map ρ) = some v, [])
  | .binOp op t x y _ => (abin E.D E.eqT (isLit x || isLit y) op t (ρ x) (ρ y) = some v, [])
  | o => actCond P E nid ρ h o v h

/-- no call -/
def plainOp : Op → Bool
  | .call c => match c.callee with | .value _ => false | _ => true
  | _ => true

theorem aop_noCall {nid : Nat} {ρ : Operand → AVal} {h : AHeap} {o : Op} (hp : plainOp o = true) (call : ACall) : aop E noCall nid ρ h o = aop E call nid ρ h o := by
  cases o
  case call c =>
    simp only [plainOp] at hp
    cases hc : c.callee <;> simp only [hc] at hp <;> simp only [aop, hc]
    cases hp
  case makeFunc f a b => cases f <;> rfl
  all_goals rfl

theorem actCond_spec {nid : Nat} {ρ : Operand → AVal} {h : AHeap} {o : Op} {v : AVal} {h' : AHeap} (k : (actCond P E nid ρ h o v h').1) {call : ACall} (hc : ∀ c ∈ (actCond P E nid ρ h o v h').2, c.holds call) :
    aop E call nid ρ h o = some (v, h') := by
  cases o
  case call c =>
    simp only [actCond] at k hc
    split at k
    · rename_i f hf
      simp only [hf] at hc
      split at k
      · rename_i g fs cs hg
        simp only [hg] at hc
        simp only [aop, hf, hg, acallVal]
        exact hc _ (List.mem_singleton.2 rfl)
      · exact k.elim
    · rename_i b hb
      simp only [aop, hb]; exact k
    · exact k.elim
  all_goals exact (aop_noCall E rfl call).symm.trans k

theorem valCond_spec {nid : Nat} {ρ : Operand → AVal} {h : AHeap} {o : Op} {v : AVal} (k : (valCond P E nid ρ h o v).1) {call : ACall} (hc : ∀ c ∈ (valCond P E nid ρ h o v).2, c.holds call) :
    aop E call nid ρ h o = some (v, h) := by
  cases o
  case load t x =>
    simp only [valCond] at k
    split at k
    · rename_i a ha; simp only [aop, ha, k]; rfl
    · exact k.elim
  case indexAddr t x i => simp only [valCond] at k; simp only [aop, k]; rfl
  case index t x i => simp only [valCond] at k; simp only [aop, k]; rfl
  case slice t x lo hi mx => simp only [valCond] at k; simp only [aop, k]; rfl
  case binOp op t x y z => simp only [valCond] at k; simp only [aop, k]; rfl
  all_goals exact actCond_spec P E k hc

theorem actCond_does {nid : Nat} {ρ : Operand → AVal} {h : AHeap} {o : Op} {v : AVal} {h' : AHeap} (k : (actCond P E nid ρ h o v h').1) : ∀ c ∈ (actCond P E nid ρ h o v h').2, FDoes P c.f c.args c.h c.v c.h' := by
  cases o
  case call c0 =>
    simp only [actCond] at k ⊢
    cases hcc : c0.callee with
    | value f =>
      rw [hcc] at k
      simp only at k ⊢
      cases hf : ρ f with
      | func fn fs cs =>
        rw [hf] at k
        cases fn with
        | func g =>
          simp only at k ⊢
          intro c hc
          simp only [List.mem_singleton] at hc
          subst hc; exact k.does
        | _ => exact k.elim
      | _ => rw [hf] at k; exact k.elim
    | invoke r m => rw [hcc] at k; exact k.elim
    | builtin b => intro c hc; simp at hc
  all_goals (intro c hc; simp [actCond] at hc)

theorem valCond_does {nid : Nat} {ρ : Operand → AVal} {h : AHeap} {o : Op} {v : AVal} (k : (valCond P E nid ρ h o v).1) : ∀ c ∈ (valCond P E nid ρ h o v).2, FDoes P c.f c.args c.h c.v c.h' := by
  cases o
  case load t x => intro c hc; simp [valCond] at hc
  case indexAddr t x i => intro c hc; simp [valCond] at hc
  case index t x i => intro c hc; simp [valCond] at hc
  case slice t x lo hi mx => intro c hc; simp [valCond] at hc
  case binOp op t x y z => intro c hc; simp [valCond] at hc
  all_goals exact actCond_does P E k

def pguard (q : Nat) (ops : Array Oper) (F : Facts) (i : Nat) (o : Oper) (hs : List Hint) : Option (Bool × List Hint × List Prop) :=
  match o.guard with
  | none => some (true, hs, [])
  | some _ =>
    match hs with
    | .guard j b :: r => cond (Nat.beq (1000 * q + i) j) (some (b, r, [awantedF ops F o = some b])) (match awantedF ops F o with | some b => some (b, hs, []) | none => none)
    | _ => match awantedF ops F o with | some b => some (b, hs, []) | none => none

def All (l : List Prop) : Prop := ∀ p ∈ l, p

theorem All.head {p : Prop} {l : List Prop} (h : All (p :: l)) : p := h p (by simp)
theorem All.tail {p : Prop} {l : List Prop} (h : All (p :: l)) : All l := fun q hq => h q (by simp [hq])
theorem All.left {a b : List Prop} (h : All (a ++ b)) : All a := fun p hp => h p (by simp [hp])
theorem All.right {a b : List Prop} (h : All (a ++ b)) : All b := fun p hp => h p (by simp [hp])

theorem pguard_spec {q : Nat} {ops : Array Oper} {F : Facts} {i : Nat} {o : Oper} {hs hs' : List Hint} {b : Bool} {cs : List Prop} (h : pguard q ops F i o hs = some (b, hs', cs)) (hc : All cs) {s : List AVal} (hF : Has F s) : awanted ops s o = some b := by
  unfold pguard at h
  split at h
  · rename_i hg
    simp only [Option.some.injEq, Prod.mk.injEq] at h
    obtain ⟨rfl, _, _⟩ := h
    simp only [awanted, hg]
  · split at h
    · rename_i j b' r
      cases hb : Nat.beq (1000 * q + i) j
      · rw [hb, cond_false] at h
        split at h
        · rename_i b'' hb'
          simp only [Option.some.injEq, Prod.mk.injEq] at h
          obtain ⟨rfl, _, _⟩ := h
          exact awantedF_eq hF hb'
        · cases h
      · rw [hb, cond_true] at h
        simp only [Option.some.injEq, Prod.mk.injEq] at h
        obtain ⟨rfl, _, rfl⟩ := h
        exact awantedF_eq hF hc.head
    · split at h
      · rename_i b'' hb'
        simp only [Option.some.injEq, Prod.mk.injEq] at h
        obtain ⟨rfl, _, _⟩ := h
        exact awantedF_eq hF hb'
      · cases h

/-- what a region that draws asks beside -/
def drawCond (ops : Array Oper) (n0 i : Nat) (ρ : Operand → AVal) (h : AHeap) (o : Op) (h' : AHeap) : List Prop :=
  match cls o with
  | .load => match loadId ρ o with | some b => cond (Nat.blt b n0 || (Nat.blt b (n0 + ops.size) && (ordered (aheads ops) (b - n0) i && !looseStore ops (aheads ops) i))) [] [False] | none => [False]
  | .store => match storeId ρ o with | some b => cond (looseCall ops (aheads ops) i && Nat.blt b n0) [False] [] | none => [False]
  | .call => cond (looseCall ops (aheads ops) i) [sameOld (n0 + ops.size) h h' = true] []
  | _ => []

def isMem (o : Op) : Bool :=
  match cls o with
  | .load | .call => true
  | _ => false

/-- what comes of an operation: its answer, the memory, what is asked, the calls leant on -/
abbrev PRes := Option (AVal × AHeap × List Hint × List Prop × List CFact)

def popPlain (draw : Bool) (ops : Array Oper) (n0 i : Nat) (F : Facts) (h : AHeap) (o : Op) (hs : List Hint) : PRes :=
  cond (plainOp o)
    (match aop E noCall (n0 + i) (getF F) h o with
    | some (v, h') => some (v, h', hs, cond draw (drawCond ops n0 i (getF F) h o h') [], [])
    | none => none) none

def popHint (draw : Bool) (ops : Array Oper) (n0 i : Nat) (F : Facts) (h : AHeap) (o : Op) (x : Hint) (hs : List Hint) : PRes :=
  match x with
  | .val _ v => some (v, h, hs, (valCond P E (n0 + i) (getF F) h o v).1 :: cond draw (drawCond ops n0 i (getF F) h o h) [], (valCond P E (n0 + i) (getF F) h o v).2)
  | .act _ v g => some (v, g h, hs, (actCond P E (n0 + i) (getF F) h o v (g h)).1 :: cond draw (drawCond ops n0 i (getF F) h o (g h)) [], (actCond P E (n0 + i) (getF F) h o v (g h)).2)
  | .go _ =>
    match goOp E (n0 + i) (getF F) h o with
    | some (v, h', p) => some (v, h', hs, p :: cond draw (drawCond ops n0 i (getF F) h o h') [], [])
    | none => none
  | .ld _ e =>
    match ldOp E (getF F) h o e with
    | some (v, p) => some (v, h, hs, p :: cond draw (drawCond ops n0 i (getF F) h o h) [], [])
    | none => none
  | .st _ e =>
    match stOp E (getF F) h o e with
    | some (h', p) => some (skipped, h', hs, p :: cond draw (drawCond ops n0 i (getF F) h o h') [], [])
    | none => none
  | _ => none

def Hint.at : Hint → Option Nat
  | .val i _ => some i
  | .act i _ _ => some i
  | .go i => some i
  | .ld i _ => some i
  | .st i _ => some i
  | _ => none

def pop (q : Nat) (ops : Array Oper) (draw : Bool) (n0 i : Nat) (F : Facts) (h : AHeap) (o : Op) (hs : List Hint) : PRes :=
  match hs with
  | x :: r =>
    match x.at with
    | some j => cond (Nat.beq (1000 * q + i) j) (popHint P E draw ops n0 i F h o x r) (popPlain E draw ops n0 i F h o hs)
    | none => popPlain E draw ops n0 i F h o hs
  | [] => popPlain E draw ops n0 i F h o hs

def runOp (call : ACall) (ops : Array Oper) (draw : Bool) (n0 i : Nat) (ρ : Operand → AVal) (h : AHeap) (o : Op) : Option (AVal × AHeap) :=
  if draw then dop E call ops n0 i ρ h o else aop E call (n0 + i) ρ h o

theorem runOp_of {call : ACall} {ops : Array Oper} {draw : Bool} {n0 i : Nat} {ρ : Operand → AVal} {h h' : AHeap} {o : Op} {v : AVal} (ha : aop E call (n0 + i) ρ h o = some (v, h')) (hd : All (cond draw (drawCond ops n0 i ρ h o h') [])) :
    runOp E call ops draw n0 i ρ h o = some (v, h') := by
  unfold runOp
  cases draw with
  | false => exact ha
  | true =>
    have hd : All (drawCond ops n0 i ρ h o h') := hd
    simp only [if_true]
    unfold dop
    unfold drawCond at hd
    cases hcl : cls o <;> simp only [hcl] at hd ⊢ <;> try exact ha
    · split
      · rename_i b hb
        rw [hb] at hd
        simp only at hd
        cases hq : (Nat.blt b n0 || (Nat.blt b (n0 + ops.size) && (ordered (aheads ops) (b - n0) i && !looseStore ops (aheads ops) i))) with
        | false => rw [hq] at hd; exact hd.head.elim
        | true =>
          simp only [Bool.or_eq_true, Bool.and_eq_true, Bool.not_eq_true'] at hq
          rw [if_pos]
          · exact ha
          · rcases hq with hq | ⟨hq, hq', hq''⟩
            · exact .inl (Nat.blt_eq.mp hq)
            · exact .inr ⟨Nat.blt_eq.mp hq, hq', hq''⟩
      · rename_i hb; rw [hb] at hd; exact hd.head.elim
    · split
      · rename_i b hb
        rw [hb] at hd
        simp only at hd
        cases hq : (looseCall ops (aheads ops) i && Nat.blt b n0) with
        | true => rw [hq] at hd; exact hd.head.elim
        | false =>
          rw [if_neg]
          · exact ha
          · rintro ⟨h1, h2⟩
            rw [h1, Nat.blt_eq.mpr h2] at hq; cases hq
      · rename_i hb; rw [hb] at hd; exact hd.head.elim
    · simp only [ha]
      cases hl : looseCall ops (aheads ops) i with
      | false => simp
      | true =>
        rw [hl, cond_true] at hd
        simp only [if_true]
        rw [if_pos hd.head]

theorem popPlain_spec {ops : Array Oper} {draw : Bool} {n0 i : Nat} {F : Facts} {h h' : AHeap} {o : Op} {hs hs' : List Hint} {v : AVal} {cs : List Prop} {ks : List CFact} (hp : popPlain E draw ops n0 i F h o hs = some (v, h', hs', cs, ks)) (hc : All cs) (call : ACall) :
    runOp E call ops draw n0 i (getF F) h o = some (v, h') := by
  unfold popPlain at hp
  cases hb : plainOp o
  · rw [hb] at hp; cases hp
  · rw [hb, cond_true] at hp
    split at hp
    · rename_i v1 h1 ha
      simp only [Option.some.injEq, Prod.mk.injEq] at hp
      obtain ⟨rfl, rfl, _, rfl, _⟩ := hp
      exact runOp_of E ((aop_noCall E hb call).symm.trans ha) hc
    · cases hp

theorem popHint_spec {ops : Array Oper} {draw : Bool} {n0 i : Nat} {F : Facts} {h h' : AHeap} {o : Op} {x : Hint} {hs hs' : List Hint} {v : AVal} {cs : List Prop} {ks : List CFact} (hp : popHint P E draw ops n0 i F h o x hs = some (v, h', hs', cs, ks)) (hc : All cs) {call : ACall}
    (hk : ∀ c ∈ ks, c.holds call) : runOp E call ops draw n0 i (getF F) h o = some (v, h') := by
  unfold popHint at hp
  split at hp
  · simp only [Option.some.injEq, Prod.mk.injEq] at hp
    obtain ⟨rfl, rfl, _, rfl, rfl⟩ := hp
    exact runOp_of E (valCond_spec P E hc.head hk) hc.tail
  · simp only [Option.some.injEq, Prod.mk.injEq] at hp
    obtain ⟨rfl, rfl, _, rfl, rfl⟩ := hp
    exact runOp_of E (actCond_spec P E hc.head hk) hc.tail
  · split at hp
    · rename_i v1 h1 p hg
      simp only [Option.some.injEq, Prod.mk.injEq] at hp
      obtain ⟨rfl, rfl, _, rfl, _⟩ := hp
      exact runOp_of E (goOp_spec E hg hc.head call) hc.tail
    · cases hp
  · split at hp
    · rename_i v1 p hg
      simp only [Option.some.injEq, Prod.mk.injEq] at hp
      obtain ⟨rfl, rfl, _, rfl, _⟩ := hp
      exact runOp_of E (ldOp_spec E hg hc.head call) hc.tail
    · cases hp
  · split at hp
    · rename_i h1 p hg
      simp only [Option.some.injEq, Prod.mk.injEq] at hp
      obtain ⟨rfl, rfl, _, rfl, _⟩ := hp
      exact runOp_of E (stOp_spec E hg hc.head call) hc.tail
    · cases hp
  · cases hp

theorem pop_spec {q : Nat} {ops : Array Oper} {draw : Bool} {n0 i : Nat} {F : Facts} {h h' : AHeap} {o : Op} {hs hs' : List Hint} {v : AVal} {cs : List Prop} {ks : List CFact} (hp : pop P E q ops draw n0 i F h o hs = some (v, h', hs', cs, ks)) (hc : All cs) {call : ACall}
    (hk : ∀ c ∈ ks, c.holds call) : runOp E call ops draw n0 i (getF F) h o = some (v, h') := by
  unfold pop at hp
  split at hp
  · split at hp
    · rename_i j hj
      cases hb : Nat.beq (1000 * q + i) j
      · rw [hb, cond_false] at hp; exact popPlain_spec E hp hc call
      · rw [hb, cond_true] at hp; exact popHint_spec P E hp hc hk
    · exact popPlain_spec E hp hc call
  · exact popPlain_spec E hp hc call

theorem pop_does {q : Nat} {ops : Array Oper} {draw : Bool} {n0 i : Nat} {F : Facts} {h h' : AHeap} {o : Op} {hs hs' : List Hint} {v : AVal} {cs : List Prop} {ks : List CFact} (hp : pop P E q ops draw n0 i F h o hs = some (v, h', hs', cs, ks)) (hc : All cs) :
    ∀ c ∈ ks, FDoes P c.f c.args c.h c.v c.h' := by
  have plain : ∀ {hs0 : List Hint}, popPlain E draw ops n0 i F h o hs0 = some (v, h', hs', cs, ks) → ∀ c ∈ ks, FDoes P c.f c.args c.h c.v c.h' := by
    intro hs0 hp
    unfold popPlain at hp
    cases hb : plainOp o
    · rw [hb] at hp; cases hp
    · rw [hb, cond_true] at hp
      split at hp
      · simp only [Option.some.injEq, Prod.mk.injEq] at hp
        obtain ⟨_, _, _, _, rfl⟩ := hp
        intro c hc; simp at hc
      · cases hp
  unfold pop at hp
  split at hp
  · split at hp
    · rename_i j hj
      cases hb : Nat.beq (1000 * q + i) j
      · rw [hb, cond_false] at hp; exact plain hp
      · rw [hb, cond_true] at hp
        unfold popHint at hp
        split at hp
        · simp only [Option.some.injEq, Prod.mk.injEq] at hp
          obtain ⟨rfl, rfl, _, rfl, rfl⟩ := hp
          exact valCond_does P E hc.head
        · simp only [Option.some.injEq, Prod.mk.injEq] at hp
          obtain ⟨rfl, rfl, _, rfl, rfl⟩ := hp
          exact actCond_does P E hc.head
        all_goals first
          | (split at hp
             · simp only [Option.some.injEq, Prod.mk.injEq] at hp
               obtain ⟨_, _, _, _, rfl⟩ := hp
               intro c hc; simp at hc
             · cases hp)
          | cases hp
    · exact plain hp
  · exact plain hp

def ltDst (n : Nat) (o : Oper) : Bool :=
  match o.dst with
  | some d => Nat.blt d n
  | none => true

def prun (q : Nat) (ops : Array Oper) (draw : Bool) (n n0 : Nat) : List Oper → Nat → Facts → AHeap → List Hint → Option (Facts × AHeap × List Hint × List Prop × List CFact)
  | [], _, F, h, hs => some (F, h, hs, [], [])
  | o :: r, i, F, h, hs =>
    cond (ltDst n o)
    (match pguard q ops F i o hs with
    | some (true, hs1, c1) =>
      cond (o.op.operands.toList.all (knownF F))
      (match pop P E q ops draw n0 i F h o.op hs1 with
      | some (v, h', hs2, c2, k2) =>
        match prun q ops draw n n0 r (i + 1) (setF F o.dst v) h' hs2 with
        | some (F', h'', hs3, c3, k3) => some (F', h'', hs3, c1 ++ (c2 ++ c3), k2 ++ k3)
        | none => none
      | none => none) none
    | some (false, hs1, c1) =>
      match prun q ops draw n n0 r (i + 1) (setF F o.dst skipped) h hs1 with
      | some (F', h'', hs3, c3, k3) => some (F', h'', hs3, c1 ++ c3, k3)
      | none => none
    | none => none) none

def runL (E : AEnv) (call : ACall) (ops : Array Oper) (draw : Bool) (n0 : Nat) (l : List Nat) (s : ASt) : Option ASt :=
  if draw then drun E call ops n0 l s else arun E call ops n0 l s

theorem runL_cons_true {call : ACall} {ops : Array Oper} {draw : Bool} {n0 i : Nat} {l : List Nat} {s : List AVal} {h h' : AHeap} {o : Oper} {v : AVal} (ho : ops[i]? = some o) (hw : awanted ops s o = some true)
    (ha : runOp E call ops draw n0 i (agetOp s) h o.op = some (v, h')) : runL E call ops draw n0 (i :: l) ⟨s, h⟩ = runL E call ops draw n0 l ⟨aput s o.dst v, h'⟩ := by
  unfold runL runOp at *
  cases draw with
  | false => simp only [Bool.false_eq_true, if_false] at ha ⊢; simp only [arun, astep, ho, hw, ha]
  | true => simp only [if_true] at ha ⊢; simp only [drun, dstep, ho, hw, ha]

theorem runL_cons_false {call : ACall} {ops : Array Oper} {draw : Bool} {n0 i : Nat} {l : List Nat} {s : List AVal} {h : AHeap} {o : Oper} (ho : ops[i]? = some o) (hw : awanted ops s o = some false) :
    runL E call ops draw n0 (i :: l) ⟨s, h⟩ = runL E call ops draw n0 l ⟨aput s o.dst skipped, h⟩ := by
  unfold runL
  cases draw with
  | false => simp only [Bool.false_eq_true, if_false, arun, astep, ho, hw]
  | true => simp only [if_true, drun, dstep, ho, hw]

theorem length_aput (s : List AVal) (d : Option Tmp) (v : AVal) : (aput s d v).length = s.length := by cases d <;> simp [aput]

theorem prun_spec {q : Nat} {ops : Array Oper} {draw : Bool} {n n0 : Nat} : ∀ (l : List Oper) (i : Nat) (F : Facts) (h : AHeap) (hs : List Hint) {F' : Facts} {h' : AHeap} {hs' : List Hint} {cs : List Prop} {ks : List CFact}, (∀ j, l[j]? = ops[i + j]?) →
    prun P E q ops draw n n0 l i F h hs = some (F', h', hs', cs, ks) → All cs → ∀ call : ACall, (∀ c ∈ ks, c.holds call) → ∀ s : List AVal, s.length = n → Has F s → ∃ s', s'.length = n ∧ Has F' s' ∧
      runL E call ops draw n0 (List.range' i l.length) ⟨s, h⟩ = some ⟨s', h'⟩
  | [], i, F, h, hs, F', h', hs', cs, ks, hl, hp, hc, call, hk, s, hn, hF => by
    simp only [prun, Option.some.injEq, Prod.mk.injEq] at hp
    obtain ⟨rfl, rfl, _, _⟩ := hp
    exact ⟨s, hn, hF, by unfold runL; cases draw <;> rfl⟩
  | o :: r, i, F, h, hs, F', h', hs', cs, ks, hl, hp, hc, call, hk, s, hn, hF => by
    have ho : ops[i]? = some o := by have := hl 0; simpa using this.symm
    have hr : ∀ j, r[j]? = ops[i + 1 + j]? := fun j => by have := hl (j + 1); simp at this; rw [this]; congr 1; omega
    simp only [prun] at hp
    cases hd : ltDst n o with
    | false => rw [hd] at hp; cases hp
    | true =>
      rw [hd, cond_true] at hp
      have hdst : ∀ t, o.dst = some t → t < s.length := by
        intro t ht
        unfold ltDst at hd
        rw [ht] at hd
        rw [hn]; exact Nat.blt_eq.mp hd
      rw [List.length_cons, List.range'_succ]
      split at hp
      · rename_i hs1 c1 hg
        cases hall : o.op.operands.toList.all (knownF F) with
        | false => rw [hall] at hp; cases hp
        | true =>
          rw [hall, cond_true] at hp
          split at hp
          · rename_i v h1 hs2 c2 k2 hpop
            split at hp
            · rename_i F1 h2 hs3 c3 k3 hrun
              simp only [Option.some.injEq, Prod.mk.injEq] at hp
              obtain ⟨rfl, rfl, _, rfl, rfl⟩ := hp
              have hw := pguard_spec hg hc.left hF
              have ha1 := pop_spec P E hpop hc.right.left (call := call) fun c h => hk c (by simp [h])
              obtain ⟨s', k1, k2', hm2⟩ := prun_spec r (i + 1) _ _ _ hr hrun hc.right.right call (fun c h => hk c (by simp [h])) (aput s o.dst v) (by rw [length_aput]; exact hn) (hF.set hdst v)
              refine ⟨s', k1, k2', ?_⟩
              have heq : runOp E call ops draw n0 i (agetOp s) h o.op = some (v, h1) := by
                rw [← ha1]
                have hcg : ∀ x ∈ o.op.operands.toList, agetOp s x = getF F x := fun x hx => (hF.get (List.all_eq_true.1 hall x hx)).symm
                have h0 : ∀ nid, aop E call nid (agetOp s) h o.op = aop E call nid (getF F) h o.op := fun nid => aop_congr hcg
                have hlo : loadId (agetOp s) o.op = loadId (getF F) o.op := by
                  cases hoo : o.op <;> simp only [loadId]
                  rename_i t x
                  rw [hoo] at hcg
                  rw [hcg x (by simp [Op.operands])]
                have hso : storeId (agetOp s) o.op = storeId (getF F) o.op := by
                  cases hoo : o.op <;> simp only [storeId]
                  rename_i t x y
                  rw [hoo] at hcg
                  rw [hcg x (by simp [Op.operands])]
                unfold runOp dop
                simp only [h0, hlo, hso]
              exact (runL_cons_true E ho hw heq).trans hm2
            · cases hp
          · cases hp
      · rename_i hs1 c1 hg
        split at hp
        · rename_i F1 h2 hs3 c3 k3 hrun
          simp only [Option.some.injEq, Prod.mk.injEq] at hp
          obtain ⟨rfl, rfl, _, rfl, rfl⟩ := hp
          have hw := pguard_spec hg hc.left hF
          obtain ⟨s', k1, k2, hm2⟩ := prun_spec r (i + 1) _ _ _ hr hrun hc.right call hk (aput s o.dst skipped) (by rw [length_aput]; exact hn) (hF.set hdst skipped)
          exact ⟨s', k1, k2, (runL_cons_false E ho hw).trans hm2⟩
        · cases hp
      · cases hp

theorem prun_does {q : Nat} {ops : Array Oper} {draw : Bool} {n n0 : Nat} : ∀ (l : List Oper) (i : Nat) (F : Facts) (h : AHeap) (hs : List Hint) {F' : Facts} {h' : AHeap} {hs' : List Hint} {cs : List Prop} {ks : List CFact},
    prun P E q ops draw n n0 l i F h hs = some (F', h', hs', cs, ks) → All cs → ∀ c ∈ ks, FDoes P c.f c.args c.h c.v c.h'
  | [], i, F, h, hs, F', h', hs', cs, ks, hp, hc => by
    simp only [prun, Option.some.injEq, Prod.mk.injEq] at hp
    obtain ⟨_, _, _, _, rfl⟩ := hp
    intro c hc; simp at hc
  | o :: r, i, F, h, hs, F', h', hs', cs, ks, hp, hc => by
    simp only [prun] at hp
    cases hd : ltDst n o with
    | false => rw [hd] at hp; cases hp
    | true =>
      rw [hd, cond_true] at hp
      split at hp
      · rename_i hs1 c1 hg
        cases hall : o.op.operands.toList.all (knownF F) with
        | false => rw [hall] at hp; cases hp
        | true =>
          rw [hall, cond_true] at hp
          split at hp
          · rename_i v h1 hs2 c2 k2 hpop
            split at hp
            · rename_i F1 h2 hs3 c3 k3 hrun
              simp only [Option.some.injEq, Prod.mk.injEq] at hp
              obtain ⟨rfl, rfl, _, rfl, rfl⟩ := hp
              intro c hm
              rcases List.mem_append.1 hm with hm | hm
              · exact pop_does P E hpop hc.right.left c hm
              · exact prun_does r (i + 1) _ _ _ hrun hc.right.right c hm
            · cases hp
          · cases hp
      · rename_i hs1 c1 hg
        split at hp
        · rename_i F1 h2 hs3 c3 k3 hrun
          simp only [Option.some.injEq, Prod.mk.injEq] at hp
          obtain ⟨rfl, rfl, _, rfl, rfl⟩ := hp
          exact prun_does r (i + 1) _ _ _ hrun hc.right
        · cases hp
      · cases hp

/-! the calls of a region -/

/-- two that ask the same are told the same -/
structure Agree (a b : List AVal) (h k : AHeap) (v u : AVal) (h' k' : AHeap) : Prop where
  agree : a = b → h = k → v = u ∧ h' = k'
def clash (a b : CFact) : List Prop := cond (Nat.beq a.f b.f) [Agree a.args b.args a.h b.h a.v b.v a.h' b.h'] []

def clashes : List CFact → List Prop
  | [] => []
  | a :: r => r.flatMap (clash a) ++ clashes r

open Classical in
def callK : List CFact → ACall
  | [], _, _, _ => none
  | k :: r, f, args, h => if k.f = f ∧ k.args = args ∧ k.h = h then some (k.v, k.h') else callK r f args h

theorem callK_mem : ∀ {ks : List CFact} {f : FuncId} {args : List AVal} {h : AHeap} {v : AVal} {h' : AHeap}, callK ks f args h = some (v, h') → ∃ k ∈ ks, k.f = f ∧ k.args = args ∧ k.h = h ∧ k.v = v ∧ k.h' = h'
  | [], f, args, h, v, h', hc => by cases hc
  | k :: r, f, args, h, v, h', hc => by
    simp only [callK] at hc
    split at hc
    · rename_i e
      simp only [Option.some.injEq, Prod.mk.injEq] at hc
      exact ⟨k, by simp, e.1, e.2.1, e.2.2, hc.1, hc.2⟩
    · obtain ⟨k', hm, q⟩ := callK_mem hc
      exact ⟨k', by simp [hm], q⟩

theorem callK_holds : ∀ {ks : List CFact}, All (clashes ks) → ∀ c ∈ ks, c.holds (callK ks)
  | [], _, c, hc => by simp at hc
  | k :: r, hu, c, hc => by
    simp only [clashes] at hu
    unfold CFact.holds
    simp only [callK]
    split
    · rename_i e
      rcases List.mem_cons.1 hc with rfl | hm
      · rfl
      · have := hu.left
        have hq : k.v = c.v ∧ k.h' = c.h' := by
          have h1 : Agree k.args c.args k.h c.h k.v c.v k.h' c.h' := this _ (List.mem_flatMap.2 ⟨c, hm, by unfold clash; rw [beq_true e.1]; simp⟩)
          exact h1.agree e.2.1 e.2.2
        rw [hq.1, hq.2]
    · rename_i e
      rcases List.mem_cons.1 hc with rfl | hm
      · exact absurd ⟨rfl, rfl, rfl⟩ e
      · exact callK_holds hu.right c hm

theorem callK_ok {ks : List CFact} (hk : ∀ c ∈ ks, FDoes P c.f c.args c.h c.v c.h') {N0 : Nat → Prop} {w0 : World} (hN : Low N0 w0.heap.size) : CallOk P N0 w0 (callK ks) := by
  intro f args h v h' hc φ w args' hH hB hA
  obtain ⟨k, hm, rfl, rfl, rfl, rfl, rfl⟩ := callK_mem hc
  exact hk k hm N0 w0 hN φ w args' hH hB hA

def pexec (base : Nat) (R : Code → Facts → AHeap → AExit → Facts → AHeap → Prop) (n : Nat) : Nat → Option Code → Code → Facts → AHeap → List Hint → Option (AExit × Facts × AHeap × List Hint × List Prop)
  | 0, _, _, _, _, _ => none
  | k + 1, some body, c, F, h, hs =>
    match pexec base R n k none c F h hs with
    | some (.goto l, F1, h1, hs1, c1) =>
      match findLabel body l with
      | some rest =>
        match pexec base R n k (some body) rest F1 h1 hs1 with
        | some (e, F2, h2, hs2, c2) => some (e, F2, h2, hs2, c1 ++ c2)
        | none => none
      | none => some (.goto l, F1, h1, hs1, c1)
    | r => r
  | k + 1, none, c, F, h, hs =>
    match c with
    | .skip => some (.normal, F, h, hs, [])
    | .label _ => some (.normal, F, h, hs, [])
    | .region q ops draw =>
      cond (Nat.ble base h.next && (!draw || drawOk ops))
      (match prun P E q ops draw n h.next ops.toList 0 F { h with next := h.next + ops.size } hs with
      | some (F1, h1, hs1, c1, k1) => some (.normal, F1, h1, hs1, c1 ++ clashes k1)
      | none => none) none
    | .seq a b =>
      match pexec base R n k none a F h hs with
      | some (.normal, F1, h1, hs1, c1) =>
        match pexec base R n k none b F1 h1 hs1 with
        | some (e, F2, h2, hs2, c2) => some (e, F2, h2, hs2, c1 ++ c2)
        | none => none
      | r => r
    | .cond x a b =>
      match hs with
      | .cut F1 h1 e :: r => some (e, F1, h1, r, [R (.cond x a b) F h e F1 h1])
      | .test t q :: r =>
        match x with
        | .tmp t' =>
          cond (Nat.beq t t' && knownF F (.tmp t'))
          (match pexec base R n k none (cond q a b) F h r with
          | some (e, F2, h2, hs2, c2) => some (e, F2, h2, hs2, (getF F x = .bool q) :: c2)
          | none => none) none
        | _ => none
      | _ =>
        cond (knownF F x)
        (match getF F x with
        | .bool true => pexec base R n k none a F h hs
        | .bool false => pexec base R n k none b F h hs
        | _ => none) none
    | .block id c =>
      match hs with
      | .cut F1 h1 e :: r => some (e, F1, h1, r, [R (.block id c) F h e F1 h1])
      | _ =>
        match pexec base R n k none c F h hs with
        | some (.exit j, F1, h1, hs1, c1) => some (cond (Nat.beq j id) .normal (.exit j), F1, h1, hs1, c1)
        | r => r
    | .loop c =>
      match hs with
      | .keep l :: .loop F1 h1 e :: r => some (e, F1, h1, r, [R (.loop c) (onlyF F l) h e F1 h1])
      | .loop F1 h1 e :: r => some (e, F1, h1, r, [R (.loop c) F h e F1 h1])
      | _ => none
    | .scope c => pexec base R n k (some c) c F h hs
    | .goto l => some (.goto l, F, h, hs, [])
    | .exit id => some (.exit id, F, h, hs, [])
    | .ret => some (.ret, F, h, hs, [])
    | _ => none
end
end
end Go.Lift

namespace Go.Lift
noncomputable section
open Go.RowKit
set_option linter.unusedVariables false
set_option linter.unusedSimpArgs false
section
variable {P : Program} {E : AEnv}

/-- the model stands as the facts and the rows tell -/
def FRel (φ : Map) (S : Nat → Prop) (w0 : World) (n : Nat) (F : Facts) (h : AHeap) (a : Act) (w : World) : Prop := ∃ s : List AVal, s.length = n ∧ Has F s ∧ SRel φ S w0 ⟨s, h⟩ a w

/-- a claim about code: from such a state such an end -/
def Tri (P : Program) (base n : Nat) (goal : (Exit → Act → World → Prop) → Act → World → Prop) (F : Facts) (h : AHeap) (e : AExit) (F' : Facts) (h' : AHeap) : Prop :=
  ∀ (S : Nat → Prop) (w0 : World), Low S w0.heap.size → ∀ (φ0 φ : Map) (a : Act) (w : World), (∀ i v p, φ0 i v = some p → i < base) → Keep φ0 φ base → FRel φ S w0 n F h a w →
    ∀ Q : Exit → Act → World → Prop, (∀ φ' a' w', Keep φ0 φ' base → FRel φ' S w0 n F' h' a' w' → Q (toExit e) a' w') → goal Q a w

def Runs (P : Program) (base n : Nat) (c : Code) (F : Facts) (h : AHeap) (e : AExit) (F' : Facts) (h' : AHeap) : Prop := Tri P base n (fun Q a w => c.wp P Q a w) F h e F' h'
def Loops (P : Program) (base n : Nat) (c : Code) (F : Facts) (h : AHeap) (e : AExit) (F' : Facts) (h' : AHeap) : Prop := Tri P base n (fun Q a w => LoopW P c Q a w) F h e F' h'

def goalOf (P : Program) (body : Option Code) (c : Code) : (Exit → Act → World → Prop) → Act → World → Prop :=
  match body with
  | none => fun Q a w => c.wp P Q a w
  | some b => fun Q a w => ScopeW P b c Q a w

theorem Runs.of_loops {base n : Nat} {c : Code} {F F' : Facts} {h h' : AHeap} {e : AExit} (k : Loops P base n c F h e F' h') : Runs P base n (.loop c) F h e F' h' :=
  fun S w0 hS φ0 φ a w h0 hk r Q hQ => wp_of_loopW (k S w0 hS φ0 φ a w h0 hk r Q hQ)

theorem Loops.step {base n : Nat} {c : Code} {F F1 F2 : Facts} {h h1 h2 : AHeap} {e : AExit} (k1 : Runs P base n c F h .normal F1 h1) (k2 : Loops P base n c F1 h1 e F2 h2) : Loops P base n c F h e F2 h2 :=
  fun S w0 hS φ0 φ a w h0 hk r Q hQ => loopW_round (k1 S w0 hS φ0 φ a w h0 hk r _ fun φ' a' w' hk' r' => k2 S w0 hS φ0 φ' a' w' h0 hk' r' Q hQ)

theorem Loops.last {base n : Nat} {c : Code} {F F1 : Facts} {h h1 : AHeap} {e : AExit} (he : e ≠ .normal) (k1 : Runs P base n c F h e F1 h1) : Loops P base n c F h e F1 h1 :=
  fun S w0 hS φ0 φ a w h0 hk r Q hQ => loopW_round (k1 S w0 hS φ0 φ a w h0 hk r _ fun φ' a' w' hk' r' => by
    have := hQ φ' a' w' hk' r'
    cases e with
    | normal => exact absurd rfl he
    | _ => exact this)

/-- from one way to tell the state to another -/
def Ent (base n : Nat) (F : Facts) (h : AHeap) (F1 : Facts) (h1 : AHeap) : Prop :=
  ∀ (S : Nat → Prop) (w0 : World) (φ0 φ : Map) (a : Act) (w : World), (∀ i v p, φ0 i v = some p → i < base) → Keep φ0 φ base → FRel φ S w0 n F h a w → ∃ φ1, Keep φ0 φ1 base ∧ FRel φ1 S w0 n F1 h1 a w

theorem Tri.pre {base n : Nat} {goal : (Exit → Act → World → Prop) → Act → World → Prop} {F G F' : Facts} {h g h' : AHeap} {e : AExit} (k : Tri P base n goal F h e F' h') (i : Ent base n G g F h) : Tri P base n goal G g e F' h' :=
  fun S w0 hS φ0 φ a w h0 hk r Q hQ => by
    obtain ⟨φ1, hk1, r1⟩ := i S w0 φ0 φ a w h0 hk r
    exact k S w0 hS φ0 φ1 a w h0 hk1 r1 Q hQ

theorem Tri.post {base n : Nat} {goal : (Exit → Act → World → Prop) → Act → World → Prop} {F F' G' : Facts} {h h' g' : AHeap} {e : AExit} (k : Tri P base n goal F h e F' h') (i : Ent base n F' h' G' g') : Tri P base n goal F h e G' g' :=
  fun S w0 hS φ0 φ a w h0 hk r Q hQ => k S w0 hS φ0 φ a w h0 hk r Q fun φ' a' w' hk' r' => by
    obtain ⟨φ1, hk1, r1⟩ := i S w0 φ0 φ' a' w' h0 hk' r'
    exact hQ φ1 a' w' hk1 r1

/-- are the facts of G among those of F? -/
def Facts.le (G F : Facts) : Prop := ∀ t v, lookF G t = some v → lookF F t = some v

theorem Facts.le_refl (F : Facts) : Facts.le F F := fun _ _ h => h
theorem Facts.only_le (F : Facts) (l : List Nat) : Facts.le (onlyF F l) F := fun _ _ h => lookF_only h

theorem Ent.facts {base n : Nat} {F G : Facts} {h : AHeap} (k : Facts.le G F) : Ent base n F h G h :=
  fun S w0 φ0 φ a w h0 hk ⟨s, hn, hF, r⟩ => ⟨φ, hk, s, hn, fun t v hv => hF t v (k t v hv), r⟩

theorem pexec_spec (hE : EnvOk P E) (hmix : P.follows .mixedOrders = true) {base n : Nat} : ∀ (k : Nat) (body : Option Code) (c : Code) (F : Facts) (h : AHeap) (hs : List Hint) {e : AExit} {F' : Facts} {h' : AHeap} {hs' : List Hint} {cs : List Prop},
    pexec P E base (Runs P base n) n k body c F h hs = some (e, F', h', hs', cs) → All cs → Tri P base n (goalOf P body c) F h e F' h' := by
  intro k
  induction k with
  | zero => intro body c F h hs e F' h' hs' cs hp; cases hp
  | succ k ih =>
    intro body c F h hs e F' h' hs' cs hp hc
    cases body with
    | some body =>
      simp only [pexec] at hp
      split at hp
      · rename_i l F1 h1 hs1 c1 hx
        split at hp
        · rename_i rest hl
          split at hp
          · rename_i e2 F2 h2 hs2 c2 hy
            simp only [Option.some.injEq, Prod.mk.injEq] at hp
            obtain ⟨rfl, rfl, rfl, _, rfl⟩ := hp
            intro S w0 hS φ0 φ a w h0 hk r Q hQ
            refine scopeW_of_wp (ih none c F h hs hx hc.left S w0 hS φ0 φ a w h0 hk r _ fun φ' a' w' hk' r' => ?_)
            show scopePost P body Q (.goto l) a' w'
            simp only [scopePost, hl]
            exact ih (some body) rest F1 h1 hs1 hy hc.right S w0 hS φ0 φ' a' w' h0 hk' r' Q hQ
          · cases hp
        · rename_i hl
          simp only [Option.some.injEq, Prod.mk.injEq] at hp
          obtain ⟨rfl, rfl, rfl, _, rfl⟩ := hp
          intro S w0 hS φ0 φ a w h0 hk r Q hQ
          refine scopeW_of_wp (ih none c F h hs hx hc S w0 hS φ0 φ a w h0 hk r _ fun φ' a' w' hk' r' => ?_)
          show scopePost P body Q (.goto l) a' w'
          simp only [scopePost, hl]
          exact hQ φ' a' w' hk' r'
      · rename_i hx
        intro S w0 hS φ0 φ a w h0 hk r Q hQ
        refine scopeW_of_wp (ih none c F h hs hp hc S w0 hS φ0 φ a w h0 hk r _ fun φ' a' w' hk' r' => ?_)
        have := hQ φ' a' w' hk' r'
        cases e with
        | goto l => exact absurd hp (hx l F' h' hs' cs)
        | _ => exact this
    | none =>
      have stop : ∀ {e0 : AExit}, (∀ (Q : Exit → Act → World → Prop) (a : Act) (w : World), Q (toExit e0) a w → c.wp P Q a w) → some (e0, F, h, hs, ([] : List Prop)) = some (e, F', h', hs', cs) → Tri P base n (goalOf P none c) F h e F' h' := by
        intro e0 h0 hp
        simp only [Option.some.injEq, Prod.mk.injEq] at hp
        obtain ⟨rfl, rfl, rfl, _, _⟩ := hp
        intro S w0 hS φ0 φ a w hd hk r Q hQ
        exact h0 Q a w (hQ φ a w hk r)
      cases c
      case skip => exact stop (e0 := .normal) (fun _ _ _ hq => wp_skip hq) hp
      case label l => exact stop (e0 := .normal) (fun _ _ _ hq => wp_label hq) hp
      case goto l => exact stop (e0 := .goto l) (fun _ _ _ hq => wp_goto hq) hp
      case exit id => exact stop (e0 := .exit id) (fun _ _ _ hq => wp_exit hq) hp
      case ret => exact stop (e0 := .ret) (fun _ _ _ hq => wp_ret hq) hp
      case region id ops draw =>
        simp only [pexec] at hp
        cases hd : (Nat.ble base h.next && (!draw || drawOk ops)) with
        | false => rw [hd] at hp; cases hp
        | true =>
          rw [hd, cond_true] at hp
          split at hp
          · rename_i F1 h1 hs1 c1 k1 hr
            simp only [Option.some.injEq, Prod.mk.injEq] at hp
            obtain ⟨rfl, rfl, rfl, _, rfl⟩ := hp
            simp only [Bool.and_eq_true, Bool.or_eq_true] at hd
            obtain ⟨hb, hd⟩ := hd
            have hb : base ≤ h.next := Nat.le_of_ble_eq_true hb
            intro S w0 hS φ0 φ a w h0 hk ⟨s, hn, hF, r⟩ Q hQ
            have hl : ∀ j : Nat, ops.toList[j]? = ops[0 + j]? := fun j => by simp
            have hkd := prun_does P E ops.toList 0 F _ hs hr hc.left
            obtain ⟨s', g1, g2, hm'⟩ := prun_spec P E ops.toList 0 F _ hs hl hr hc.left (callK k1) (callK_holds hc.right) s hn hF
            have hrg : List.range' 0 ops.toList.length = List.range ops.size := by rw [List.range_eq_range', Array.length_toList]
            rw [hrg] at hm'
            have hreg : aregion E (callK k1) ops draw ⟨s, h⟩ = some ⟨s', h1⟩ := by
              unfold aregion
              unfold runL at hm'
              cases draw with
              | false => simpa using hm'
              | true =>
                have hd : drawOk ops = true := by simpa using hd
                simp only [if_true, hd]
                simpa using hm'
            exact aregion_sound hE hS (callK_ok P hkd hS) hmix r hreg fun a' w' φ' q1 q2 q3 => hQ φ' a' w' (hk.trans (q1.mono hb)) ⟨s', g1, g2, q2⟩
          · cases hp
      case seq x y =>
        simp only [pexec] at hp
        split at hp
        · rename_i F1 h1 hs1 c1 hx
          split at hp
          · rename_i e2 F2 h2 hs2 c2 hy
            simp only [Option.some.injEq, Prod.mk.injEq] at hp
            obtain ⟨rfl, rfl, rfl, _, rfl⟩ := hp
            intro S w0 hS φ0 φ a w h0 hk r Q hQ
            exact wp_seq (ih none x F h hs hx hc.left S w0 hS φ0 φ a w h0 hk r _ fun φ' a' w' hk' r' => ih none y F1 h1 hs1 hy hc.right S w0 hS φ0 φ' a' w' h0 hk' r' Q hQ)
          · cases hp
        · rename_i hx
          intro S w0 hS φ0 φ a w h0 hk r Q hQ
          refine wp_seq (ih none x F h hs hp hc S w0 hS φ0 φ a w h0 hk r _ fun φ' a' w' hk' r' => ?_)
          have := hQ φ' a' w' hk' r'
          cases e with
          | normal => exact absurd hp (hx F' h' hs' cs)
          | _ => exact this
      case cond x y z =>
        have go : ∀ {q : Bool} {c2 : List Prop} {hs2 : List Hint}, getF F x = .bool q → knownF F x = true → pexec P E base (Runs P base n) n k none (cond q y z) F h hs2 = some (e, F', h', hs', c2) → All c2 → Tri P base n (goalOf P none (.cond x y z)) F h e F' h' := by
          intro q c2 hs2 hq hk' hp hc
          intro S w0 hS φ0 φ a w h0 hk r Q hQ
          have hw := ih none (cond q y z) F h hs2 hp hc S w0 hS φ0 φ a w h0 hk r Q hQ
          obtain ⟨s, hn, hF, r⟩ := r
          have hx := r.eval x
          simp only at hx
          rw [← hF.get hk', hq] at hx
          simp only [VRel] at hx
          cases q
          · exact wp_cond_false hx hw
          · exact wp_cond_true hx hw
        simp only [pexec] at hp
        split at hp
        · simp only [Option.some.injEq, Prod.mk.injEq] at hp
          obtain ⟨rfl, rfl, rfl, _, rfl⟩ := hp
          exact hc.head
        · rename_i t q r
          split at hp
          · rename_i t'
            cases hk : (Nat.beq t t' && knownF F (.tmp t')) with
            | false => rw [hk] at hp; cases hp
            | true =>
              rw [hk, cond_true] at hp
              split at hp
              · rename_i e2 F2 h2 hs2 c2 hy
                simp only [Option.some.injEq, Prod.mk.injEq] at hp
                obtain ⟨rfl, rfl, rfl, rfl, rfl⟩ := hp
                simp only [Bool.and_eq_true] at hk
                have hrest : All c2 := fun p hp => hc p (by simp [hp])
                exact go (q := q) hc.head hk.2 hy hrest
              · cases hp
          · cases hp
        · cases hk : knownF F x with
          | false => rw [hk] at hp; cases hp
          | true =>
            rw [hk, cond_true] at hp
            split at hp
            · rename_i hq; exact go (q := true) hq hk hp hc
            · rename_i hq; exact go (q := false) hq hk hp hc
            · cases hp
      case block id c =>
        simp only [pexec] at hp
        split at hp
        · simp only [Option.some.injEq, Prod.mk.injEq] at hp
          obtain ⟨rfl, rfl, rfl, _, rfl⟩ := hp
          exact hc.head
        · split at hp
          · rename_i j F1 h1 hs1 c1 hx
            simp only [Option.some.injEq, Prod.mk.injEq] at hp
            obtain ⟨rfl, rfl, rfl, _, rfl⟩ := hp
            intro S w0 hS φ0 φ a w h0 hk r Q hQ
            refine wp_block (ih none c F h hs hx hc S w0 hS φ0 φ a w h0 hk r _ fun φ' a' w' hk' r' => ?_)
            have := hQ φ' a' w' hk' r'
            simp only [toExit, Exit.inBlock]
            rcases beq_cases j id with ⟨hj, ej⟩ | ⟨hj, ej⟩
            · rw [ej, cond_true] at this; rw [if_pos hj]; exact this
            · rw [ej, cond_false] at this; rw [if_neg hj]; exact this
          · rename_i hx
            intro S w0 hS φ0 φ a w h0 hk r Q hQ
            refine wp_block (ih none c F h hs hp hc S w0 hS φ0 φ a w h0 hk r _ fun φ' a' w' hk' r' => ?_)
            have := hQ φ' a' w' hk' r'
            cases e with
            | exit j => exact absurd hp (hx j F' h' hs' cs)
            | _ => exact this
      case loop c =>
        simp only [pexec] at hp
        split at hp
        · rename_i l F1 h1 e1 r1
          simp only [Option.some.injEq, Prod.mk.injEq] at hp
          obtain ⟨rfl, rfl, rfl, _, rfl⟩ := hp
          have hx : Tri P base n (goalOf P none (.loop c)) (onlyF F l) h e1 F1 h1 := hc.head
          exact hx.pre (Ent.facts fun t v hv => lookF_only hv)
        · simp only [Option.some.injEq, Prod.mk.injEq] at hp
          obtain ⟨rfl, rfl, rfl, _, rfl⟩ := hp
          exact hc.head
        · cases hp
      case scope c =>
        simp only [pexec] at hp
        intro S w0 hS φ0 φ a w h0 hk r Q hQ
        exact wp_of_scopeW (ih (some c) c F h hs hp hc S w0 hS φ0 φ a w h0 hk r Q hQ)
      all_goals cases hp

theorem pexec_runs (hE : EnvOk P E) (hmix : P.follows .mixedOrders = true) {base n k : Nat} {c : Code} {F : Facts} {h : AHeap} {hs : List Hint} {e : AExit} {F' : Facts} {h' : AHeap} {hs' : List Hint} {cs : List Prop}
    (hp : pexec P E base (Runs P base n) n k none c F h hs = some (e, F', h', hs', cs)) (hc : All cs) : Runs P base n c F h e F' h' :=
  pexec_spec hE hmix k none c F h hs hp hc

/-! ## another way to tell a state -/

theorem Ent.trans {base n : Nat} {F G K : Facts} {h g k : AHeap} (i : Ent base n F h G g) (j : Ent base n G g K k) : Ent base n F h K k :=
  fun S w0 φ0 φ a w h0 hk r => by
    obtain ⟨φ1, hk1, r1⟩ := i S w0 φ0 φ a w h0 hk r
    exact j S w0 φ0 φ1 a w h0 hk1 r1

theorem Ent.refl (base n : Nat) (F : Facts) (h : AHeap) : Ent base n F h F h := fun S w0 φ0 φ a w h0 hk r => ⟨φ, hk, r⟩

/-- rows are forgotten, or get other numbers -/
theorem Ent.ren {base n : Nat} {F F1 : Facts} {h h1 : AHeap} {r : Nat → Nat} (hw : Within r h1 h) (hf : ∀ t v, lookF F1 t = some v → t < n ∧ lookF F t = some (v.ren r) ∧ Clo (In h1) v)
    (b1 : ∀ i, i < base → In h i → In h1 i) (b2 : ∀ i, i < base → In h1 i → r i = i) (b3 : ∀ i, In h1 i → r i < base → i < base) : Ent base n F h F1 h1 := by
  intro S w0 φ0 φ a w h0 hk ⟨s, hn, hF, rl⟩
  have hsize : a.tmps.toList.length = n := by rw [rl.slots.length]; exact hn
  refine ⟨pull φ r h1, ⟨?_, ?_, ?_⟩, (List.range n).map (fun t => (lookF F1 t).getD .undef), by simp, ?_, ⟨?_, rl.heap.pull hw ?_, rl.below, rl.defers⟩⟩
  · intro i v p hp
    have hi := h0 i v p hp
    have hp' := hk.le i v p hp
    obtain ⟨_, b, hb, _⟩ := rl.heap.dom i v p hp'
    have hin := b1 i hi (by unfold In; rw [hb]; rfl)
    rw [pull_of hin, b2 i hi hin]; exact hp'
  · intro i hi hnone u
    have := hk.new i hi hnone
    unfold pull
    split
    · rename_i hin; rw [b2 i hi hin]; exact this u
    · rfl
  · intro i v p hp hro
    obtain ⟨hin, hp'⟩ := pull_some hp
    have h1 := hk.ro _ _ _ hp' hro
    have h2 := b3 i hin (h0 _ _ _ h1)
    rw [b2 i h2 hin] at h1; exact h1
  · intro t v hv
    obtain ⟨ht, _, _⟩ := hf t v hv
    simp [ht, hv]
  · refine VRels.of_get (by simp [hsize]) fun t x V hx hV => ?_
    have ht : t < n := by
      have := (List.getElem?_eq_some_iff.1 hx).1; simpa using this
    simp only [List.getElem?_map, List.getElem?_range ht, Option.map_some, Option.some.injEq] at hx
    cases hl : lookF F1 t with
    | none => rw [hl] at hx; simp at hx; subst hx; simp [VRel]
    | some v =>
      rw [hl] at hx; simp at hx; subst hx
      obtain ⟨_, g1, g2⟩ := hf t v hl
      obtain ⟨V', e1, e2⟩ := rl.slots.get (hF t _ g1)
      rw [hV] at e1; simp at e1; subst e1
      exact VRel.unren (fun i hi v p hp => by rw [pull_of hi]; exact hp) g2 e2
  · intro i v p hp hro
    obtain ⟨_, hp'⟩ := pull_some hp
    obtain ⟨_, B, _, _, _, _, _, _, hrow⟩ := rl.heap.dom _ _ _ hp'
    exact hrow.base hro

/-! ## parts of a function -/

/-- the bodies of the loops, in the order of the text -/
def loops : Code → List Code
  | .seq a b => loops a ++ loops b
  | .cond _ a b => loops a ++ loops b
  | .block _ c => loops c
  | .scope c => loops c
  | .loop c => c :: loops c
  | _ => []

def bodyOf (P : Program) (f : FuncId) : Code :=
  match P.funcs[f]? with
  | some fn => match fn.body with | some c => c | none => .skip
  | none => .skip

def loopAt (P : Program) (f : FuncId) (k : Nat) : Code := (loops (bodyOf P f))[k]?.getD .skip

/-- how many slots a call of f has, with so many arguments -/
def slotsOf (P : Program) (f : FuncId) (args : Nat) : Nat :=
  match P.funcs[f]? with
  | some fn => args + (fn.ntmps - args)
  | none => 0

/-- a path through code; what is kept of the facts -/
def ppath (P : Program) (E : AEnv) (base n : Nat) (c : Code) (F : Facts) (h : AHeap) (hs : List Hint) (keep : List Nat) : Option (AExit × Facts × AHeap × List Prop) :=
  match pexec P E base (Runs P base n) n 1000 none c F h hs with
  | some (e, F', h', [], cs) => some (e, onlyF F' keep, h', cs)
  | _ => none

theorem ppath_runs (hE : EnvOk P E) (hmix : P.follows .mixedOrders = true) {base n : Nat} {c : Code} {F F' : Facts} {h h' : AHeap} {hs : List Hint} {keep : List Nat} {e : AExit} {cs : List Prop}
    (hp : ppath P E base n c F h hs keep = some (e, F', h', cs)) (hc : All cs) : Runs P base n c F h e F' h' := by
  unfold ppath at hp
  split at hp
  · rename_i e1 F1 h1 c1 hx
    simp only [Option.some.injEq, Prod.mk.injEq] at hp
    obtain ⟨rfl, rfl, rfl, rfl⟩ := hp
    exact (pexec_runs hE hmix hx hc).post (Ent.facts (Facts.only_le _ _))
  · cases hp

/-! ## functions -/

def factsFrom : Nat → List AVal → Facts
  | _, [] => []
  | i, v :: r => (i, v) :: factsFrom (i + 1) r

theorem lookF_from : ∀ (l : List AVal) (i t : Nat) (v : AVal), lookF (factsFrom i l) t = some v → i ≤ t ∧ l[t - i]? = some v
  | [], i, t, v, h => by cases h
  | a :: r, i, t, v, h => by
    simp only [factsFrom, lookF_cons] at h
    split at h
    · rename_i e; subst e; exact ⟨Nat.le_refl _, by simpa using h⟩
    · rename_i e
      obtain ⟨h1, h2⟩ := lookF_from r (i + 1) t v h
      refine ⟨by omega, ?_⟩
      rw [show t - i = (t - (i + 1)) + 1 by omega, List.getElem?_cons_succ]; exact h2

def presults (D : Tys) (F : Facts) (h : AHeap) : List ResultVar → List Hint → Option (List AVal × List Prop)
  | [], [] => some ([], [])
  | [], _ => none
  | .tmp t :: r, hs => match lookF F t, presults D F h r hs with | some v, some (l, cs) => some (v :: l, cs) | _, _ => none
  | .cell a t :: r, .cell v :: hs => match lookF F a, presults D F h r hs with | some (.ptr (some p)), some (l, cs) => some (v :: l, (aload D t p h = some v) :: cs) | _, _ => none
  | _, _ => none

theorem presults_spec {D : Tys} {F : Facts} {h : AHeap} {s : List AVal} (hF : Has F s) : ∀ {rs : List ResultVar} {hs : List Hint} {l : List AVal} {cs : List Prop}, presults D F h rs hs = some (l, cs) → All cs → aresults D rs ⟨s, h⟩ = some l
  | [], hs, l, cs, hp, hc => by
    cases hs with
    | nil => simp only [presults, Option.some.injEq, Prod.mk.injEq] at hp; obtain ⟨rfl, _⟩ := hp; rfl
    | cons a r => simp [presults] at hp
  | .tmp t :: r, hs, l, cs, hp, hc => by
    simp only [presults] at hp
    split at hp
    · rename_i v l' cs' hv hx
      simp only [Option.some.injEq, Prod.mk.injEq] at hp
      obtain ⟨rfl, rfl⟩ := hp
      simp only [aresults, presults_spec hF hx hc, List.getD_eq_getElem?_getD, hF t v hv]; rfl
    · cases hp
  | .cell a t :: r, hs, l, cs, hp, hc => by
    cases hs with
    | nil => simp [presults] at hp
    | cons q hs =>
      cases q with
      | cell v =>
        simp only [presults] at hp
        split at hp
        · rename_i p l' cs' hv hx
          simp only [Option.some.injEq, Prod.mk.injEq] at hp
          obtain ⟨rfl, rfl⟩ := hp
          have hrest : All cs' := fun p hp => hc p (by simp [hp])
          simp only [aresults, presults_spec hF hx hrest, List.getD_eq_getElem?_getD, hF a _ hv, Option.getD_some, hc.head]
        · cases hp
      | _ => simp [presults] at hp

/-- a whole call: from the code's end to the answer -/
theorem FDoes.of_runs (hE : EnvOk P E) {f : FuncId} {fn : Func} {c : Code} (hf : P.funcs[f]? = some fn) (hb : fn.body = some c) {args : List AVal} {h h' : AHeap} {e : AExit} (he : e = .normal ∨ e = .ret) {F' : Facts} {rs : List Hint} {l : List AVal} {cs : List Prop}
    (hr : Runs P h.next (args.length + (fn.ntmps - args.length)) c (factsFrom 0 args) h e F' h') (hp : presults E.D F' h' fn.results.toList rs = some (l, cs)) (hc : All cs) (hn : h.next ≤ h'.next) : FDoes P f args h (aresult l) h' := by
  intro S w0 hS φ w args' hH hsafe hA
  refine ⟨⟨fn, c, hf, hb⟩, calls_of_wp hf hb ?_⟩
  have hlen : args'.size = args.length := by have := hA.length; rwa [Array.length_toList] at this
  have hF : Has (factsFrom 0 args) (args ++ List.replicate (fn.ntmps - args.length) skipped) := by
    intro t u hu
    obtain ⟨_, h2⟩ := lookF_from args 0 t u hu
    simp only [Nat.sub_zero] at h2
    obtain ⟨hlt, _⟩ := List.getElem?_eq_some_iff.1 h2
    rw [List.getElem?_append_left hlt]; exact h2
  have r : SRel φ S w0 ⟨args ++ List.replicate (fn.ntmps - args.length) skipped, h⟩ { tmps := args' ++ Array.replicate (fn.ntmps - args'.size) undef, defers := [] } w := by
    refine ⟨?_, hH, hsafe, rfl⟩
    simp only [Array.toList_append, Array.toList_replicate, hlen]
    exact hA.append (VRels.replicate (VRel.skipped φ) _)
  refine hr S w0 hS φ φ _ w (fun i v p hp => (hH.dom i v p hp).1) (Keep.refl _ _) ⟨_, by simp, hF, r⟩ _ fun φ' a' w' hk ⟨s', n1, f1, r1⟩ => ?_
  have hl := presults_spec f1 hp hc
  obtain ⟨v', k1, k2⟩ := results_sound hE.tys r1 hl
  rcases he with rfl | rfl
  · exact ⟨r1.defers, v', k1, v', φ', rfl, hk, k2, r1.heap, r1.below, hn⟩
  · exact ⟨r1.defers, v', k1, v', φ', rfl, hk, k2, r1.heap, r1.below, hn⟩

def pcall (P : Program) (E : AEnv) (f : FuncId) (args : List AVal) (h : AHeap) (hs : List Hint) (rs : List Hint) : Option (AVal × AHeap × List Prop) :=
  match P.funcs[f]? with
  | some fn =>
    match fn.body with
    | some c =>
      match pexec P E h.next (Runs P h.next (args.length + (fn.ntmps - args.length))) (args.length + (fn.ntmps - args.length)) 1000 none c (factsFrom 0 args) h hs with
      | some (.normal, F, h', [], c1) => match presults E.D F h' fn.results.toList rs with | some (l, c2) => cond (Nat.ble h.next h'.next) (some (aresult l, h', c1 ++ c2)) none | none => none
      | some (.ret, F, h', [], c1) => match presults E.D F h' fn.results.toList rs with | some (l, c2) => cond (Nat.ble h.next h'.next) (some (aresult l, h', c1 ++ c2)) none | none => none
      | _ => none
    | none => none
  | none => none

theorem pcall_does (hE : EnvOk P E) (hmix : P.follows .mixedOrders = true) {f : FuncId} {args : List AVal} {h : AHeap} {hs rs : List Hint} {v : AVal} {h' : AHeap} {cs : List Prop} (hp : pcall P E f args h hs rs = some (v, h', cs)) (hc : All cs) : FDoes P f args h v h' := by
  unfold pcall at hp
  split at hp
  · rename_i fn hf
    split at hp
    · rename_i c hb
      have fin : ∀ {e : AExit} {F : Facts} {h1 : AHeap} {c1 c2 : List Prop} {l : List AVal}, (e = .normal ∨ e = .ret) →
          pexec P E h.next (Runs P h.next (args.length + (fn.ntmps - args.length))) (args.length + (fn.ntmps - args.length)) 1000 none c (factsFrom 0 args) h hs = some (e, F, h1, [], c1) →
          presults E.D F h1 fn.results.toList rs = some (l, c2) → cond (Nat.ble h.next h1.next) (some (aresult l, h1, c1 ++ c2)) none = some (v, h', cs) → FDoes P f args h v h' := by
        intro e F h1 c1 c2 l he hx hr hq
        cases hle : Nat.ble h.next h1.next with
        | false => rw [hle] at hq; cases hq
        | true =>
          rw [hle, cond_true] at hq
          simp only [Option.some.injEq, Prod.mk.injEq] at hq
          obtain ⟨rfl, rfl, rfl⟩ := hq
          exact FDoes.of_runs hE hf hb he (pexec_runs hE hmix hx hc.left) hr hc.right (Nat.le_of_ble_eq_true hle)
      split at hp
      · rename_i F h1 c1 hx
        split at hp
        · rename_i l c2 hr; exact fin (.inl rfl) hx hr hp
        · cases hp
      · rename_i F h1 c1 hx
        split at hp
        · rename_i l c2 hr; exact fin (.inr rfl) hx hr hp
        · cases hp
      · cases hp
    · cases hp
  · cases hp

/-- behind the call rows are forgotten, or get other numbers -/
theorem FDoes.ren {f : FuncId} {args : List AVal} {h h' h2 : AHeap} {v v2 : AVal} {r : Nat → Nat} (k : FDoes P f args h v h') (hw : Within r h2 h') (hv : v = v2.ren r) (hcl : Clo (In h2) v2)
    (b1 : ∀ i, i < h.next → In h' i → In h2 i) (b2 : ∀ i, i < h.next → In h2 i → r i = i) (b3 : ∀ i, In h2 i → r i < h.next → i < h.next) (hn : h.next ≤ h2.next) : FDoes P f args h v2 h2 := by
  subst hv
  intro S w0 hS φ w args' hH hsafe hA
  obtain ⟨g1, g2⟩ := k S w0 hS φ w args' hH hsafe hA
  refine ⟨g1, g2.mono fun e w' ⟨v', φ', he, kp, hv, hr, hs, hn'⟩ => ?_⟩
  refine ⟨v', pull φ' r h2, he, ⟨?_, ?_, ?_⟩, VRel.unren (fun i hi v p hp => by rw [pull_of hi]; exact hp) hcl hv, hr.pull hw ?_, hs, hn⟩
  · intro i u p hp
    have hi := (hH.dom i u p hp).1
    have hp' := kp.le i u p hp
    obtain ⟨_, b, hb, _⟩ := hr.dom i u p hp'
    have hin := b1 i hi (by unfold In; rw [hb]; rfl)
    rw [pull_of hin, b2 i hi hin]; exact hp'
  · intro i hi hnone u
    have := kp.new i hi hnone
    unfold pull
    split
    · rename_i hin; rw [b2 i hi hin]; exact this u
    · rfl
  · intro i u p hp hro
    obtain ⟨hin, hp'⟩ := pull_some hp
    have h1 := kp.ro _ _ _ hp' hro
    have h2 := b3 i hin (hH.dom _ _ _ h1).1
    rw [b2 i h2 hin] at h1; exact h1
  · intro i u p hp hro
    obtain ⟨_, hp'⟩ := pull_some hp
    obtain ⟨_, B, _, _, _, _, _, _, hrow⟩ := hr.dom _ _ _ hp'
    exact hrow.base hro

/-- one function more whose answer is known -/
def AEnv.add (E : AEnv) (f : FuncId) (g : APrim) : AEnv := { E with prim := fun k => cond (Nat.beq k f) (some g) (E.prim k) }

theorem EnvOk.add (hE : EnvOk P E) {f : FuncId} {g : APrim} (hg : PrimOk P f g) : EnvOk P (E.add f g) where
  tys := hE.tys
  eqs := hE.eqs
  names := hE.names
  prims k q hq := by
    simp only [AEnv.add] at hq
    rcases beq_cases k f with ⟨h, e⟩ | ⟨h, e⟩
    · rw [e, cond_true] at hq; simp only [Option.some.injEq] at hq; subst hq; subst h; exact hg
    · rw [e, cond_false] at hq; exact hE.prims k q hq

/-! ## what hints ask -/

theorem All.nil : All [] := fun p hp => by simp at hp
theorem All.cons {p : Prop} {l : List Prop} (h : p) (k : All l) : All (p :: l) := fun q hq => by
  rcases List.mem_cons.1 hq with rfl | hq
  · exact h
  · exact k q hq
theorem okT {p : Prop} [Decidable p] (c : p) : some (AVal.bool (decide p)) = some (AVal.bool true) := by rw [decide_eq_true c]
theorem okF {p : Prop} [Decidable p] (c : ¬ p) : some (AVal.bool (decide p)) = some (AVal.bool false) := by rw [decide_eq_false c]
theorem eqT {α : Type} [BEq α] [LawfulBEq α] {a b : α} (c : a = b) : some (AVal.bool (a == b)) = some (AVal.bool true) := by simp [c]
theorem eqF {α : Type} [BEq α] [LawfulBEq α] {a b : α} (c : ¬ a = b) : some (AVal.bool (a == b)) = some (AVal.bool false) := by simp [c]
theorem neT {α : Type} [BEq α] [LawfulBEq α] {a b : α} (c : ¬ a = b) : some (AVal.bool (a != b)) = some (AVal.bool true) := by simp [c]
theorem neF {α : Type} [BEq α] [LawfulBEq α] {a b : α} (c : a = b) : some (AVal.bool (a != b)) = some (AVal.bool false) := by simp [c]

/-! ## functions of plain values -/

/-- no row is named in it -/
def Bare (v : AVal) : Prop := (∀ r, v.ren r = v) ∧ Clo (fun _ => False) v

theorem Bare.bool (b : Bool) : Bare (.bool b) := ⟨fun _ => rfl, trivial⟩
theorem Bare.int (k : IntKind) (n : Int) : Bare (.int k n) := ⟨fun _ => rfl, trivial⟩
theorem Bare.str (s : List UInt8) : Bare (.str s) := ⟨fun _ => rfl, trivial⟩

mutual
theorem Clo.mono {D D' : Nat → Prop} (h : ∀ i, D i → D' i) : ∀ {v : AVal}, Clo D v → Clo D' v
  | .ptr (some a), k => by simp only [Clo] at k ⊢; exact h _ k
  | .slice (some a) _ _, k => by simp only [Clo] at k ⊢; exact h _ k
  | .func _ f c, k => by simp only [Clo] at k ⊢; exact ⟨Clos.mono h k.1, Clos.mono h k.2⟩
  | .iface _ v, k => by simp only [Clo] at k ⊢; exact Clo.mono h k
  | .agg cs, k => by simp only [Clo] at k ⊢; exact Clos.mono h k
  | .tuple vs, k => by simp only [Clo] at k ⊢; exact Clos.mono h k
  | .undef, _ => by simp [Clo]
  | .bool _, _ => by simp [Clo]
  | .int _ _, _ => by simp [Clo]
  | .str _, _ => by simp [Clo]
  | .ptr none, _ => by simp [Clo]
  | .slice none _ _, _ => by simp [Clo]
  | .nilFunc, _ => by simp [Clo]
  | .nilIface, _ => by simp [Clo]
theorem Clos.mono {D D' : Nat → Prop} (h : ∀ i, D i → D' i) : ∀ {l : List AVal}, Clos D l → Clos D' l
  | [], _ => by simp [Clos]
  | a :: l, k => by simp only [Clos] at k ⊢; exact ⟨Clo.mono h k.1, Clos.mono h k.2⟩
end

/-- a function of plain values with a plain answer: nothing else counts -/
theorem FDoes.bare {f : FuncId} {args : List AVal} {v : AVal} {h' : AHeap} (k : FDoes P f args ⟨0, .nil⟩ v h') (ha : ∀ a ∈ args, Bare a) (hv : Bare v) (H : AHeap) : FDoes P f args H v H := by
  have k1 : FDoes P f args ⟨0, .nil⟩ v ⟨0, .nil⟩ := by
    refine k.ren (r := fun i => i) (v2 := v) ⟨?_, ?_, ?_⟩ (hv.1 _).symm (Clo.mono (fun i hi => hi.elim) hv.2) ?_ ?_ ?_ (Nat.le_refl _)
    · intro i b hb; cases hb
    · intro i j hi; cases hi
    · intro i b hb; cases hb
    · intro i hi; simp at hi
    · intro i hi; simp at hi
    · intro i hi; cases hi
  have k2 := k1.frame (r := fun i => H.next + i) (H := H) (H' := H) ⟨?_, ?_, ?_⟩ (Clos_iff.2 fun a hm => Clo.mono (fun i hi => hi.elim) (ha a hm).2) (fun i _ => by simp) ?_ (by simp) (fun _ _ _ => rfl)
  · rw [hv.1] at k2
    have : args.map (AVal.ren fun i => H.next + i) = args := by
      conv => rhs; rw [← List.map_id args]
      exact List.map_congr_left fun a hm => (ha a hm).1 _
    rw [this] at k2; exact k2
  · intro i b hb; cases hb
  · intro i j hi; cases hi
  · intro i b hb; cases hb
  · intro i b hb; cases hb

end
end
end Go.Lift

namespace Go.Lift
noncomputable section
open Go.RowKit
set_option linter.unusedVariables false
set_option linter.unusedSimpArgs false

/-! ## memories written out -/

def AHeap.rows (n : Nat) (l : List (Nat × ABlk)) : AHeap := l.foldl (fun h p => h.set p.1 p.2) ⟨n, .nil⟩

theorem AHeap.foldl_get (l : List (Nat × ABlk)) : ∀ (h : AHeap) (i : Nat) (b : ABlk), (l.foldl (fun h p => h.set p.1 p.2) h).get i = some b → h.get i = some b ∨ (i, b) ∈ l := by
  induction l with
  | nil => intro h i b k; exact .inl k
  | cons p r ih =>
    intro h i b k
    rcases ih _ i b k with k | k
    · rw [AHeap.get_set] at k
      split at k
      · rename_i e; simp only [Option.some.injEq] at k; exact .inr (by rw [← e, ← k]; exact List.mem_cons_self ..)
      · exact .inl k
    · exact .inr (by simp [k])

theorem AHeap.foldl_in (l : List (Nat × ABlk)) : ∀ (h : AHeap) (i : Nat), (In h i ∨ i ∈ l.map (·.1)) → In (l.foldl (fun h p => h.set p.1 p.2) h) i := by
  induction l with
  | nil => intro h i k; rcases k with k | k; exact k; simp at k
  | cons p r ih =>
    intro h i k
    refine ih _ i ?_
    by_cases e : p.1 = i
    · left; unfold In; rw [AHeap.get_set, if_pos e]; rfl
    · rcases k with k | k
      · left; unfold In; rw [AHeap.get_set, if_neg e]; exact k
      · simp only [List.map_cons, List.mem_cons] at k
        rcases k with k | k
        · exact absurd k.symm e
        · exact .inr k

theorem AHeap.foldl_next (l : List (Nat × ABlk)) : ∀ (h : AHeap), (l.foldl (fun h p => h.set p.1 p.2) h).next = h.next := by
  induction l with
  | nil => intro h; rfl
  | cons p r ih => intro h; rw [List.foldl_cons, ih]; rfl

@[simp] theorem AHeap.rows_next (n : Nat) (l : List (Nat × ABlk)) : (AHeap.rows n l).next = n := AHeap.foldl_next _ _
theorem AHeap.rows_get {n : Nat} {l : List (Nat × ABlk)} {i : Nat} {b : ABlk} (h : (AHeap.rows n l).get i = some b) : (i, b) ∈ l := by
  rcases AHeap.foldl_get l _ i b h with k | k
  · cases k
  · exact k
theorem AHeap.rows_in {n : Nat} {l : List (Nat × ABlk)} {i : Nat} (h : i ∈ l.map (·.1)) : In (AHeap.rows n l) i := AHeap.foldl_in l _ i (.inr h)
theorem AHeap.rows_in_of {n : Nat} {l : List (Nat × ABlk)} {i : Nat} (h : In (AHeap.rows n l) i) : i ∈ l.map (·.1) := by
  obtain ⟨b, hb⟩ := Option.isSome_iff_exists.1 h
  exact List.mem_map.2 ⟨_, AHeap.rows_get hb, rfl⟩

/-! ## plain rows -/

mutual
theorem AVal.ren_id : ∀ (v : AVal), v.ren (fun i => i) = v
  | .ptr (some a) => rfl
  | .slice (some a) _ _ => rfl
  | .func fn f c => by simp only [AVal.ren, AVal.rens_id]
  | .iface t v => by simp only [AVal.ren, AVal.ren_id v]
  | .agg cs => by simp only [AVal.ren, AVal.rens_id]
  | .tuple vs => by simp only [AVal.ren, AVal.rens_id]
  | .undef => rfl
  | .bool _ => rfl
  | .int _ _ => rfl
  | .str _ => rfl
  | .ptr none => rfl
  | .slice none _ _ => rfl
  | .nilFunc => rfl
  | .nilIface => rfl
theorem AVal.rens_id : ∀ (l : List AVal), AVal.rens (fun i => i) l = l
  | [] => rfl
  | a :: l => by simp only [AVal.rens, AVal.ren_id a, AVal.rens_id l]
end

theorem ABlk.ren_id (b : ABlk) : b.ren (fun i => i) = b := by
  unfold ABlk.ren
  have : b.elems.map (AVal.ren fun i => i) = b.elems := by
    conv => rhs; rw [← List.map_id b.elems]
    exact List.map_congr_left fun e he => AVal.ren_id e
  rw [this]

/-- no row is named in it -/
def BareB (b : ABlk) : Prop := ∀ e ∈ b.elems, Bare e

theorem BareB.ren {b : ABlk} (h : BareB b) (r : Nat → Nat) : b.ren r = b := by
  unfold ABlk.ren
  have : b.elems.map (AVal.ren r) = b.elems := by
    conv => rhs; rw [← List.map_id b.elems]
    exact List.map_congr_left fun e he => (h e he).1 r
  rw [this]

theorem BareB.clo {b : ABlk} (h : BareB b) (D : Nat → Prop) : ∀ e ∈ b.elems, Clo D e := fun e he => Clo.mono (fun _ k => k.elim) (h e he).2

theorem Bare.ints {α : Type} (l : List α) (k : IntKind) (f : α → Int) : ∀ e ∈ l.map (fun x => AVal.int k (f x)), Bare e := by
  intro e he
  obtain ⟨x, _, rfl⟩ := List.mem_map.1 he
  exact Bare.int k _

theorem Bare.clo {v : AVal} (h : Bare v) (D : Nat → Prop) : Clo D v := Clo.mono (fun _ k => k.elim) h.2

theorem All_nil : All [] ↔ True := ⟨fun _ => trivial, fun _ => All.nil⟩
theorem All_cons {p : Prop} {l : List Prop} : All (p :: l) ↔ p ∧ All l := ⟨fun h => ⟨h.head, h.tail⟩, fun h => All.cons h.1 h.2⟩

/-- rows among which these are -/
def Ids (l : List Nat) : Nat → Prop := fun i => i ∈ l

/-- at a loop's head: rows are forgotten -/
theorem Ent.drop {base n : Nat} {F : Facts} {h : AHeap} {K : Nat} {l : List (Nat × ABlk)} (hl : l.map (fun p => h.get p.1) = l.map (fun p => some p.2)) (hK : l.all (fun p => Nat.blt p.1 K) = true)
    (hb : (List.range base).all (fun i => (l.map (·.1)).contains i) = true) (hn : F.all (fun p => Nat.blt p.1 n) = true) (hF : All (F.map fun p => Clo (Ids (l.map (·.1))) p.2))
    (hc : All (l.map fun p => ∀ e ∈ p.2.elems, Clo (Ids (l.map (·.1))) e)) : Ent base n F h F (AHeap.rows K l) := by
  have hget : ∀ i b, (AHeap.rows K l).get i = some b → i < K ∧ h.get i = some b := by
    intro i b k
    have hm := AHeap.rows_get k
    refine ⟨Nat.blt_eq.mp (List.all_eq_true.1 hK _ hm), ?_⟩
    obtain ⟨j, hj, e⟩ := List.mem_iff_getElem.1 hm
    have h1 := congrArg (fun (x : List (Option ABlk)) => x[j]?) hl
    simp only [List.getElem?_map, List.getElem?_eq_getElem hj, Option.map_some, e, Option.some.injEq] at h1
    exact h1
  have hmono : ∀ {v : AVal}, Clo (Ids (l.map (·.1))) v → Clo (In (AHeap.rows K l)) v := Clo.mono fun i hi => AHeap.rows_in hi
  refine Ent.ren (r := fun i => i) ⟨fun i b k => ⟨by rw [AHeap.rows_next]; exact (hget i b k).1, by rw [ABlk.ren_id]; exact (hget i b k).2⟩, fun i j _ _ e => e, ?_⟩ ?_ ?_ ?_ ?_
  · intro i b k e he
    have hm := AHeap.rows_get k
    exact hmono (hc _ (List.mem_map.2 ⟨_, hm, rfl⟩) e he)
  · intro t v hv
    have hm : (t, v) ∈ F := by
      clear hn hF
      induction F with
      | nil => cases hv
      | cons p r ih =>
        obtain ⟨k, u⟩ := p
        rw [lookF_cons] at hv
        split at hv
        · rename_i e; simp only [Option.some.injEq] at hv; subst e; subst hv; simp
        · exact List.mem_cons_of_mem _ (ih hv)
    exact ⟨Nat.blt_eq.mp (List.all_eq_true.1 hn _ hm), by rw [AVal.ren_id]; exact hv, hmono (hF _ (List.mem_map.2 ⟨_, hm, rfl⟩))⟩
  · intro i hi _
    exact AHeap.rows_in (by simpa using List.all_eq_true.1 hb i (List.mem_range.2 hi))
  · intro i _ _; rfl
  · intro i _ k; exact k

/-- behind a call: rows are forgotten, or get other numbers -/
theorem FDoes.clean {P : Program} {f : FuncId} {args : List AVal} {h h' : AHeap} {v : AVal} (k : FDoes P f args h v h') (r : Nat → Nat) (v2 : AVal) (K : Nat) (l : List (Nat × ABlk))
    (hl : l.map (fun p => h'.get (r p.1)) = l.map (fun p => some (p.2.ren r))) (hv : v = v2.ren r) (hK : l.all (fun p => Nat.blt p.1 K) = true) (hr : ((l.map (·.1)).map r).Nodup)
    (hb : (List.range h.next).all (fun i => (l.map (·.1)).contains i && Nat.beq (r i) i) = true) (hnew : l.all (fun p => Nat.blt p.1 h.next || Nat.ble h.next (r p.1)) = true) (hn : Nat.ble h.next K = true)
    (hvc : Clo (Ids (l.map (·.1))) v2) (hc : All (l.map fun p => ∀ e ∈ p.2.elems, Clo (Ids (l.map (·.1))) e)) : FDoes P f args h v2 (AHeap.rows K l) := by
  have hget : ∀ i b, (AHeap.rows K l).get i = some b → i < K ∧ h'.get (r i) = some (b.ren r) := by
    intro i b k
    have hm := AHeap.rows_get k
    refine ⟨Nat.blt_eq.mp (List.all_eq_true.1 hK _ hm), ?_⟩
    obtain ⟨j, hj, e⟩ := List.mem_iff_getElem.1 hm
    have h1 := congrArg (fun (x : List (Option ABlk)) => x[j]?) hl
    simp only [List.getElem?_map, List.getElem?_eq_getElem hj, Option.map_some, e, Option.some.injEq] at h1
    exact h1
  have hmono : ∀ {v : AVal}, Clo (Ids (l.map (·.1))) v → Clo (In (AHeap.rows K l)) v := Clo.mono fun i hi => AHeap.rows_in hi
  refine k.ren (r := r) ⟨fun i b k => ⟨by rw [AHeap.rows_next]; exact (hget i b k).1, (hget i b k).2⟩, ?_, ?_⟩ hv (hmono hvc) ?_ ?_ ?_ (by rw [AHeap.rows_next]; exact Nat.le_of_ble_eq_true hn)
  · intro i j hi hj e
    have hi := AHeap.rows_in_of hi
    have hj := AHeap.rows_in_of hj
    obtain ⟨a, ha, rfl⟩ := List.mem_iff_getElem.1 hi
    obtain ⟨b, hb', rfl⟩ := List.mem_iff_getElem.1 hj
    have h1 : ((l.map (·.1)).map r)[a]'(by simpa using ha) = ((l.map (·.1)).map r)[b]'(by simpa using hb') := by simpa using e
    have := (List.getElem_inj hr).1 h1
    subst this; rfl
  · intro i b k e he
    have hm := AHeap.rows_get k
    exact hmono (hc _ (List.mem_map.2 ⟨_, hm, rfl⟩) e he)
  · intro i hi _
    have := List.all_eq_true.1 hb i (List.mem_range.2 hi)
    simp only [Bool.and_eq_true] at this
    exact AHeap.rows_in (by simpa using this.1)
  · intro i hi _
    have := List.all_eq_true.1 hb i (List.mem_range.2 hi)
    simp only [Bool.and_eq_true] at this
    exact Nat.eq_of_beq_eq_true this.2
  · intro i hi hlt
    have hi := AHeap.rows_in_of hi
    obtain ⟨p, hm, rfl⟩ := List.mem_map.1 hi
    have := List.all_eq_true.1 hnew p hm
    simp only [Bool.or_eq_true] at this
    rcases this with h1 | h1
    · exact Nat.blt_eq.mp h1
    · have := Nat.le_of_ble_eq_true h1; omega

theorem FDoes.to {P : Program} {f : FuncId} {args : List AVal} {h h' h2 : AHeap} {v : AVal} (k : FDoes P f args h v h') (e : h' = h2) : FDoes P f args h v h2 := e ▸ k

/-! ## a call in every memory -/

/-- rows 0, 1, .. -/
def AHeap.ofFrom : Nat → List ABlk → AHeap → AHeap
  | _, [], h => h
  | i, b :: r, h => AHeap.ofFrom (i + 1) r (h.set i b)
def AHeap.of (l : List ABlk) : AHeap := AHeap.ofFrom 0 l ⟨l.length, .nil⟩

theorem AHeap.ofFrom_get : ∀ (l : List ABlk) (i : Nat) (h : AHeap) (j : Nat), (AHeap.ofFrom i l h).get j = if i ≤ j ∧ j < i + l.length then l[j - i]? else h.get j
  | [], i, h, j => by simp only [AHeap.ofFrom, List.length_nil]; rw [if_neg (by omega)]
  | b :: r, i, h, j => by
    simp only [AHeap.ofFrom, AHeap.ofFrom_get r, List.length_cons, AHeap.get_set]
    by_cases e : i = j
    · subst e
      rw [if_neg (by omega), if_pos rfl, if_pos (by omega)]; simp
    · by_cases c : i + 1 ≤ j ∧ j < i + 1 + r.length
      · rw [if_pos c, if_pos (by omega), show j - i = (j - (i + 1)) + 1 by omega]; simp
      · rw [if_neg c, if_neg e, if_neg (by omega)]
theorem AHeap.ofFrom_next : ∀ (l : List ABlk) (i : Nat) (h : AHeap), (AHeap.ofFrom i l h).next = h.next
  | [], i, h => rfl
  | b :: r, i, h => by simp only [AHeap.ofFrom, AHeap.ofFrom_next r]; rfl
@[simp] theorem AHeap.of_next (l : List ABlk) : (AHeap.of l).next = l.length := AHeap.ofFrom_next _ _ _
theorem AHeap.of_get (l : List ABlk) (j : Nat) : (AHeap.of l).get j = l[j]? := by
  unfold AHeap.of
  rw [AHeap.ofFrom_get]
  split
  · simp
  · rw [List.getElem?_eq_none (by omega)]; rfl
theorem AHeap.of_in {l : List ABlk} {j : Nat} : In (AHeap.of l) j ↔ j < l.length := by
  unfold In; rw [AHeap.of_get]; simp

/-- where the rows of a small memory lie in a great one -/
def toBig (ids : List Nat) (n : Nat) (i : Nat) : Nat :=
  match ids[i]? with
  | some j => j
  | none => n + (i - ids.length)

/-- the great memory behind a call: the rows 'ids' and new ones -/
def AHeap.updFrom : List Nat → List ABlk → AHeap → AHeap
  | j :: ids, b :: r, h => AHeap.updFrom ids r (h.set j b)
  | [], r, h => AHeap.ofFrom h.next r { h with next := h.next + r.length }
  | _ :: _, [], h => h
def AHeap.upd (h : AHeap) (ids : List Nat) (l : List ABlk) : AHeap := AHeap.updFrom ids l h

theorem AHeap.updFrom_next : ∀ (ids : List Nat) (l : List ABlk) (h : AHeap), ids.length ≤ l.length → (AHeap.updFrom ids l h).next = h.next + (l.length - ids.length)
  | [], l, h, _ => by simp [AHeap.updFrom, AHeap.ofFrom_next]
  | j :: ids, [], h, k => by simp at k
  | j :: ids, b :: r, h, k => by
    simp only [AHeap.updFrom]
    rw [AHeap.updFrom_next ids r _ (by simpa using k)]
    simp

theorem AHeap.updFrom_out : ∀ (ids : List Nat) (l : List ABlk) (h : AHeap) (j : Nat), ids.length ≤ l.length → j < h.next → j ∉ ids → (AHeap.updFrom ids l h).get j = h.get j
  | [], l, h, j, _, hj, _ => by simp only [AHeap.updFrom]; rw [AHeap.ofFrom_get, if_neg (by omega)]; rfl
  | i :: ids, [], h, j, k, _, _ => by simp at k
  | i :: ids, b :: r, h, j, k, hj, hm => by
    simp only [List.mem_cons, not_or] at hm
    simp only [AHeap.updFrom]
    rw [AHeap.updFrom_out ids r (h.set i b) j (by simpa using k) hj hm.2, AHeap.get_set_ne _ _ (Ne.symm hm.1)]

theorem AHeap.updFrom_at : ∀ (ids : List Nat) (l : List ABlk) (h : AHeap) (i : Nat), ids.length ≤ l.length → ids.Nodup → (∀ j ∈ ids, j < h.next) → i < l.length → (AHeap.updFrom ids l h).get (toBig ids h.next i) = l[i]?
  | [], l, h, i, _, _, _, hi => by
    simp only [AHeap.updFrom, toBig, List.getElem?_nil, List.length_nil, Nat.sub_zero]
    rw [AHeap.ofFrom_get, if_pos (by omega)]; congr 1; omega
  | j :: ids, [], h, i, k, _, _, _ => by simp at k
  | j :: ids, b :: r, h, i, k, hnd, hlt, hi => by
    simp only [List.nodup_cons] at hnd
    simp only [AHeap.updFrom]
    cases i with
    | zero =>
      simp only [toBig, List.getElem?_cons_zero]
      rw [AHeap.updFrom_out ids r (h.set j b) j (by simpa using k) (hlt j (by simp)) hnd.1, AHeap.get_set_self]
    | succ i =>
      have e : toBig (j :: ids) h.next (i + 1) = toBig ids (h.set j b).next i := by
        simp only [toBig, List.getElem?_cons_succ, List.length_cons, AHeap.next_set]
        cases ids[i]? with
        | some x => rfl
        | none => simp only; omega
      rw [e, AHeap.updFrom_at ids r (h.set j b) i (by simpa using k) hnd.2 (fun x hx => hlt x (by simp [hx])) (by simpa using hi)]
      simp

theorem FDoes.up {P : Program} {f : FuncId} {args : List AVal} {v : AVal} {l l' : List ABlk} (k : FDoes P f args (AHeap.of l) v (AHeap.of l')) (hb : ∀ b ∈ l, BareB b) (hb' : ∀ b ∈ l', BareB b) (hll : l.length ≤ l'.length) (ha : Clos (fun i => i < l.length) args)
    {H H' : AHeap} (ids : List Nat) (hn : ids.Nodup) (hlt : ∀ j ∈ ids, j < H.next) (hl : ids.map H.get = l.map some) (hnext : H'.next = H.next + (l'.length - l.length)) (hat : ∀ i, i < l'.length → H'.get (toBig ids H.next i) = l'[i]?)
    (hout : ∀ j, j < H.next → j ∉ ids → H'.get j = H.get j) : FDoes P f (args.map (AVal.ren (toBig ids H.next))) H (v.ren (toBig ids H.next)) H' := by
  have hlen : ids.length = l.length := by have := congrArg List.length hl; simpa using this
  have hbig : ∀ i (hi : i < ids.length), toBig ids H.next i = ids[i] := fun i hi => by simp [toBig, List.getElem?_eq_getElem hi]
  refine k.frame (r := toBig ids H.next) ⟨?_, ?_, ?_⟩ ?_ ?_ ?_ ?_ ?_
  · intro i b hg
    rw [AHeap.of_get] at hg
    have hi := (List.getElem?_eq_some_iff.1 hg).1
    refine ⟨by rw [AHeap.of_next]; exact hi, ?_⟩
    rw [(hb b (List.mem_of_getElem? hg)).ren, hbig i (by omega)]
    have h1 := congrArg (fun (x : List (Option ABlk)) => x[i]?) hl
    simp only [List.getElem?_map, List.getElem?_eq_getElem (show i < ids.length by omega), Option.map_some, hg, Option.some.injEq] at h1
    exact h1
  · intro i j hi hj e
    rw [AHeap.of_in] at hi hj
    rw [hbig i (by omega), hbig j (by omega)] at e
    exact (List.getElem_inj hn).1 e
  · intro i b hg e he
    rw [AHeap.of_get] at hg
    exact (hb b (List.mem_of_getElem? hg) e he).clo _
  · exact Clos.mono (fun i hi => AHeap.of_in.2 hi) ha
  · intro i hi
    rw [AHeap.of_next] at hi
    simp only [toBig, List.getElem?_eq_none (show ids.length ≤ i by omega), AHeap.of_next, hlen]
  · intro i b hg _
    rw [AHeap.of_get] at hg
    rw [(hb' b (List.mem_of_getElem? hg)).ren, hat i (List.getElem?_eq_some_iff.1 hg).1, hg]
  · rw [hnext]; simp
  · intro j hj hne
    refine hout j hj fun hm => ?_
    obtain ⟨i, hi, e⟩ := List.mem_iff_getElem.1 hm
    exact hne i (AHeap.of_in.2 (by omega)) (by rw [hbig i hi]; exact e)

/-- nothing is written and nothing comes -/
theorem FDoes.upR {P : Program} {f : FuncId} {args : List AVal} {v : AVal} {l : List ABlk} (k : FDoes P f args (AHeap.of l) v (AHeap.of l)) (hb : ∀ b ∈ l, BareB b) (ha : Clos (fun i => i < l.length) args)
    {H : AHeap} (ids : List Nat) (hn : ids.Nodup) (hlt : ∀ j ∈ ids, j < H.next) (hl : ids.map H.get = l.map some) : FDoes P f (args.map (AVal.ren (toBig ids H.next))) H (v.ren (toBig ids H.next)) H := by
  have hlen : ids.length = l.length := by have := congrArg List.length hl; simpa using this
  refine k.up hb hb (Nat.le_refl _) ha ids hn hlt hl (by simp) (fun i hi => ?_) fun _ _ _ => rfl
  have h1 := congrArg (fun (x : List (Option ABlk)) => x[i]?) hl
  simp only [List.getElem?_map, List.getElem?_eq_getElem (show i < ids.length by omega), List.getElem?_eq_getElem hi, Option.map_some, Option.some.injEq] at h1
  simp only [toBig, List.getElem?_eq_getElem (show i < ids.length by omega), h1, List.getElem?_eq_getElem hi]

/-- rows are written, and new ones come -/
theorem FDoes.upW {P : Program} {f : FuncId} {args : List AVal} {v : AVal} {l l' : List ABlk} (k : FDoes P f args (AHeap.of l) v (AHeap.of l')) (hb : ∀ b ∈ l, BareB b) (hb' : ∀ b ∈ l', BareB b) (hll : l.length ≤ l'.length) (ha : Clos (fun i => i < l.length) args)
    {H : AHeap} (ids : List Nat) (hn : ids.Nodup) (hlt : ∀ j ∈ ids, j < H.next) (hl : ids.map H.get = l.map some) : FDoes P f (args.map (AVal.ren (toBig ids H.next))) H (v.ren (toBig ids H.next)) (H.upd ids l') := by
  have hlen : ids.length = l.length := by have := congrArg List.length hl; simpa using this
  refine k.up hb hb' hll ha ids hn hlt hl ?_ ?_ ?_
  · rw [← hlen]; exact AHeap.updFrom_next ids l' H (by omega)
  · intro i hi; exact AHeap.updFrom_at ids l' H i (by omega) hn hlt hi
  · intro j hj hm; exact AHeap.updFrom_out ids l' H j (by omega) hj hm

/-- only new rows come -/
theorem FDoes.upN {P : Program} {f : FuncId} {args : List AVal} {v : AVal} {l l2 : List ABlk} (k : FDoes P f args (AHeap.of l) v (AHeap.of (l ++ l2))) (hb : ∀ b ∈ l, BareB b) (hb' : ∀ b ∈ l2, BareB b) (ha : Clos (fun i => i < l.length) args)
    {H : AHeap} (ids : List Nat) (hn : ids.Nodup) (hlt : ∀ j ∈ ids, j < H.next) (hl : ids.map H.get = l.map some) : FDoes P f (args.map (AVal.ren (toBig ids H.next))) H (v.ren (toBig ids H.next)) (H.upd [] l2) := by
  have hlen : ids.length = l.length := by have := congrArg List.length hl; simpa using this
  refine k.up hb (fun b hm => (List.mem_append.1 hm).elim (hb b) (hb' b)) (by simp) ha ids hn hlt hl ?_ ?_ ?_
  · show (AHeap.updFrom [] l2 H).next = _
    rw [AHeap.updFrom_next [] l2 H (by simp)]; simp
  · intro i hi
    show (AHeap.updFrom [] l2 H).get _ = _
    by_cases c : i < ids.length
    · have h1 := congrArg (fun (x : List (Option ABlk)) => x[i]?) hl
      simp only [List.getElem?_map, List.getElem?_eq_getElem c, List.getElem?_eq_getElem (show i < l.length by omega), Option.map_some, Option.some.injEq] at h1
      simp only [toBig, List.getElem?_eq_getElem c]
      rw [AHeap.updFrom_out [] l2 H _ (by simp) (hlt _ (List.getElem_mem c)) (by simp), h1, List.getElem?_append_left (by omega), List.getElem?_eq_getElem (show i < l.length by omega)]
    · have e : toBig ids H.next i = toBig [] H.next (i - ids.length) := by simp [toBig, List.getElem?_eq_none (show ids.length ≤ i by omega)]
      rw [List.length_append] at hi
      rw [e, AHeap.updFrom_at [] l2 H (i - ids.length) (by simp) (by simp) (by simp) (by omega), List.getElem?_append_right (by omega), hlen]
  · intro j hj hm
    exact AHeap.updFrom_out [] l2 H j (by simp) hj (by simp)

/-! ## from the end of a path to a call in every memory -/

def idxd : Nat → List ABlk → List (Nat × ABlk)
  | _, [] => []
  | i, b :: r => (i, b) :: idxd (i + 1) r

theorem AHeap.ofFrom_eq : ∀ (l : List ABlk) (i : Nat) (h : AHeap), AHeap.ofFrom i l h = (idxd i l).foldl (fun h p => h.set p.1 p.2) h
  | [], i, h => rfl
  | b :: r, i, h => by simp only [AHeap.ofFrom, idxd, List.foldl_cons]; exact AHeap.ofFrom_eq r _ _
theorem AHeap.of_rows (l : List ABlk) : AHeap.of l = AHeap.rows l.length (idxd 0 l) := AHeap.ofFrom_eq _ _ _
theorem idxd_fst : ∀ (l : List ABlk) (i : Nat), (idxd i l).map (·.1) = List.range' i l.length
  | [], i => rfl
  | b :: r, i => by simp only [idxd, List.map_cons, idxd_fst r, List.length_cons, List.range'_succ]
theorem idxd_snd : ∀ (l : List ABlk) (i : Nat), (idxd i l).map (·.2) = l
  | [], i => rfl
  | b :: r, i => by simp only [idxd, List.map_cons, idxd_snd r]

theorem List.Nodup.map_on' {f : Nat → Nat} {n : Nat} (h : ∀ a ∈ List.range n, ∀ b ∈ List.range n, f a = f b → a = b) : ((List.range n).map f).Nodup := by
  rw [List.nodup_iff_pairwise_ne, List.pairwise_map]
  refine List.Pairwise.imp_of_mem ?_ (List.nodup_range (n := n))
  intro a b ha hb hne e
  exact hne (h a ha b hb e)

/-- where the rows lie at a path's end: the old ones where they lay, the new ones at 'js' -/
def finR (k : Nat) (js : List Nat) (i : Nat) : Nat := if i < k then i else (js[i - k]?).getD 0

theorem FDoes.fin {P : Program} {f : FuncId} {args : List AVal} {h' : AHeap} {v : AVal} {l : List ABlk} (k : FDoes P f args (AHeap.of l) v h') (js : List Nat) (l' : List ABlk) (v2 : AVal) (hb' : ∀ b ∈ l', BareB b)
    (hlen : l'.length = l.length + js.length) (hget : (List.range l'.length).map (fun i => h'.get (finR l.length js i)) = l'.map some) (hv : v = v2.ren (finR l.length js)) (hvc : Clo (fun i => i < l'.length) v2)
    (hjs : js.all (fun j => Nat.ble l.length j) = true) (hnd : js.Nodup) : FDoes P f args (AHeap.of l) v2 (AHeap.of l') := by
  have hfst : (idxd 0 l').map (·.1) = List.range l'.length := by rw [idxd_fst, List.range_eq_range']
  have hge : ∀ j ∈ js, l.length ≤ j := fun j hj => Nat.le_of_ble_eq_true (List.all_eq_true.1 hjs j hj)
  have hhi : ∀ i, l.length ≤ i → i < l'.length → ∃ (h : i - l.length < js.length), finR l.length js i = js[i - l.length] := by
    intro i h1 h2
    have h3 : i - l.length < js.length := by omega
    exact ⟨h3, by simp only [finR, if_neg (show ¬ i < l.length by omega), List.getElem?_eq_getElem h3, Option.getD_some]⟩
  rw [AHeap.of_rows l']
  refine k.clean (finR l.length js) v2 l'.length (idxd 0 l') ?_ hv ?_ ?_ ?_ ?_ (Nat.ble_eq.mpr ?_) ?_ ?_
  · have h1 : (idxd 0 l').map (fun p => h'.get (finR l.length js p.1)) = ((idxd 0 l').map (·.1)).map (fun i => h'.get (finR l.length js i)) := by rw [List.map_map]; rfl
    have h2 : (idxd 0 l').map (fun p => some (p.2.ren (finR l.length js))) = ((idxd 0 l').map (·.2)).map (fun b => some (b.ren (finR l.length js))) := by rw [List.map_map]; rfl
    rw [h1, h2, hfst, idxd_snd, hget]
    exact List.map_congr_left fun b hm => by rw [(hb' b hm).ren]
  · rw [List.all_eq_true]
    intro p hp
    have : p.1 ∈ (idxd 0 l').map (·.1) := List.mem_map.2 ⟨p, hp, rfl⟩
    rw [hfst] at this
    exact Nat.blt_eq.mpr (List.mem_range.1 this)
  · rw [hfst]
    refine List.Nodup.map_on' ?_
    intro a ha b hb e
    have ha := List.mem_range.1 ha
    have hb := List.mem_range.1 hb
    by_cases c1 : a < l.length <;> by_cases c2 : b < l.length
    · simpa [finR, c1, c2] using e
    · obtain ⟨h3, h4⟩ := hhi b (by omega) hb
      rw [h4, show finR l.length js a = a by simp [finR, c1]] at e
      have := hge _ (List.getElem_mem h3); omega
    · obtain ⟨h3, h4⟩ := hhi a (by omega) ha
      rw [h4, show finR l.length js b = b by simp [finR, c2]] at e
      have := hge _ (List.getElem_mem h3); omega
    · obtain ⟨h3, h4⟩ := hhi a (by omega) ha
      obtain ⟨h5, h6⟩ := hhi b (by omega) hb
      rw [h4, h6] at e
      have := (List.getElem_inj hnd).1 e; omega
  · rw [List.all_eq_true, AHeap.of_next]
    intro i hi
    have hi := List.mem_range.1 hi
    rw [hfst, Bool.and_eq_true]
    exact ⟨by simp; omega, beq_true (by simp [finR, hi])⟩
  · rw [List.all_eq_true, AHeap.of_next]
    intro p hp
    have : p.1 ∈ (idxd 0 l').map (·.1) := List.mem_map.2 ⟨p, hp, rfl⟩
    rw [hfst] at this
    have hlt := List.mem_range.1 this
    rw [Bool.or_eq_true]
    by_cases c : p.1 < l.length
    · exact .inl (Nat.blt_eq.mpr c)
    · obtain ⟨h3, h4⟩ := hhi p.1 (by omega) hlt
      exact .inr (Nat.ble_eq.mpr (by rw [h4]; exact hge _ (List.getElem_mem h3)))
  · rw [AHeap.of_next]; omega
  · rw [hfst]; exact Clo.mono (fun i hi => List.mem_range.2 hi) hvc
  · intro p hp
    obtain ⟨q, hq, rfl⟩ := List.mem_map.1 hp
    intro e he
    exact (hb' q.2 (by have : q.2 ∈ (idxd 0 l').map (·.2) := List.mem_map.2 ⟨q, hq, rfl⟩; rwa [idxd_snd] at this) e he).clo _

/-- nothing is written, and a plain value comes: in every memory -/
theorem FDoes.pure {P : Program} {f : FuncId} {args : List AVal} {h' : AHeap} {v : AVal} {l : List ABlk} (k : FDoes P f args (AHeap.of l) v h') (hb : ∀ b ∈ l, BareB b) (hget : (List.range l.length).map h'.get = l.map some) (hv : Bare v)
    (ha : Clos (fun i => i < l.length) args) {H : AHeap} (ids : List Nat) (hn : ids.Nodup) (hlt : ∀ j ∈ ids, j < H.next) (hl : ids.map H.get = l.map some) : FDoes P f (args.map (AVal.ren (toBig ids H.next))) H v H := by
  have k1 := k.fin [] l v hb (by simp) (by
    rw [← hget]
    exact List.map_congr_left fun i hi => by rw [show finR l.length [] i = i by simp [finR, List.mem_range.1 hi]]) (hv.1 _).symm (hv.clo _) rfl (by simp)
  have k2 := k1.upR hb ha ids hn hlt hl
  rwa [hv.1] at k2

/-- nothing is written, and one new row comes: in every memory -/
theorem FDoes.new1 {P : Program} {f : FuncId} {args : List AVal} {h' : AHeap} {j es n c ver : Nat} {l : List ABlk} {bn : ABlk} (k : FDoes P f args (AHeap.of l) (.slice (some ⟨j, ver, 0, 0, es⟩) n c) h') (hb : ∀ b ∈ l, BareB b) (hbn : BareB bn)
    (hget : (List.range l.length).map h'.get = l.map some) (hnew : h'.get j = some bn) (hj : l.length ≤ j) (ha : Clos (fun i => i < l.length) args) {H : AHeap} (ids : List Nat) (hn : ids.Nodup) (hlt : ∀ j ∈ ids, j < H.next) (hl : ids.map H.get = l.map some) :
    FDoes P f (args.map (AVal.ren (toBig ids H.next))) H (.slice (some ⟨H.next, ver, 0, 0, es⟩) n c) (H.upd [] [bn]) := by
  have hlen : ids.length = l.length := by have := congrArg List.length hl; simpa using this
  have k1 := k.fin [j] (l ++ [bn]) (.slice (some ⟨l.length, ver, 0, 0, es⟩) n c) (fun b hm => (List.mem_append.1 hm).elim (hb b) (fun h => by rw [List.mem_singleton.1 h]; exact hbn)) (by simp) (by
    rw [List.length_append, List.length_singleton, List.range_succ, List.map_append, List.map_append]
    congr 1
    · rw [← hget]
      exact List.map_congr_left fun i hi => by rw [show finR l.length [j] i = i by simp [finR, List.mem_range.1 hi]]
    · simp [finR, hnew]) (by simp [AVal.ren, AAddr.ren, finR]) (by simp [Clo]) (by simp [hj]) (by simp)
  have k2 := k1.upN hb (fun b hm => by rw [List.mem_singleton.1 hm]; exact hbn) ha ids hn hlt hl
  have e : (AVal.slice (some ⟨l.length, ver, 0, 0, es⟩) n c).ren (toBig ids H.next) = .slice (some ⟨H.next, ver, 0, 0, es⟩) n c := by
    simp only [AVal.ren, AAddr.ren, toBig, List.getElem?_eq_none (show ids.length ≤ l.length by omega), hlen, Nat.sub_self, Nat.add_zero]
  rwa [e] at k2

/-! ## rows that nobody names -/

theorem HRel.more {φ : Map} {S : Nat → Prop} {h h2 : AHeap} {w : World} (r : HRel φ S h w) (hn : h.next ≤ h2.next) (hg : ∀ i, i < h.next → h2.get i = h.get i) : HRel φ S h2 w where
  dom i v p hp := by
    obtain ⟨h1, b, k1, k2⟩ := r.dom i v p hp
    exact ⟨Nat.lt_of_lt_of_le h1 hn, b, by rw [hg i h1]; exact k1, k2⟩
  apart := r.apart
  same := r.same

theorem FDoes.pad {P : Program} {f : FuncId} {args : List AVal} {h h' h2 : AHeap} {v : AVal} (k : FDoes P f args h v h') (hn : h'.next ≤ h2.next) (hg : ∀ i, i < h'.next → h2.get i = h'.get i) : FDoes P f args h v h2 :=
  fun S w0 hS φ w args' hH hB hA => by
    obtain ⟨g1, g2⟩ := k S w0 hS φ w args' hH hB hA
    exact ⟨g1, g2.mono fun e w' ⟨v', φ', a1, a2, a3, a4, a5, a6⟩ => ⟨v', φ', a1, a2, a3, a4.more hn hg, a5, Nat.le_trans a6 hn⟩⟩

theorem FDoes.pad1 {P : Program} {f : FuncId} {args : List AVal} {h h' : AHeap} {v : AVal} (k : FDoes P f args h v h') (l : List ABlk) : FDoes P f args h v (h'.upd [] l) :=
  k.pad (by show h'.next ≤ (AHeap.updFrom [] l h').next; rw [AHeap.updFrom_next [] l h' (by simp)]; omega) fun i hi => AHeap.updFrom_out [] l h' i (by simp) hi (by simp)

theorem Ent.pad {base n : Nat} {F : Facts} {h h2 : AHeap} (hn : h.next ≤ h2.next) (hg : ∀ i, i < h.next → h2.get i = h.get i) : Ent base n F h F h2 :=
  fun S w0 φ0 φ a w h0 hk ⟨s, hl, hF, r⟩ => ⟨φ, hk, s, hl, hF, r.slots, r.heap.more hn hg, r.below, r.defers⟩

/-! ## what hints ask -/

theorem sameOld_refl (n : Nat) (h : AHeap) : sameOld n h h = true := Trie.sameBelow_of ABlk.same_refl n h.blks h.blks 0 1 fun _ _ => rfl
theorem elem_made {l : List AVal} {es k : Nat} {ex : Bool} {v : AVal} (h : l[k]? = some v) : (ABlk.made l es ex).elem? 0 k = some v := by
  have := (List.getElem?_eq_some_iff.1 h).1
  simp only [ABlk.elem?, ABlk.lim_made, if_true]
  rw [if_pos this]; exact h

/-- a slice that came in: nil, or a stretch of the row 'id' -/
def SlArg (o : Option AAddr) (n c id ver off es : Nat) : Prop := o = some ⟨id, ver, off, 0, es⟩ ∨ (o = none ∧ n = 0 ∧ c = 0)

theorem SlArg.index {o : Option AAddr} {n c id ver off es : Nat} (h : SlArg o n c id ver off es) {D : Tys} {t e : TypeId} {d xd : TyD} (hd : D t = some d) (hk : d.kind = .slice e) (hx : D e = some xd) (hes : es = xd.size) {k : IntKind} {i : Int} (h0 : 0 ≤ i) (hi : i < n) :
    aindexAddr D t (.slice o n c) (.int k i) = some (.ptr (some ⟨id, ver, off + i.toNat, 0, es⟩)) := by
  rcases h with rfl | ⟨_, rfl, _⟩
  · simp only [aindexAddr, hd, hk, hx]
    rw [if_pos ⟨h0, hi, hes⟩]
  · omega

theorem SlArg.ren {o : Option AAddr} {n c id ver off es : Nat} (h : SlArg o n c id ver off es) {r : Nat → Nat} {o' : Option AAddr} (h' : (o' = none ∧ o = none) ∨ (∃ x, o = some x ∧ o' = some { x with id := r x.id })) :
    (AVal.slice o n c).ren r = .slice o' n c := by
  rcases h' with ⟨rfl, rfl⟩ | ⟨x, rfl, rfl⟩
  · rfl
  · rfl

/-- the same stretch, of row 0 -/
def AddrZ (o : Option AAddr) : Option AAddr := o.map fun a => { a with id := 0 }
theorem SlArg.zero {o : Option AAddr} {n c id ver off es : Nat} (h : SlArg o n c id ver off es) : SlArg (AddrZ o) n c 0 ver off es := by
  rcases h with rfl | ⟨rfl, h1, h2⟩
  · exact .inl rfl
  · exact .inr ⟨rfl, h1, h2⟩
theorem SlArg.at {o : Option AAddr} {n c id ver off es : Nat} (h : SlArg o n c id ver off es) (id' : Nat) : SlArg (o.map fun a => { a with id := id' }) n c id' ver off es := by
  rcases h with rfl | ⟨rfl, h1, h2⟩
  · exact .inl rfl
  · exact .inr ⟨rfl, h1, h2⟩
theorem SlArg.back {o : Option AAddr} {n c id ver off es : Nat} (h : SlArg o n c id ver off es) {id' : Nat} {r : Nat → Nat} (hr : r id' = id) : (AVal.slice (o.map fun a => { a with id := id' }) n c).ren r = .slice o n c := by
  rcases h with rfl | ⟨rfl, h1, h2⟩
  · simp [AVal.ren, AAddr.ren, hr]
  · rfl

theorem SlArg.clo {o : Option AAddr} {n c id ver off es : Nat} (h : SlArg o n c id ver off es) {D : Nat → Prop} (hD : D id) : Clo D (.slice o n c) := by
  rcases h with rfl | ⟨rfl, _, _⟩
  · exact hD
  · simp [Clo]

/-- a type of slices: of elements of so many cells and bytes -/
structure SlTy (D : Tys) (t e : TypeId) (sz by' : Nat) : Prop where
  ty : ∃ d xd, D t = some d ∧ d.kind = .slice e ∧ D e = some xd ∧ xd.size = sz ∧ xd.bytes = by' ∧ 0 < sz ∧ xd.zeroFits = true

section
variable {E : AEnv} {t e : TypeId} {sz by' nid : Nat} {h : AHeap} {x : AVal} {new : List AVal}

theorem app_start (hs : SlTy E.D t e sz by') (s : AVal) : abuiltin E .append #[t, t] [s, x] nid h = aappend E.D t s x nid h := by
  obtain ⟨d, xd, h1, h2, h3, rfl, rfl, h4, h5⟩ := hs.ty
  simp only [abuiltin, List.getElem?_toArray, List.getElem?_cons_zero, List.getElem?_cons_succ, h1, h2]

theorem app_new (hs : SlTy E.D t e sz by') (hx : elemsOf sz x h = some new) (hne : new ≠ []) (hb : (new.length + new.length / 4 + 512) * by' ≤ 2 ^ 48) (hl : new.length < 2 ^ 62) :
    abuiltin E .append #[t, t] [.slice none 0 0, x] nid h = some (newSlice nid sz new.length new.length, h.set nid (.made new sz false)) := by
  rw [app_start hs]
  obtain ⟨d, xd, h1, h2, h3, rfl, rfl, h4, h5⟩ := hs.ty
  have hn : ¬ 0 + new.length = 0 := by rw [Nat.zero_add]; intro c; exact hne (List.eq_nil_of_length_eq_zero c)
  simp only [aappend, h1, h2, h3, hx]
  rw [if_pos ⟨h4, by simpa using hb, by simpa using hl, h5⟩]
  rw [if_neg hn, if_pos ⟨trivial, trivial⟩, Nat.zero_add]

theorem app_grow (hs : SlTy E.D t e sz by') (hx : elemsOf sz x h = some new) (hne : new ≠ []) {a : AAddr} {len cap : Nat} {b : ABlk} (hb : ((len + new.length) + (len + new.length) / 4 + 512) * by' ≤ 2 ^ 48) (hl : len + new.length < 2 ^ 62)
    (hg : h.get a.id = some b) (hes : a.es = sz) (hcap : ¬ len + new.length ≤ cap) (h6 : b.exact = false) (h7 : b.ro = false) (h8 : a.ver = b.ver) (h9 : a.idx + len = b.elems.length) :
    abuiltin E .append #[t, t] [.slice (some a) len cap, x] nid h = some (.slice (some { a with ver := a.ver + 1 }) (len + new.length) (len + new.length), h.set a.id (b.grow new)) := by
  rw [app_start hs]
  obtain ⟨d, xd, h1, h2, h3, rfl, rfl, h4, h5⟩ := hs.ty
  simp only [aappend, h1, h2, h3, hx]
  rw [if_pos ⟨h4, hb, hl, h5⟩]
  rw [if_pos hes]
  simp only [hg]
  rw [if_neg hcap, if_neg (by rw [h6]; simp), if_pos ⟨h7, h8, h9, hne⟩]

theorem app_copy (hs : SlTy E.D t e sz by') (hx : elemsOf sz x h = some new) {a : AAddr} {len cap : Nat} {b : ABlk} {old : List AVal} (hb : ((len + new.length) + (len + new.length) / 4 + 512) * by' ≤ 2 ^ 48) (hl : len + new.length < 2 ^ 62)
    (hg : h.get a.id = some b) (hes : a.es = sz) (hcap : ¬ len + new.length ≤ cap) (h6 : b.exact = true) (ho : elemsOf sz (.slice (some a) len cap) h = some old) :
    abuiltin E .append #[t, t] [.slice (some a) len cap, x] nid h = some (newSlice nid sz (len + new.length) (len + new.length), h.set nid (.made (old ++ new) sz false)) := by
  rw [app_start hs]
  obtain ⟨d, xd, h1, h2, h3, rfl, rfl, h4, h5⟩ := hs.ty
  simp only [aappend, h1, h2, h3, hx]
  rw [if_pos ⟨h4, hb, hl, h5⟩]
  rw [if_pos hes]
  simp only [hg]
  rw [if_neg hcap, if_pos h6]
  simp only [ho]

/-- nothing is appended -/
theorem app_none (hs : SlTy E.D t e sz by') (hx : elemsOf sz x h = some []) {o : Option AAddr} {len cap : Nat} {b : ABlk} (hb : (len + len / 4 + 512) * by' ≤ 2 ^ 48) (hl : len < 2 ^ 62)
    (hg : ∀ a, o = some a → h.get a.id = some b ∧ a.es = sz) (hcap : len ≤ cap) (hn : o = none → len = 0) : abuiltin E .append #[t, t] [.slice o len cap, x] nid h = some (.slice o len cap, h) := by
  rw [app_start hs]
  obtain ⟨d, xd, h1, h2, h3, rfl, rfl, h4, h5⟩ := hs.ty
  simp only [aappend, h1, h2, h3, hx]
  rw [if_pos ⟨h4, by simpa using hb, by simpa using hl, h5⟩]
  cases o with
  | none => have := hn rfl; subst this; simp
  | some a =>
    obtain ⟨k1, k2⟩ := hg a rfl
    simp only
    rw [if_pos k2]
    simp only [k1]
    rw [if_pos (by simpa using hcap), if_pos trivial]
    simp
end

/-- the elements of a slice that is read -/
theorem elemsOf_slice {h : AHeap} {o : Option AAddr} {n c id ver off sz : Nat} (hs : SlArg o n c id ver off sz) {b : ABlk} (hg : h.get id = some b) {f : Nat → AVal} (hx : ∀ j, j < n → b.elem? ver (off + j) = some (f j)) :
    elemsOf sz (.slice o n c) h = some ((List.range n).map f) := by
  rcases hs with rfl | ⟨rfl, rfl, rfl⟩
  · simp only [elemsOf, if_true, hg]
    by_cases hn : n = 0
    · subst hn; simp
    · rw [if_neg hn]
      have key : ∀ j, j < n → off + j < b.lim ver ∧ b.elems[off + j]? = some (f j) := by
        intro j hj
        have := hx j hj
        unfold ABlk.elem? at this
        split at this
        · exact ⟨‹_›, this⟩
        · cases this
      have hlast := key (n - 1) (by omega)
      have hlen := (List.getElem?_eq_some_iff.1 hlast.2).1
      rw [if_pos ⟨by omega, by omega⟩]
      congr 1
      apply List.ext_getElem?
      intro j
      by_cases hj : j < n
      · rw [List.getElem?_take, if_pos hj, List.getElem?_drop, (key j hj).2]; simp [hj]
      · rw [List.getElem?_take, if_neg hj, List.getElem?_eq_none (by simp; omega)]
  · simp [elemsOf]

/-- loops are taken round by round -/
theorem Loops.round {P : Program} {base n : Nat} {c : Code} {F F1 F2 : Facts} {h h1 h1' h2 : AHeap} {e : AExit} (k1 : Runs P base n c F h .normal F1 h1) (i : Ent base n F1 h1 F1 h1') (k2 : Loops P base n c F1 h1' e F2 h2) : Loops P base n c F h e F2 h2 :=
  Loops.step (k1.post i) k2

end
end Go.Lift

namespace Go.Proofs.Ytcgcpmcjaeenlaa
open Go.Lift

set_option maxRecDepth 1000000
noncomputable def env : AEnv := { D := tyD Try.prog, eqs := [36, 28, 38, 45] }
theorem env_ok : EnvOk Try.prog env where
  tys := Tys.ok_self _
  eqs := eqs_of (by decide +kernel)
  names := names_of (by decide +kernel)
  prims := fun _ _ h => by cases h
theorem mixed : Try.prog.follows .mixedOrders = true := by decide +kernel
end Go.Proofs.Ytcgcpmcjaeenlaa

namespace Go.Proofs.Ytcgcpmcjaeenlaa
open Go.Lift
set_option maxRecDepth 1000000

theorem ix_int {o : Option AAddr} {n c id ver off : Nat} (h : SlArg o n c id ver off 1) {k : IntKind} {i : Int} (h0 : 0 ≤ i) (hi : i < n) :
    aindexAddr env.D 32 (.slice o n c) (.int k i) = some (.ptr (some ⟨id, ver, off + i.toNat, 0, 1⟩)) :=
  h.index (d := ⟨.slice 3, 1, 24, some (.slice none 0 0)⟩) (xd := ⟨.int .i64, 1, 8, some (.int .i64 0)⟩) (show tyD _ _ = _ by kernel_rfl) rfl (show tyD _ _ = _ by kernel_rfl) rfl h0 hi

theorem ix_intN {o : Option AAddr} {n c id ver off : Nat} (h : SlArg o n c id ver off 1) {k : IntKind} {i : Nat} (hi : i < n) :
    aindexAddr env.D 32 (.slice o n c) (.int k i) = some (.ptr (some ⟨id, ver, off + i, 0, 1⟩)) := ix_int h (by omega) (by omega)

def sumTo (f : Nat → Int) : Nat → Int
  | 0 => 0
  | n + 1 => sumTo f n + f n

/-! rows of integers -/
def ints (n : Nat) (f : Nat → Int) : List AVal := (List.range n).map fun j => .int .i64 (f j)
@[simp] theorem ints_length (n : Nat) (f : Nat → Int) : (ints n f).length = n := by simp [ints]
theorem ints_get {n : Nat} {f : Nat → Int} {i : Nat} (h : i < n) : (ints n f)[i]? = some (.int .i64 (f i)) := by simp [ints, h]
theorem ints_congr {n : Nat} {f g : Nat → Int} (h : ∀ j, j < n → f j = g j) : ints n f = ints n g := List.map_congr_left fun j hj => by rw [h j (List.mem_range.1 hj)]
theorem ints_set {n : Nat} {f : Nat → Int} {i : Nat} {v : Int} : (ints n f).set i (.int .i64 v) = ints n (fun j => if j = i then v else f j) := by
  apply List.ext_getElem (by simp)
  intro j h1 h2
  rw [List.getElem_set]
  simp only [ints, List.getElem_map, List.getElem_range]
  by_cases e : i = j
  · subst e; simp
  · rw [if_neg e, if_neg (Ne.symm e)]
theorem ints_bare (n : Nat) (f : Nat → Int) : ∀ e ∈ ints n f, Bare e := Bare.ints _ _ _
theorem ints_snoc (n : Nat) (f : Nat → Int) : ints n f ++ [.int .i64 (f n)] = ints (n + 1) f := by simp [ints, List.range_succ]
end Go.Proofs.Ytcgcpmcjaeenlaa

namespace Go.Proofs.Ytcgcpmcjaeenlaa
open Go.Lift
set_option maxRecDepth 1000000
set_option linter.unusedSimpArgs false
set_option linter.unusedVariables false

/-- the chapter's table -/
def rightB (k n d mn mx : Int) : Bool := decide (0 ≤ mn ∧ mn ≤ 4096 ∧ (mx = 0 ∨ (1 ≤ mx ∧ mx ≤ 4096 ∧ mn ≤ mx)) ∧
  ((k = 0 ∧ n = 0 ∧ d = 0) ∨ (k = 1 ∧ 0 ≤ n ∧ n ≤ 4096 ∧ d = 0) ∨ (k = 2 ∧ 0 ≤ n ∧ n ≤ 1000 ∧ 1 ≤ d ∧ d ≤ 1000) ∨ (k = 3 ∧ 1 ≤ n ∧ n ≤ 1000 ∧ d = 0)))
def withinB (n a b : Int) : Bool := decide (a ≤ n ∧ n ≤ b)

theorem right_does_21 (k n d mn mx : Int) (hc_0 : ¬ (mn < 0)) (hc_1 : ¬ (mn > 4096)) (hc_2 : mx = 0) (hc_3 : k = 0) (hc_4 : n = 0) (hc_5 : d = 0) :
    FDoes Try.prog 40 [.agg [.int .i8 k, .int .i64 n, .int .i64 d, .int .i64 mn, .int .i64 mx]] (⟨0, .nil⟩) (AVal.bool true) (AHeap.rows 41 [(0, .made [.agg [.int .i8 k, .int .i64 n, .int .i64 d, .int .i64 mn, .int .i64 mx]] 5 true)]) :=
  pcall_does env_ok mixed (hs := [.val 1002 (.bool false), .val 1006 (.bool false), .val 1011 (.bool false), .val 4000 (.bool true), .val 5002 (.bool true), .val 5006 (.bool true)]) (rs := []) (by kernel_rfl) (All.cons (okF hc_0) (All.cons (okF hc_1) (All.cons (neF hc_2) (All.cons (eqT hc_3) (All.cons (eqT hc_4) (All.cons (eqT hc_5) (All.nil)))))))
theorem right_does_24 (k n d mn mx : Int) (hc_0 : ¬ (mn < 0)) (hc_1 : ¬ (mn > 4096)) (hc_2 : mx = 0) (hc_3 : ¬ (k = 0)) (hc_4 : k = 1) (hc_5 : n ≥ 0) (hc_6 : n ≤ 4096) (hc_7 : d = 0) :
    FDoes Try.prog 40 [.agg [.int .i8 k, .int .i64 n, .int .i64 d, .int .i64 mn, .int .i64 mx]] (⟨0, .nil⟩) (AVal.bool true) (AHeap.rows 48 [(0, .made [.agg [.int .i8 k, .int .i64 n, .int .i64 d, .int .i64 mn, .int .i64 mx]] 5 true)]) :=
  pcall_does env_ok mixed (hs := [.val 1002 (.bool false), .val 1006 (.bool false), .val 1011 (.bool false), .val 4000 (.bool false), .val 6000 (.bool true), .val 7002 (.bool true), .val 7006 (.bool true), .val 7011 (.bool true)]) (rs := []) (by kernel_rfl) (All.cons (okF hc_0) (All.cons (okF hc_1) (All.cons (neF hc_2) (All.cons (eqF hc_3) (All.cons (eqT hc_4) (All.cons (okT hc_5) (All.cons (okT hc_6) (All.cons (eqT hc_7) (All.nil)))))))))
end Go.Proofs.Ytcgcpmcjaeenlaa

namespace Go.Lift
noncomputable section
open Go.RowKit Go.ChangeShapes Go.WideShapes Go.ChangeAt
set_option linter.unusedVariables false
set_option linter.unusedSimpArgs false

/-- a row as it came in -/
structure ArgRow (w : World) (b : ABlk) (p : Place) : Prop where
  ro : p.ro = true
  bro : b.ro = true
  ver : b.ver = 0
  es : p.es = b.es
  pos : 0 < p.es
  exact : p.exact = b.exact
  row : ∀ (φ : Map) (S : Nat → Prop), Row φ S b 0 p w
  bare : BareB b

def rowsMap (ps : List Place) : Map := fun i v => if v = 0 then ps[i]? else none

theorem HRel.of_args {w : World} {S : Nat → Prop} (l : List (ABlk × Place)) (h : ∀ x ∈ l, ArgRow w x.1 x.2) : HRel (rowsMap (l.map (·.2))) S (AHeap.of (l.map (·.1))) w where
  dom i v p hp := by
    unfold rowsMap at hp
    split at hp
    · rename_i hv; subst hv
      rw [List.getElem?_map, Option.map_eq_some_iff] at hp
      obtain ⟨x, hx, rfl⟩ := hp
      have k := h x (List.mem_of_getElem? hx)
      have hi := (List.getElem?_eq_some_iff.1 hx).1
      refine ⟨by rw [AHeap.of_next]; simpa using hi, x.1, ?_, by omega, k.es, k.exact, by rw [k.ro, k.bro], k.pos, k.row _ _⟩
      rw [AHeap.of_get, List.getElem?_map, hx]; rfl
    · cases hp
  apart i v p j u q hp hq _ _ := by
    have : ∀ {i v p}, rowsMap (l.map (·.2)) i v = some p → p.ro = true := by
      intro i v p hp
      unfold rowsMap at hp
      split at hp
      · rw [List.getElem?_map, Option.map_eq_some_iff] at hp
        obtain ⟨x, hx, rfl⟩ := hp
        exact (h x (List.mem_of_getElem? hx)).ro
      · cases hp
    exact ⟨this hp, this hq⟩
  same i v p u q hp hq _ := by
    unfold rowsMap at hp hq
    split at hp
    · split at hq
      · rw [hp] at hq; simp only [Option.some.injEq] at hq; subst hq; exact ⟨rfl, rfl⟩
      · cases hq
    · cases hp

/-- a row of none -/
def noBlk (es : Nat) : ABlk := { elems := [], es, exact := true, ro := true, ver := 0, minVer := 0, forkLen := 0 }
def noPlace (es : Nat) : Place := { blk := 0, off := 0, lo := 0, es, tot := 0, exact := true, ro := true }

theorem noRow {w : World} (hw : 0 < w.heap.size) {es : Nat} (he : 0 < es) : ArgRow w (noBlk es) (noPlace es) where
  ro := rfl
  bro := rfl
  ver := rfl
  es := rfl
  pos := he
  exact := rfl
  row φ S := ⟨hw, (fun h => by cases h), fun o ho => by simp [noPlace] at ho, (fun h => by cases h), fun i e h1 h2 h3 => by simp [noBlk] at h3⟩
  bare e he := by simp [noBlk] at he

theorem wf_fit {n : Int} (h : (Lit.int .i64 n).wf = true) : Fit64 n := by
  simp [Lit.wf, IntKind.min, IntKind.max, IntKind.signed, IntKind.bits] at h
  unfold Fit64; omega

/-- some block is there -/
theorem size_of_shape {P : Program} {W : World} (h : W.ShapedOpen P) (hk : Nat.blt P.globals.size (begin P (fun _ _ => 0) default).world.heap.size = true) : 0 < W.heap.size := by
  obtain ⟨o, _, h1, _⟩ := h.2 P.globals.size (Nat.le_refl _) (Nat.blt_eq.mp hk)
  have := (Array.getElem?_eq_some_iff.1 h1).1
  omega

/-- a law that answers true, over rows that came in -/
theorem FDoes.law {P : Program} {f : FuncId} {args : List AVal} {h' : AHeap} {l : List (ABlk × Place)} (k : FDoes P f args (AHeap.of (l.map (·.1))) (.bool true) h') {w : World} (hl : ∀ x ∈ l, ArgRow w x.1 x.2) {args' : Array Value} (ha : VRels (rowsMap (l.map (·.2))) args args'.toList) :
    Calls P f args' w fun e w' => e = .returned (.bool true) ∧ Below w.heap.size w w' := by
  have := (k (fun k => k < w.heap.size) w (fun _ h => h) _ w args' (HRel.of_args l hl) (Safe.refl _ _) ha).2
  exact this.mono fun e w' ⟨v', φ', h1, _, h2, _, h3, _⟩ => by
    simp only [VRel] at h2
    subst h2; exact ⟨h1, h3.below⟩

end
end Go.Lift

namespace Go.Lift
noncomputable section
open Go.RowKit Go.ChangeShapes Go.WideShapes Go.ChangeAt
set_option linter.unusedVariables false
set_option linter.unusedSimpArgs false

/-- of which kind is cell c of a flat type? -/
def cellKind (P : Program) : Nat → TypeId → Nat → Option TK
  | 0, _, _ => none
  | d + 1, t, c =>
    match P.underlying t with
    | some (.int k) => if c = 0 then some (.int k) else none
    | some .bool => if c = 0 then some .bool else none
    | some .string => if c = 0 then some .string else none
    | some (.struct fs) => fs.toList.findSome? fun f => if f.offset ≤ c ∧ c < f.offset + P.cellsOf f.type then cellKind P d f.type (c - f.offset) else none
    | some (.array n e) => if c / P.cellsOf e < n then cellKind P d e (c % P.cellsOf e) else none
    | _ => none

/-- a cell of its kind -/
def CellIs : TK → Value → Prop
  | .int k, v => ∃ n, v = .int k n ∧ (Lit.int k n).wf = true
  | .bool, v => ∃ b, v = .bool b
  | .string, v => ∃ s : ByteArray, v = .string s ∧ s.size ≤ maxLen
  | _, _ => False

section
variable {H : Type} {enc : TypeId × Value → H} {P : Program} {w : World} {base : Nat} {spare : Nat → Bool} {held : Bool}

theorem cell_flat : ∀ (d : Nat) {t : TypeId} {c : Nat} {k : TK} {fuel : Nat} {cs : List Value} {x : DataW H × List MemPlace}, cellKind P d t c = some k → DataW.trod enc P w base spare held fuel t cs = some x → ∃ v, cs[c]? = some v ∧ CellIs k v := by
  intro d
  induction d with
  | zero => intro t c k fuel cs x h; cases h
  | succ d ih =>
    intro t c k fuel cs x h hx
    simp only [cellKind] at h
    split at h
    · rename_i kk hu
      split at h
      · rename_i hc; subst hc
        simp only [Option.some.injEq] at h; subst h
        obtain ⟨n, rfl, _, hw⟩ := DataW.trod_int hu hx
        exact ⟨_, rfl, n, rfl, hw⟩
      · cases h
    · rename_i hu
      split at h
      · rename_i hc; subst hc
        simp only [Option.some.injEq] at h; subst h
        obtain ⟨b, rfl, _⟩ := DataW.trod_bool hu hx
        exact ⟨_, rfl, b, rfl⟩
      · cases h
    · rename_i hu
      split at h
      · rename_i hc; subst hc
        simp only [Option.some.injEq] at h; subst h
        obtain ⟨s, rfl, _, hs⟩ := DataW.trod_string hu hx
        exact ⟨_, rfl, s, rfl, hs⟩
      · cases h
    · rename_i fs hu
      obtain ⟨f, hf, hk⟩ := List.exists_of_findSome?_eq_some h
      split at hk
      · rename_i hc
        obtain ⟨xs, n, _, _, hl, hxl, hfs⟩ := DataW.trod_struct hu hx
        obtain ⟨j, hj, hfj⟩ := List.mem_iff_getElem.1 hf
        have hj' : fs[j]? = some f := by rw [← Array.getElem?_toList, List.getElem?_eq_getElem hj, hfj]
        have h1 := hfs j f hj'
        rw [List.getElem?_eq_getElem (by rw [hxl]; simpa using hj)] at h1
        obtain ⟨v, hv, his⟩ := ih hk h1
        rw [List.getElem?_take] at hv
        split at hv
        · rw [List.getElem?_drop, show f.offset + (c - f.offset) = c by omega] at hv
          exact ⟨v, hv, his⟩
        · cases hv
      · cases hk
    · rename_i n e hu
      split at h
      · rename_i hc
        obtain ⟨xs, m, _, _, hl, hxl, hes⟩ := DataW.trod_array hu hx
        have h1 := hes _ hc
        rw [List.getElem?_eq_getElem (by omega)] at h1
        obtain ⟨v, hv, his⟩ := ih h h1
        rw [List.getElem?_take] at hv
        split at hv
        · rw [List.getElem?_drop, Nat.mul_comm, Nat.div_add_mod] at hv
          exact ⟨v, hv, his⟩
        · cases hv
      · cases h
    · cases h

theorem CellIs.bare {k : TK} {v : Value} (h : CellIs k v) : Bare (ofScalar v) ∧ (ofScalar v).simple = true ∧ v.oneCell' = true := by
  cases k with
  | int k => obtain ⟨n, rfl, _⟩ := h; exact ⟨Bare.int _ _, rfl, by first | trivial | rfl⟩
  | bool => obtain ⟨b, rfl⟩ := h; exact ⟨Bare.bool _, rfl, by first | trivial | rfl⟩
  | string => obtain ⟨s, rfl, _⟩ := h; exact ⟨Bare.str _, rfl, by first | trivial | rfl⟩
  | _ => exact h.elim

/-- an element made of its cells -/
def elemA (isA : Bool) (cs : List AVal) : AVal := if isA then .agg cs else cs.headD .undef

theorem elemA_cells {isA : Bool} {cs : List AVal} (h : isA = false → ∃ a, cs = [a] ∧ a.simple = true) : (elemA isA cs).cells = cs := by
  unfold elemA
  cases isA with
  | true => rfl
  | false =>
    obtain ⟨a, rfl, ha⟩ := h rfl
    cases a <;> simp [AVal.cells] <;> cases ha

theorem Bare.agg {l : List AVal} (h : ∀ a ∈ l, Bare a) : Bare (.agg l) := by
  refine ⟨fun r => ?_, ?_⟩
  · simp only [AVal.ren, AVal.rens_map]
    have : l.map (AVal.ren r) = l := by
      conv => rhs; rw [← List.map_id l]
      exact List.map_congr_left fun e he => (h e he).1 r
    rw [this]
  · simp only [Clo]; exact Clos_iff.2 fun a ha => (h a ha).2

/-- a slice of flat elements, as it came in: the cells of its elements, as they lie in the world -/
def cellAt (w : World) (x : Addr) (j : Nat) : Value := (w.cell? (x.add j)).getD undef
def elemAt (w : World) (x : Addr) (isA : Bool) (sz i : Nat) : AVal := elemA isA ((List.range sz).map fun j => ofScalar (cellAt w x (i * sz + j)))

theorem open_flat_arg {isA : Bool} {t e : TypeId} {d sz : Nat} {ks : List TK} (hw : 0 < w.heap.size) (ht : P.underlying t = some (.slice e)) (hc : P.cellsOf e = sz) (hsz : Nat.blt 0 sz = true) (hA : isA = false → sz = 1)
    (hks : (List.range sz).map (cellKind P d e) = ks.map some) {a : Option Addr} {len cap : Nat} {dd : DataW H} {ps : List MemPlace} (h : DataW.Trod enc P w 0 (fun _ => true) true t (.slice a len cap) dd ps) (id : Nat) :
    ∃ (o : Option AAddr) (c : Nat) (b : ABlk) (p : Place) (x : Addr), SlArg o len c id 0 0 sz ∧ ArgRow w b p ∧ len ≤ maxLen ∧ (∀ φ : Map, φ id 0 = some p → VRel φ (.slice o len c) (.slice a len cap)) ∧
      (∀ i, i < len → b.elem? 0 (0 + i) = some (elemAt w x isA sz i)) ∧ (∀ i j, i < len → j < sz → ∃ k, ks[j]? = some k ∧ CellIs k (cellAt w x (i * sz + j))) := by
  have hsz : 0 < sz := Nat.blt_eq.mp hsz
  have hkk : ∀ j, j < sz → ∃ k, ks[j]? = some k ∧ cellKind P d e j = some k := by
    intro j hj
    have h1 := congrArg (fun (l : List (Option TK)) => l[j]?) hks
    simp only [List.getElem?_map, List.getElem?_range hj, Option.map_some] at h1
    cases hk : ks[j]? with
    | none => rw [hk] at h1; cases h1
    | some k => rw [hk] at h1; simp at h1; exact ⟨k, rfl, h1⟩
  obtain ⟨fuel, hf⟩ := h
  have hf' : DataW.trod enc P w 0 (fun _ => true) true fuel t [.slice a len cap] = some (dd, ps) := hf
  rcases DataW.trod_slice ht hf' with ⟨hcs, _⟩ | ⟨x, l, c, elems, rest, n, _, hcs, _, _, hl, hm, hlen, hel, hsp, _⟩
  · simp at hcs
    obtain ⟨rfl, rfl, rfl⟩ := hcs
    exact ⟨none, 0, noBlk sz, noPlace sz, ⟨0, 0, none⟩, .inr ⟨rfl, rfl, rfl⟩, noRow hw hsz, by simp, fun φ _ => by simp [VRel], fun i hi => by omega, fun i j hi => by omega⟩
  · simp at hcs
    obtain ⟨rfl, rfl, rfl⟩ := hcs
    obtain ⟨hrl, hr⟩ := hsp rfl
    -- each element's cells
    have each : ∀ i, i < cap → ∃ cs y, w.cells? 0 (x.add (i * sz)) sz = some cs ∧ DataW.trod enc P w 0 (fun _ => true) true n e cs = some y := by
      intro i hi
      have hb : ∃ y, (w.cells? 0 (x.add (i * P.cellsOf e)) (P.cellsOf e)).bind (DataW.trod enc P w 0 (fun _ => true) true n e) = some y := by
        by_cases c1 : i < len
        · exact ⟨_, (hel i c1).trans (List.getElem?_eq_getElem (by omega))⟩
        · have := hr (i - len) (by omega)
          rw [show len + (i - len) = i by omega] at this
          exact ⟨_, this.trans (List.getElem?_eq_getElem (by omega))⟩
      obtain ⟨y, hy⟩ := hb
      rw [hc, Option.bind_eq_some_iff] at hy
      obtain ⟨cs, h1, h2⟩ := hy
      exact ⟨cs, y, h1, h2⟩
    have cell : ∀ i j, i < cap → j < sz → ∃ v k, w.cell? (x.add (i * sz + j)) = some v ∧ ks[j]? = some k ∧ CellIs k v := by
      intro i j hi hj
      obtain ⟨cs, y, h1, h2⟩ := each i hi
      obtain ⟨k, hk, hkd⟩ := hkk j hj
      obtain ⟨v, hv, his⟩ := cell_flat d hkd h2
      refine ⟨v, k, ?_, hk, his⟩
      rw [← Go.Deep.add_add, (World.cells?_some h1).2.2 j hj, hv]
    have hcellAt : ∀ i j, i < cap → j < sz → w.cell? (x.add (i * sz + j)) = some (cellAt w x (i * sz + j)) ∧ ∃ k, ks[j]? = some k ∧ CellIs k (cellAt w x (i * sz + j)) := by
      intro i j hi hj
      obtain ⟨v, k, h1, h2, h3⟩ := cell i j hi hj
      have : cellAt w x (i * sz + j) = v := by simp [cellAt, h1]
      rw [this]; exact ⟨h1, k, h2, h3⟩
    by_cases hcap : cap = 0
    · subst hcap
      obtain rfl : len = 0 := by omega
      refine ⟨some ⟨id, 0, 0, 0, sz⟩, 0, noBlk sz, noPlace sz, x, .inl rfl, noRow hw hsz, by simp, fun φ hφ => ?_, fun j hj => by omega, fun i j hi => by omega⟩
      simp only [VRel]
      exact ⟨x, 0, rfl, Nat.le_refl _, Nat.le_refl _, by first | trivial | rfl, _, hφ, rfl, .inl rfl, fun _ => rfl⟩
    have hspot : x.spot = none := by
      have := (hcellAt 0 0 (by omega) hsz).1
      simpa [Addr.add] using World.cell?_spot this
    have hadd : ∀ i, x.add i = ⟨x.block, x.off + i, none⟩ := by
      intro i
      obtain ⟨bl, of, sp⟩ := x
      simp only at hspot
      subst hspot
      unfold Addr.add
      split
      · rename_i h0; subst h0; rfl
      · rfl
    have hcells : ∀ i, i < cap → (elemAt w x isA sz i).cells = (List.range sz).map fun j => ofScalar (cellAt w x (i * sz + j)) := by
      intro i hi
      refine elemA_cells fun hA' => ?_
      have h1 := hA hA'
      subst h1
      refine ⟨_, rfl, ?_⟩
      obtain ⟨_, k, _, his⟩ := hcellAt i 0 hi (by omega)
      exact his.bare.2.1
    have hblk : x.block < w.heap.size := by
      have := (hcellAt 0 0 (by omega) hsz).1
      rw [hadd] at this
      unfold World.cell? at this
      split at this
      · rename_i hb; exact (Array.getElem?_eq_some_iff.1 hb).1
      · cases this
    refine ⟨some ⟨id, 0, 0, 0, sz⟩, cap, { elems := (List.range cap).map (elemAt w x isA sz), es := sz, exact := true, ro := true, ver := 0, minVer := 0, forkLen := 0 }, { blk := x.block, off := x.off, lo := 0, es := sz, tot := cap, exact := true, ro := true }, x, .inl rfl, ?_, by omega, ?_, ?_, fun i j hi hj => (hcellAt i j (by omega) hj).2⟩
    · refine ⟨rfl, rfl, rfl, rfl, hsz, rfl, fun φ S => ⟨hblk, (fun h => by cases h), ?_, (fun h => by cases h), ?_⟩, ?_⟩
      · intro o ho
        simp only at ho
        have h1 : o / sz < cap := Nat.div_lt_of_lt_mul (by rw [Nat.mul_comm]; exact ho)
        have := (hcellAt (o / sz) (o % sz) h1 (Nat.mod_lt _ hsz)).1
        rw [show o / sz * sz + o % sz = o by rw [Nat.mul_comm]; exact Nat.div_add_mod o sz, hadd] at this
        simp only [this]; rfl
      · intro i e0 _ _ he
        simp only [List.getElem?_map, Option.map_eq_some_iff] at he
        obtain ⟨i', hi', rfl⟩ := he
        have hi := (List.getElem?_eq_some_iff.1 hi').1
        simp only [List.length_range] at hi
        rw [List.getElem?_range hi] at hi'
        simp only [Option.some.injEq] at hi'; subst hi'
        refine ⟨by rw [hcells i hi]; simp, by simp only; omega, fun j x' hx => ?_⟩
        rw [hcells i hi, List.getElem?_map, Option.map_eq_some_iff] at hx
        obtain ⟨j', hj', rfl⟩ := hx
        have hj := (List.getElem?_eq_some_iff.1 hj').1
        simp only [List.length_range] at hj
        rw [List.getElem?_range hj] at hj'
        simp only [Option.some.injEq] at hj'; subst hj'
        obtain ⟨h1, k, _, his⟩ := hcellAt i j hi hj
        refine ⟨_, ?_, ofScalar_rel φ _, his.bare.2.2⟩
        rw [hadd] at h1
        simp only [Place.at, Nat.sub_zero, Nat.add_assoc]
        exact h1
      · intro e0 he
        obtain ⟨i, hi, rfl⟩ := List.mem_map.1 he
        have hi := List.mem_range.1 hi
        unfold elemAt elemA
        have hall : ∀ a ∈ (List.range sz).map (fun j => ofScalar (cellAt w x (i * sz + j))), Bare a := by
          intro a ha
          obtain ⟨j, hj, rfl⟩ := List.mem_map.1 ha
          obtain ⟨_, k, _, his⟩ := hcellAt i j hi (List.mem_range.1 hj)
          exact his.bare.1
        cases isA with
        | true => exact Bare.agg hall
        | false =>
          have h1 := hA rfl
          subst h1
          exact hall _ (by simp)
    · intro φ hφ
      simp only [VRel]
      refine ⟨x, cap, rfl, hl, Nat.le_refl _, by first | trivial | rfl, _, hφ, rfl, ?_, fun _ => rfl⟩
      refine .inr ⟨Nat.le_refl _, ?_, by simp⟩
      have := hadd 0
      simp only [Addr.add, if_true] at this
      simpa [Place.at] using this
    · intro i hi
      have hi' : i < cap := by omega
      simp [ABlk.elem?, ABlk.lim, hi']

theorem weight_len {t e : TypeId} (ht : P.underlying t = some (.slice e)) {a : Option Addr} {len cap : Nat} {dd : DataW H} {ps : List MemPlace} (h : DataW.Trod enc P w base spare held t (.slice a len cap) dd ps)
    (hw : ∀ y ∈ dd.weights P t, y ≤ reachBytes) : len * P.bytesOf e ≤ reachBytes := by
  obtain ⟨fuel, hf⟩ := h
  have hf' : DataW.trod enc P w base spare held fuel t [.slice a len cap] = some (dd, ps) := hf
  rcases DataW.trod_slice ht hf' with ⟨hcs, _⟩ | ⟨x, l, c, elems, rest, n, _, hcs, hx, _, hl, hm, hlen, _⟩
  · simp at hcs
    obtain ⟨_, rfl, _⟩ := hcs
    simp
  · simp at hcs
    obtain ⟨_, rfl, _⟩ := hcs
    simp only [Prod.mk.injEq] at hx
    obtain ⟨rfl, _⟩ := hx
    have := hw ((elems.length + rest.length) * P.bytesOf e) (by simp [DataW.weights, ht])
    rw [hlen] at this
    exact Nat.le_trans (Nat.mul_le_mul_right _ (by omega)) this

theorem weights_cons {t : TypeId} {ts : List TypeId} {d : DataW H} {ds : List (DataW H)} {R : Nat} (h : ∀ y ∈ DataW.weightsEach P (t :: ts) (d :: ds), y ≤ R) : (∀ y ∈ d.weights P t, y ≤ R) ∧ ∀ y ∈ DataW.weightsEach P ts ds, y ≤ R :=
  ⟨fun y hy => h y (by simp [DataW.weightsEach, hy]), fun y hy => h y (by simp [DataW.weightsEach, hy])⟩

/-- the number in a cell -/
def numA : AVal → Int
  | .int _ n => n
  | _ => 0

theorem CellIs.int {k : IntKind} {v : Value} (h : CellIs (.int k) v) : ofScalar v = .int k (numA (ofScalar v)) ∧ (Lit.int k (numA (ofScalar v))).wf = true := by
  obtain ⟨n, rfl, hw⟩ := h; exact ⟨rfl, hw⟩

theorem ints_of {x : Addr} {len : Nat} {b : ABlk} (hx : ∀ i, i < len → b.elem? 0 (0 + i) = some (elemAt w x false 1 i)) (he : ∀ i j, i < len → j < 1 → ∃ k, ([.int .i64] : List TK)[j]? = some k ∧ CellIs k (cellAt w x (i * 1 + j))) :
    ∀ j, j < len → b.elem? 0 (0 + j) = some (.int .i64 (numA (elemAt w x false 1 j))) := by
  intro j hj
  obtain ⟨k, h1, h2⟩ := he j 0 hj (by omega)
  simp at h1
  subst h1
  rw [hx j hj]
  have e : elemAt w x false 1 j = ofScalar (cellAt w x (j * 1 + 0)) := rfl
  rw [e, ← h2.int.1]

end
end
end Go.Lift

namespace Go.Proofs.Ytcgcpmcjaeenlaa
open Go.Lift
set_option maxRecDepth 1000000

structure It where
  k : Int
  n : Int
  d : Int
  mn : Int
  mx : Int

def It.cells (t : It) : List AVal := [.int .i8 t.k, .int .i64 t.n, .int .i64 t.d, .int .i64 t.mn, .int .i64 t.mx]
def It.val (t : It) : AVal := .agg t.cells
structure It.Fits (t : It) : Prop where
  k : -128 ≤ t.k ∧ t.k ≤ 127
  n : Fit64 t.n
  d : Fit64 t.d
  mn : Fit64 t.mn
  mx : Fit64 t.mx

def itKinds : List TK := [.int .i8, .int .i64, .int .i64, .int .i64, .int .i64]

theorem It.bare (t : It) : Bare t.val := Bare.agg (by simp [It.cells, Bare.int])

end Go.Proofs.Ytcgcpmcjaeenlaa

namespace Go.Proofs.Ytcgcpmcjaeenlaa
open Go.Lift
set_option maxRecDepth 1000000
set_option linter.unusedSimpArgs false
set_option linter.unusedVariables false

theorem slInt : SlTy env.D 32 3 1 8 := ⟨⟨⟨.slice 3, 1, 24, some (.slice none 0 0)⟩, ⟨.int .i64, 1, 8, some (.int .i64 0)⟩, by kernel_rfl, rfl, by kernel_rfl, rfl, rfl, by omega, by kernel_rfl⟩⟩

/-- memories with other numbers of rows are not the same -/
theorem nxAbs {q : Prop} {K K2 : Nat} {l l2 : List (Nat × ABlk)} (h : AHeap.rows K l = AHeap.rows K2 l2) (hne : Nat.beq K K2 = false) : q := by
  have := congrArg AHeap.next h
  rw [AHeap.rows_next, AHeap.rows_next] at this
  subst this
  exact absurd rfl (Nat.ne_of_beq_eq_false hne)

/-- numbers that can be read -/
structure IntsAt (H : AHeap) (o : Option AAddr) (n c id ver off : Nat) (b : ABlk) (x : Nat → Int) : Prop where
  sl : SlArg o n c id ver off 1
  get : H.get id = some b
  lt : id < H.next
  bare : BareB b
  el : ∀ j, j < n → b.elem? ver (off + j) = some (.int .i64 (x j))

def sideZ (n : Int) : Int := min (max n 0) 4096
theorem sideZ_range (n : Int) : 0 ≤ sideZ n ∧ sideZ n ≤ 4096 := by unfold sideZ; omega

/-- a row that was appended to, one by one -/
def gRow (f : Nat → Int) (n1 v : Nat) : ABlk := { elems := ints (n1 + v) f, es := 1, exact := false, ro := false, ver := v, minVer := 0, forkLen := if v = 0 then 0 else n1 }
theorem gRow_zero (f : Nat → Int) (n1 : Nat) : ABlk.made (ints n1 f) 1 false = gRow f n1 0 := rfl
theorem gRow_grow (f : Nat → Int) (n1 v : Nat) : (gRow f n1 v).grow [.int .i64 (f (n1 + v))] = gRow f n1 (v + 1) := by
  unfold ABlk.grow gRow
  simp only [ints_length]
  rw [ints_snoc, show n1 + v + 1 = n1 + (v + 1) by omega]
  by_cases h : v = 0
  · subst h; simp
  · rw [if_neg (by omega), if_neg h, if_neg (by omega)]
    rw [show min n1 (n1 + v) = n1 by omega]
theorem gRow_bare (f : Nat → Int) (n1 v : Nat) : BareB (gRow f n1 v) := fun e he => ints_bare _ _ e he
theorem gRow_el {f : Nat → Int} {n1 v j : Nat} (hj : j < n1 + v) : (gRow f n1 v).elem? v (0 + j) = some (.int .i64 (f j)) := by
  simp only [ABlk.elem?, ABlk.lim, gRow, if_true, ints_length, Nat.zero_add]
  rw [if_pos hj, ints_get hj]

def IRow (n : Nat) (f : Nat → Int) : ABlk := .made (ints n f) 1 true
theorem app_num {f : Nat → Int} {n1 v id : Nat} (h1 : 1 ≤ n1) (hv : n1 + v ≤ 2 ^ 44 + 100) (x : Int) (hx1 : f (n1 + v) = x) (t K : Nat) (hp : AHeap) (hg : hp.get id = some (gRow f n1 v)) (hx : elemsOf 1 (.slice (some ⟨t, 0, 0, 0, 1⟩) 1 1) hp = some [.int .i64 x]) :
    abuiltin env .append #[32, 32] [.slice (some ⟨id, v, 0, 0, 1⟩) (n1 + v) (n1 + v), .slice (some ⟨t, 0, 0, 0, 1⟩) 1 1] K hp = some (.slice (some ⟨id, v + 1, 0, 0, 1⟩) (n1 + v + 1) (n1 + v + 1), hp.set id (gRow f n1 (v + 1))) := by
  refine (app_grow slInt hx (by simp) (b := gRow f n1 v) (by simp; omega) (by simp; omega) hg rfl (by simp) rfl rfl rfl (by simp [gRow])).trans ?_
  rw [← hx1, gRow_grow]; rfl

end Go.Proofs.Ytcgcpmcjaeenlaa

namespace Go.Proofs.Ytcgcpmcjaeenlaa
open Go.Lift
set_option maxRecDepth 1000000
set_option linter.unusedSimpArgs false
set_option linter.unusedVariables false
set_option linter.unusedSectionVars false

structure Qd where
  a : Int
  b : Int
  c : Int
  d : Int
deriving DecidableEq

def Qd.cells (t : Qd) : List AVal := [.int .i64 t.a, .int .i64 t.b, .int .i64 t.c, .int .i64 t.d]
def Qd.val (t : Qd) : AVal := .agg t.cells
structure Qd.Fits (t : Qd) : Prop where
  a : Fit64 t.a
  b : Fit64 t.b
  c : Fit64 t.c
  d : Fit64 t.d
def qdKinds : List TK := [.int .i64, .int .i64, .int .i64, .int .i64]
def Qd0 : Qd := ⟨0, 0, 0, 0⟩
theorem Qd.bare (t : Qd) : Bare t.val := Bare.agg (by simp [Qd.cells, Bare.int])

/-- a row of quads -/
def qrows (N : Nat) (f : Nat → Qd) : List AVal := (List.range N).map fun j => (f j).val
@[simp] theorem qrows_length (n : Nat) (f : Nat → Qd) : (qrows n f).length = n := by simp [qrows]
/-- a row of quads that was appended to, one by one -/
def gRowQ (f : Nat → Qd) (n1 v : Nat) : ABlk := { elems := qrows (n1 + v) f, es := 4, exact := false, ro := false, ver := v, minVer := 0, forkLen := if v = 0 then 0 else n1 }
section
variable {T E : Nat} (sl : SlTy env.D T E 4 32)
include sl
end

/-- quads that can be read -/
structure QdsAt (H : AHeap) (o : Option AAddr) (n c id ver off : Nat) (b : ABlk) (x : Nat → Qd) : Prop where
  sl : SlArg o n c id ver off 4
  get : H.get id = some b
  lt : id < H.next
  bare : BareB b
  el : ∀ j, j < n → b.elem? ver (off + j) = some (x j).val

end Go.Proofs.Ytcgcpmcjaeenlaa

namespace Go.Proofs.Ytcgcpmcjaeenlaa
open Go.Lift
set_option maxRecDepth 1000000
set_option linter.unusedSimpArgs false
set_option linter.unusedVariables false

/-- have two spans a cell in common? -/
def MeetsZ (t s : Qd) : Prop := t.a < s.a + s.c ∧ s.a < t.a + t.c ∧ t.b < s.b + s.d ∧ s.b < t.b + t.d
instance (t s : Qd) : Decidable (MeetsZ t s) := inferInstanceAs (Decidable (_ ∧ _))
def FreeZ (T : List Qd) (s : Qd) : Prop := ∀ t, t ∈ T → ¬ MeetsZ t s
def Qd.col (s : Qd) (x : Int) : Qd := ⟨x, s.b, s.c, s.d⟩
def Qd.row (s : Qd) (y : Int) : Qd := ⟨s.a, y, s.c, s.d⟩
def Qd.at (s : Qd) (x y : Int) : Qd := ⟨x, y, s.c, s.d⟩

/-- the least column in its row -/
def AcrossZ (T : List Qd) (cols : Int) (s r : Qd) : Prop :=
  (∃ x, 0 ≤ x ∧ x + s.c ≤ cols ∧ r = s.col x ∧ FreeZ T r ∧ ∀ x', 0 ≤ x' → x' < x → ¬ FreeZ T (s.col x')) ∨ (r = s.col 0 ∧ ∀ x', 0 ≤ x' → x' + s.c ≤ cols → ¬ FreeZ T (s.col x'))
/-- the least row in its column -/
def DownZ (T : List Qd) (s r : Qd) : Prop := ∃ y, 0 ≤ y ∧ r = s.row y ∧ FreeZ T r ∧ ∀ y', 0 ≤ y' → y' < y → ¬ FreeZ T (s.row y')
/-- the first place from a cursor on -/
def BehindZ (T : List Qd) (cols : Int) (s : Qd) (y0 x0 : Int) (r : Qd) : Prop :=
  ∃ y x, r = s.at x y ∧ 0 ≤ x ∧ x + s.c ≤ cols ∧ (y0 < y ∨ y0 = y ∧ x0 ≤ x) ∧ FreeZ T r ∧ ∀ y' x', 0 ≤ x' → x' + s.c ≤ cols → (y0 < y' ∨ y0 = y' ∧ x0 ≤ x') → (y' < y ∨ y' = y ∧ x' < x) → ¬ FreeZ T (s.at x' y')

theorem AcrossZ.uniq {T : List Qd} {cols : Int} {s r r' : Qd} (h : AcrossZ T cols s r) (h' : AcrossZ T cols s r') : r = r' := by
  rcases h with ⟨x, h1, h2, rfl, h4, h5⟩ | ⟨rfl, h5⟩
  · rcases h' with ⟨x', k1, k2, rfl, k4, k5⟩ | ⟨rfl, k5⟩
    · by_cases c : x < x'
      · exact absurd h4 (k5 x h1 c)
      · by_cases c2 : x' < x
        · exact absurd k4 (h5 x' k1 c2)
        · rw [show x = x' by omega]
    · exact absurd h4 (k5 x h1 h2)
  · rcases h' with ⟨x', k1, k2, rfl, k4, k5⟩ | ⟨rfl, k5⟩
    · exact absurd k4 (h5 x' k1 k2)
    · rfl
theorem DownZ.uniq {T : List Qd} {s r r' : Qd} (h : DownZ T s r) (h' : DownZ T s r') : r = r' := by
  obtain ⟨y, h1, rfl, h4, h5⟩ := h
  obtain ⟨y', k1, rfl, k4, k5⟩ := h'
  by_cases c : y < y'
  · exact absurd h4 (k5 y h1 c)
  · by_cases c2 : y' < y
    · exact absurd k4 (h5 y' k1 c2)
    · rw [show y = y' by omega]
theorem BehindZ.uniq {T : List Qd} {cols : Int} {s r r' : Qd} {y0 x0 : Int} (h : BehindZ T cols s y0 x0 r) (h' : BehindZ T cols s y0 x0 r') : r = r' := by
  obtain ⟨y, x, rfl, h1, h2, h3, h4, h5⟩ := h
  obtain ⟨y', x', rfl, k1, k2, k3, k4, k5⟩ := h'
  by_cases c : y < y' ∨ y = y' ∧ x < x'
  · exact absurd h4 (k5 y x h1 h2 h3 c)
  · by_cases c2 : y' < y ∨ y' = y ∧ x' < x
    · exact absurd k4 (h5 y' x' k1 k2 k3 c2)
    · rw [show y = y' by omega, show x = x' by omega]

/-- things that lie where things may lie -/
def GoodT (cols M : Int) (T : List Qd) : Prop := ∀ t, t ∈ T → 0 ≤ t.a ∧ t.a + t.c ≤ cols ∧ 1 ≤ t.c ∧ 0 ≤ t.b ∧ 1 ≤ t.d ∧ t.d ≤ 4096 ∧ t.b + t.d ≤ M

theorem free_low {cols M : Int} {T : List Qd} (h : GoodT cols M T) {s : Qd} (hs : M ≤ s.b) : FreeZ T s := fun t ht hm => by
  have := h t ht
  have := hm.2.2.2
  omega
theorem DownZ.le {cols M : Int} {T : List Qd} (h : GoodT cols M T) (hM : 0 ≤ M) {s r : Qd} (hd : DownZ T s r) : 0 ≤ r.b ∧ r.b ≤ M ∧ r.a = s.a ∧ r.c = s.c ∧ r.d = s.d := by
  obtain ⟨y, h1, rfl, h4, h5⟩ := hd
  refine ⟨h1, ?_, rfl, rfl, rfl⟩
  show y ≤ M
  by_cases c : y ≤ M
  · exact c
  · exact absurd (free_low h (s := s.row M) (Int.le_refl _)) (h5 M hM (by omega))
theorem BehindZ.le {cols M : Int} {T : List Qd} (h : GoodT cols M T) {s r : Qd} (hc : s.c ≤ cols) {y0 x0 : Int} (hd : BehindZ T cols s y0 x0 r) : y0 ≤ r.b ∧ r.b ≤ max (y0 + 1) M ∧ 0 ≤ r.a ∧ r.a + r.c ≤ cols ∧ r.c = s.c ∧ r.d = s.d := by
  obtain ⟨y, x, rfl, h1, h2, h3, h4, h5⟩ := hd
  refine ⟨?_, ?_, h1, h2, rfl, rfl⟩
  · show y0 ≤ y; omega
  · show y ≤ max (y0 + 1) M
    by_cases c : y ≤ max (y0 + 1) M
    · exact c
    · exact absurd (free_low h (s := s.at 0 (max (y0 + 1) M)) (show M ≤ max (y0 + 1) M by omega)) (h5 _ 0 (by omega) (by omega) (by omega) (by omega))
theorem AcrossZ.le {T : List Qd} {cols : Int} {s r : Qd} (hc : s.c ≤ cols) (h : AcrossZ T cols s r) : 0 ≤ r.a ∧ r.a + r.c ≤ cols ∧ r.b = s.b ∧ r.c = s.c ∧ r.d = s.d := by
  rcases h with ⟨x, h1, h2, rfl, h4, h5⟩ | ⟨rfl, h5⟩
  · exact ⟨h1, h2, rfl, rfl, rfl⟩
  · exact ⟨Int.le_refl _, by show 0 + s.c ≤ cols; omega, rfl, rfl, rfl⟩

/-! spans one behind the other -/

def fixedZ (s : Qd) : Bool := decide (0 ≤ s.a ∧ 0 ≤ s.b)
def colsZ (n : Int) : Int := min (max n 1) 64
def inZ2 (n lo hi : Int) : Int := min (max n lo) hi
/-- a span as it counts -/
def normZ (cols : Int) (s : Qd) : Qd := ⟨inZ2 s.a (-1) (cols - inZ2 s.c 1 cols), inZ2 s.b (-1) 4096, inZ2 s.c 1 cols, inZ2 s.d 1 4096⟩
structure NormZ (cols : Int) (s : Qd) : Prop where
  a : -1 ≤ s.a ∧ s.a + s.c ≤ cols
  b : -1 ≤ s.b ∧ s.b ≤ 4096
  c : 1 ≤ s.c ∧ s.c ≤ cols
  d : 1 ≤ s.d ∧ s.d ≤ 4096
def PlaceZ (cols : Int) (T : List Qd) (cur : Int × Int) (s r : Qd) : Prop :=
  if fixedZ s = true then r = s else if 0 ≤ s.b then AcrossZ T cols s r else if 0 ≤ s.a then DownZ T s r else BehindZ T cols s cur.1 cur.2 r
theorem PlaceZ.uniq {cols : Int} {T : List Qd} {cur : Int × Int} {s r r' : Qd} (h : PlaceZ cols T cur s r) (h' : PlaceZ cols T cur s r') : r = r' := by
  unfold PlaceZ at h h'
  split at h
  · rw [if_pos ‹_›] at h'; rw [h, h']
  · rw [if_neg ‹_›] at h'
    split at h
    · rw [if_pos ‹_›] at h'; exact h.uniq h'
    · rw [if_neg ‹_›] at h'
      split at h
      · rw [if_pos ‹_›] at h'; exact h.uniq h'
      · rw [if_neg ‹_›] at h'; exact h.uniq h'

/-- the spans that have a place ahead of all seeking -/
def fixedL (w : Nat → Qd) : Nat → List Qd
  | 0 => []
  | n + 1 => if fixedZ (w n) = true then fixedL w n ++ [w n] else fixedL w n
/-- the spans that have a place when i of them were sought -/
def takenL (w out : Nat → Qd) (n : Nat) : Nat → List Qd
  | 0 => fixedL w n
  | i + 1 => if fixedZ (w i) = true then takenL w out n i else takenL w out n i ++ [out i]
def curZ (w out : Nat → Qd) : Nat → Int × Int
  | 0 => (0, 0)
  | i + 1 => if (w i).a < 0 ∧ (w i).b < 0 then ((out i).b, (out i).a) else curZ w out i
def FlowZ (cols : Int) (n : Nat) (w out : Nat → Qd) : Prop := ∀ i, i < n → PlaceZ cols (takenL w out n i) (curZ w out i) (w i) (out i)

theorem takenL_congr {w out out' : Nat → Qd} {n : Nat} : ∀ {i : Nat}, (∀ j, j < i → out j = out' j) → takenL w out n i = takenL w out' n i ∧ curZ w out i = curZ w out' i
  | 0, _ => ⟨rfl, rfl⟩
  | i + 1, h => by
    obtain ⟨h1, h2⟩ := takenL_congr (w := w) (n := n) (i := i) (fun j hj => h j (by omega))
    simp only [takenL, curZ, h1, h2, h i (by omega)]
    exact ⟨trivial, trivial⟩
theorem FlowZ.uniq {cols : Int} {n : Nat} {w out out' : Nat → Qd} (h : FlowZ cols n w out) (h' : FlowZ cols n w out') : ∀ i, i ≤ n → ∀ j, j < i → out j = out' j
  | 0, _, j, hj => by omega
  | i + 1, hi, j, hj => by
    have ih := FlowZ.uniq h h' i (by omega)
    by_cases c : j < i
    · exact ih j c
    · obtain rfl : j = i := by omega
      obtain ⟨e1, e2⟩ := takenL_congr (w := w) (n := n) ih
      have k := h' j (by omega)
      rw [← e1, ← e2] at k
      exact (h j (by omega)).uniq k

theorem fixedZ_iff (s : Qd) : fixedZ s = true ↔ 0 ≤ s.a ∧ 0 ≤ s.b := by unfold fixedZ; simp
theorem fixedL_good {cols : Int} {w : Nat → Qd} : ∀ {n : Nat}, (∀ j, j < n → NormZ cols (w j)) → GoodT cols 8192 (fixedL w n)
  | 0, _ => fun t ht => by cases ht
  | n + 1, h => by
    have ih := fixedL_good (cols := cols) (w := w) (n := n) (fun j hj => h j (by omega))
    have k := h n (by omega)
    simp only [fixedL]
    split
    · rename_i c
      rw [fixedZ_iff] at c
      intro t ht
      rcases List.mem_append.1 ht with ht | ht
      · exact ih t ht
      · obtain rfl := List.mem_singleton.1 ht
        have := k.a; have := k.b; have := k.c; have := k.d
        omega
    · exact ih
/-- how far down things lie when i of them were sought -/
def downM (i : Nat) : Int := 8192 + 4097 * i
theorem place_good {cols : Int} {T : List Qd} {cur : Int × Int} {s r : Qd} {M : Int} (hT : GoodT cols M T) (hM : 8192 ≤ M) (hcur : 0 ≤ cur.1 ∧ cur.1 ≤ M) (hs : NormZ cols s) (h : PlaceZ cols T cur s r) :
    0 ≤ r.a ∧ r.a + r.c ≤ cols ∧ 0 ≤ r.b ∧ r.c = s.c ∧ r.d = s.d ∧ r.b + r.d ≤ M + 4097 ∧ r.b ≤ M + 1 := by
  have s1 := hs.a; have s2 := hs.b; have s3 := hs.c; have s4 := hs.d
  unfold PlaceZ at h
  split at h
  · rename_i c
    rw [fixedZ_iff] at c
    subst h; omega
  · rename_i c
    rw [fixedZ_iff] at c
    split at h
    · have := h.le (by omega)
      omega
    · split at h
      · have := h.le hT (by omega)
        omega
      · have := h.le hT (by omega)
        omega
theorem FlowZ.good {cols : Int} {n : Nat} {w out : Nat → Qd} (hw : ∀ j, j < n → NormZ cols (w j)) (h : FlowZ cols n w out) : ∀ i, i ≤ n → GoodT cols (downM i) (takenL w out n i) ∧ (0 ≤ (curZ w out i).1 ∧ (curZ w out i).1 ≤ downM i) ∧ (0 ≤ (curZ w out i).2 ∧ (curZ w out i).2 ≤ cols ∨ (curZ w out i).2 = 0)
  | 0, _ => ⟨by show GoodT cols (downM 0) (fixedL w n); rw [show downM 0 = 8192 by simp [downM]]; exact fixedL_good hw, by simp [curZ, downM], .inr rfl⟩
  | i + 1, hi => by
    obtain ⟨g1, g2, g3⟩ := FlowZ.good hw h i (by omega)
    have e : downM (i + 1) = downM i + 4097 := by simp only [downM]; push_cast; omega
    have hM : 8192 ≤ downM i := by simp only [downM]; omega
    have pg := place_good g1 hM g2 (hw i (by omega)) (h i (by omega))
    have k := hw i (by omega)
    have k3 := k.c; have k4 := k.d
    have up : GoodT cols (downM (i + 1)) (takenL w out n i) := fun t ht => by have := g1 t ht; omega
    refine ⟨?_, ?_, ?_⟩
    · simp only [takenL]
      split
      · exact up
      · intro t ht
        rcases List.mem_append.1 ht with ht | ht
        · exact up t ht
        · obtain rfl := List.mem_singleton.1 ht
          omega
    · simp only [curZ]
      split
      · simp only; omega
      · omega
    · simp only [curZ]
      split
      · simp only; omega
      · omega

end Go.Proofs.Ytcgcpmcjaeenlaa

namespace Go.Proofs.Ytcgcpmcjaeenlaa
open Go.Lift
set_option maxRecDepth 1000000
set_option linter.unusedSimpArgs false
set_option linter.unusedVariables false

/-- has it a cell in some rows? -/
def OvlZ (t : Qd) (y d : Int) : Prop := t.b < y + d ∧ y < t.b + t.d
instance (t : Qd) (y d : Int) : Decidable (OvlZ t y d) := inferInstanceAs (Decidable (_ ∧ _))
/-- is a column taken in some rows? -/
def TkZ (T : List Qd) (y d : Int) (x : Int) : Prop := ∃ t, t ∈ T ∧ OvlZ t y d ∧ t.a ≤ x ∧ x < t.a + t.c

/-- the least row at which one of those ends that are in the way; 'none' where none is -/
def EndZ (T : List Qd) (y d e none : Int) : Prop := (e = none ∧ ∀ t, t ∈ T → ¬ OvlZ t y d) ∨ ((∃ t, t ∈ T ∧ OvlZ t y d ∧ e = t.b + t.d) ∧ ∀ t, t ∈ T → OvlZ t y d → e ≤ t.b + t.d)

theorem EndZ.next {T : List Qd} {y d e none : Int} {cols M : Int} (hT : GoodT cols M T) {s : Qd} (hs : s.c ≤ cols) (hd : s.d = d) (he : EndZ T y d e none) (hb : ∀ x', 0 ≤ x' → x' + s.c ≤ cols → ¬ FreeZ T (s.at x' y)) :
    y < e ∧ e ≤ M ∧ ∀ y' x', y ≤ y' → y' < e → 0 ≤ x' → x' + s.c ≤ cols → ¬ FreeZ T (s.at x' y') := by
  subst hd
  rcases he with ⟨_, h⟩ | ⟨⟨t0, h1, h2, h3⟩, h4⟩
  · exact absurd (fun t ht (hm : MeetsZ t (s.at 0 y)) => h t ht ⟨hm.2.2.1, hm.2.2.2⟩) (hb 0 (by omega) (by omega))
  · have g := hT t0 h1
    refine ⟨by have := h2.2; omega, by omega, fun y' x' e1 e2 e3 e4 hf => ?_⟩
    refine hb x' e3 e4 fun t ht hm => ?_
    obtain ⟨m1, m2, m3, m4⟩ := hm
    have m3' : t.b < y + s.d := m3
    have := h4 t ht ⟨m3, m4⟩
    exact hf t ht ⟨m1, m2, show t.b < y' + s.d by omega, show y' < t.b + t.d by omega⟩

end Go.Proofs.Ytcgcpmcjaeenlaa

namespace Go.Proofs.Ytcgcpmcjaeenlaa
open Go.Lift
set_option maxRecDepth 1000000
set_option linter.unusedSimpArgs false
set_option linter.unusedVariables false
set_option linter.unusedSectionVars false

end Go.Proofs.Ytcgcpmcjaeenlaa

namespace Go.Lift
noncomputable section
open Go.RowKit
set_option linter.unusedVariables false
set_option linter.unusedSimpArgs false

mutual
theorem AVal.ren_on {D : Nat → Prop} {r : Nat → Nat} (h : ∀ i, D i → r i = i) : ∀ {v : AVal}, Clo D v → v.ren r = v
  | .ptr (some a), k => by simp only [Clo] at k; simp only [AVal.ren, AAddr.ren, h _ k]
  | .slice (some a) _ _, k => by simp only [Clo] at k; simp only [AVal.ren, AAddr.ren, h _ k]
  | .func fn f c, k => by simp only [Clo] at k; simp only [AVal.ren, AVal.rens_on h k.1, AVal.rens_on h k.2]
  | .iface t v, k => by simp only [Clo] at k; simp only [AVal.ren, AVal.ren_on h k]
  | .agg cs, k => by simp only [Clo] at k; simp only [AVal.ren, AVal.rens_on h k]
  | .tuple vs, k => by simp only [Clo] at k; simp only [AVal.ren, AVal.rens_on h k]
  | .undef, _ => rfl
  | .bool _, _ => rfl
  | .int _ _, _ => rfl
  | .str _, _ => rfl
  | .ptr none, _ => rfl
  | .slice none _ _, _ => rfl
  | .nilFunc, _ => rfl
  | .nilIface, _ => rfl
theorem AVal.rens_on {D : Nat → Prop} {r : Nat → Nat} (h : ∀ i, D i → r i = i) : ∀ {l : List AVal}, Clos D l → AVal.rens r l = l
  | [], _ => rfl
  | a :: l, k => by simp only [Clos] at k; simp only [AVal.rens, AVal.ren_on h k.1, AVal.rens_on h k.2]
end

/-- a row that names none but these -/
def CloB (D : Nat → Prop) (b : ABlk) : Prop := ∀ e ∈ b.elems, Clo D e

theorem ABlk.ren_on {D : Nat → Prop} {r : Nat → Nat} (h : ∀ i, D i → r i = i) {b : ABlk} (k : CloB D b) : b.ren r = b := by
  unfold ABlk.ren
  have : b.elems.map (AVal.ren r) = b.elems := by
    conv => rhs; rw [← List.map_id b.elems]
    exact List.map_congr_left fun e he => AVal.ren_on h (k e he)
  rw [this]

/-- the rows at a path's end -/
theorem FDoes.closed {P : Program} {f : FuncId} {args : List AVal} {h' : AHeap} {v : AVal} {l l' : List ABlk} (k : FDoes P f args (AHeap.of l) v h') (hlen : l'.length = l.length) (hget : (List.range l'.length).map h'.get = l'.map some) (hv : Bare v)
    (hc : ∀ b ∈ l', CloB (fun i => i < l'.length) b) : FDoes P f args (AHeap.of l) v (AHeap.of l') := by
  have hfst : (idxd 0 l').map (·.1) = List.range l'.length := by rw [idxd_fst, List.range_eq_range']
  rw [AHeap.of_rows l']
  refine k.clean (fun i => i) v l'.length (idxd 0 l') ?_ (hv.1 _).symm ?_ ?_ ?_ ?_ (Nat.ble_eq.mpr ?_) (hv.clo _) ?_
  · have h1 : (idxd 0 l').map (fun p => h'.get p.1) = ((idxd 0 l').map (·.1)).map h'.get := by rw [List.map_map]; rfl
    have h2 : (idxd 0 l').map (fun p => some (p.2.ren fun i => i)) = ((idxd 0 l').map (·.2)).map some := by
      rw [List.map_map]; exact List.map_congr_left fun p _ => by rw [ABlk.ren_id]; rfl
    rw [h1, h2, hfst, idxd_snd, hget]
  · rw [List.all_eq_true]
    intro p hp
    have : p.1 ∈ (idxd 0 l').map (·.1) := List.mem_map.2 ⟨p, hp, rfl⟩
    rw [hfst] at this
    exact Nat.blt_eq.mpr (List.mem_range.1 this)
  · rw [hfst]; rw [List.map_id']; exact List.nodup_range
  · rw [List.all_eq_true, AHeap.of_next]
    intro i hi
    have hi := List.mem_range.1 hi
    rw [hfst, Bool.and_eq_true]
    exact ⟨by simp; omega, beq_true rfl⟩
  · rw [List.all_eq_true, AHeap.of_next]
    intro p hp
    have : p.1 ∈ (idxd 0 l').map (·.1) := List.mem_map.2 ⟨p, hp, rfl⟩
    rw [hfst] at this
    have hlt := List.mem_range.1 this
    rw [Bool.or_eq_true]
    exact .inl (Nat.blt_eq.mpr (by omega))
  · rw [AHeap.of_next]; omega
  · rw [hfst]
    have : ∀ (q : List (Nat × ABlk)), (∀ p ∈ q, CloB (fun i => i < l'.length) p.2) → All (q.map fun p => ∀ e ∈ p.2.elems, Clo (Ids (List.range l'.length)) e) := by
      intro q
      induction q with
      | nil => intro _; exact All.nil
      | cons p r ih =>
        intro hq
        exact All.cons (fun e he => Clo.mono (fun i hi => List.mem_range.2 hi) (hq p (by simp) e he)) (ih fun p hp => hq p (by simp [hp]))
    refine this _ fun p hp => hc p.2 ?_
    have : p.2 ∈ (idxd 0 l').map (·.2) := List.mem_map.2 ⟨p, hp, rfl⟩
    rwa [idxd_snd] at this

/-- rows are written; none comes -/
theorem FDoes.upC {P : Program} {f : FuncId} {args : List AVal} {v : AVal} {l l' : List ABlk} (k : FDoes P f args (AHeap.of l) v (AHeap.of l')) (hll : l'.length = l.length) (hb : ∀ b ∈ l, CloB (fun i => i < l.length) b) (ha : Clos (fun i => i < l.length) args) (hv : Bare v)
    {H : AHeap} (ids : List Nat) (hn : ids.Nodup) (hlt : ∀ j ∈ ids, j < H.next) (hl : ids.map H.get = l.map (fun b => some (b.ren (toBig ids H.next)))) :
    FDoes P f (args.map (AVal.ren (toBig ids H.next))) H v (H.upd ids (l'.map (ABlk.ren (toBig ids H.next)))) := by
  have hlen : ids.length = l.length := by have := congrArg List.length hl; simpa using this
  have hbig : ∀ i (hi : i < ids.length), toBig ids H.next i = ids[i] := fun i hi => by simp [toBig, List.getElem?_eq_getElem hi]
  have e : v.ren (toBig ids H.next) = v := hv.1 _
  rw [show FDoes P f (args.map (AVal.ren (toBig ids H.next))) H v (H.upd ids (l'.map (ABlk.ren (toBig ids H.next)))) = FDoes P f (args.map (AVal.ren (toBig ids H.next))) H (v.ren (toBig ids H.next)) (H.upd ids (l'.map (ABlk.ren (toBig ids H.next)))) by rw [e]]
  refine k.frame (r := toBig ids H.next) ⟨?_, ?_, ?_⟩ ?_ ?_ ?_ ?_ ?_
  · intro i b hg
    rw [AHeap.of_get] at hg
    have hi := (List.getElem?_eq_some_iff.1 hg).1
    refine ⟨by rw [AHeap.of_next]; exact hi, ?_⟩
    rw [hbig i (by omega)]
    have h1 := congrArg (fun (x : List (Option ABlk)) => x[i]?) hl
    simp only [List.getElem?_map, List.getElem?_eq_getElem (show i < ids.length by omega), Option.map_some, hg, Option.some.injEq] at h1
    exact h1
  · intro i j hi hj e
    rw [AHeap.of_in] at hi hj
    rw [hbig i (by omega), hbig j (by omega)] at e
    exact (List.getElem_inj hn).1 e
  · intro i b hg e he
    rw [AHeap.of_get] at hg
    exact Clo.mono (fun i hi => AHeap.of_in.2 hi) (hb b (List.mem_of_getElem? hg) e he)
  · exact Clos.mono (fun i hi => AHeap.of_in.2 hi) ha
  · intro i hi
    rw [AHeap.of_next] at hi
    simp only [toBig, List.getElem?_eq_none (show ids.length ≤ i by omega), AHeap.of_next, hlen]
  · intro i b hg _
    rw [AHeap.of_get] at hg
    show (AHeap.updFrom ids _ H).get _ = _
    rw [AHeap.updFrom_at ids _ H i (by simp; omega) hn hlt (by simp; exact (List.getElem?_eq_some_iff.1 hg).1), List.getElem?_map, hg]; rfl
  · show (AHeap.updFrom ids _ H).next = _
    rw [AHeap.updFrom_next ids _ H (by simp; omega)]; simp [hlen]
  · intro j hj hne
    refine AHeap.updFrom_out ids _ H j (by simp; omega) hj fun hm => ?_
    obtain ⟨i, hi, e⟩ := List.mem_iff_getElem.1 hm
    exact hne i (AHeap.of_in.2 (by omega)) (by rw [hbig i hi]; exact e)

/-- three rows, and any number of rows behind them -/
theorem FDoes.all3 {P : Program} {f : FuncId} {args : List AVal} {v : AVal} {b0 b1 b2 b0' : ABlk} {h' : AHeap} (k : FDoes P f args (AHeap.of [b0, b1, b2]) v h') (hg : [h'.get 0, h'.get 1, h'.get 2] = [some b0', some b1, some b2]) (hv : Bare v)
    (c0 : CloB (fun i => i < 3) b0) (c0' : CloB (fun i => i < 3) b0') (c1 : CloB (fun i => i < 3) b1) (c2 : CloB (fun i => i < 3) b2) (ha : Clos (fun i => i < 3) args) {K : Nat} (hK : 3 ≤ K) :
    FDoes P f args (AHeap.rows K [(0, b0), (1, b1), (2, b2)]) v (AHeap.rows K [(0, b0'), (1, b1), (2, b2)]) := by
  have k1 := k.closed (l' := [b0', b1, b2]) rfl hg hv (by simp; exact ⟨c0', c1, c2⟩)
  have hr : ∀ i, i < 3 → toBig [0, 1, 2] K i = i := by
    intro i hi
    match i, hi with
    | 0, _ => rfl
    | 1, _ => rfl
    | 2, _ => rfl
  have k2 := k1.upC rfl (by simp; exact ⟨c0, c1, c2⟩) ha hv (H := AHeap.rows K [(0, b0), (1, b1), (2, b2)]) [0, 1, 2] (by simp) (by rw [AHeap.rows_next]; simp; omega) (by
    rw [AHeap.rows_next]
    simp only [List.map]
    rw [ABlk.ren_on hr c0, ABlk.ren_on hr c1, ABlk.ren_on hr c2]
    kernel_rfl)
  rw [AHeap.rows_next, ← AVal.rens_map, AVal.rens_on hr ha] at k2
  simp only [List.map] at k2
  rw [ABlk.ren_on hr c0', ABlk.ren_on hr c1, ABlk.ren_on hr c2] at k2
  exact k2.to (by kernel_rfl)

end
end Go.Lift

namespace Go.Lift
noncomputable section
open Go.RowKit
set_option linter.unusedVariables false
set_option linter.unusedSimpArgs false

theorem FDoes.finC {P : Program} {f : FuncId} {args : List AVal} {h' : AHeap} {v : AVal} {l : List ABlk} (k : FDoes P f args (AHeap.of l) v h') (js : List Nat) (l' : List ABlk) (v2 : AVal) (hb' : ∀ b ∈ l', CloB (fun i => i < l.length) b)
    (hlen : l'.length = l.length + js.length) (hget : (List.range l'.length).map (fun i => h'.get (finR l.length js i)) = l'.map some) (hv : v = v2.ren (finR l.length js)) (hvc : Clo (fun i => i < l'.length) v2)
    (hjs : js.all (fun j => Nat.ble l.length j) = true) (hnd : js.Nodup) : FDoes P f args (AHeap.of l) v2 (AHeap.of l') := by
  have hfst : (idxd 0 l').map (·.1) = List.range l'.length := by rw [idxd_fst, List.range_eq_range']
  have hge : ∀ j ∈ js, l.length ≤ j := fun j hj => Nat.le_of_ble_eq_true (List.all_eq_true.1 hjs j hj)
  have hfix : ∀ i, i < l.length → finR l.length js i = i := fun i hi => by simp [finR, hi]
  have hhi : ∀ i, l.length ≤ i → i < l'.length → ∃ (h : i - l.length < js.length), finR l.length js i = js[i - l.length] := by
    intro i h1 h2
    have h3 : i - l.length < js.length := by omega
    exact ⟨h3, by simp only [finR, if_neg (show ¬ i < l.length by omega), List.getElem?_eq_getElem h3, Option.getD_some]⟩
  rw [AHeap.of_rows l']
  refine k.clean (finR l.length js) v2 l'.length (idxd 0 l') ?_ hv ?_ ?_ ?_ ?_ (Nat.ble_eq.mpr ?_) ?_ ?_
  · have h1 : (idxd 0 l').map (fun p => h'.get (finR l.length js p.1)) = ((idxd 0 l').map (·.1)).map (fun i => h'.get (finR l.length js i)) := by rw [List.map_map]; rfl
    have h2 : (idxd 0 l').map (fun p => some (p.2.ren (finR l.length js))) = ((idxd 0 l').map (·.2)).map (fun b => some (b.ren (finR l.length js))) := by rw [List.map_map]; rfl
    rw [h1, h2, hfst, idxd_snd, hget]
    exact List.map_congr_left fun b hm => by rw [ABlk.ren_on hfix (hb' b hm)]
  · rw [List.all_eq_true]
    intro p hp
    have : p.1 ∈ (idxd 0 l').map (·.1) := List.mem_map.2 ⟨p, hp, rfl⟩
    rw [hfst] at this
    exact Nat.blt_eq.mpr (List.mem_range.1 this)
  · rw [hfst]
    refine List.Nodup.map_on' ?_
    intro a ha b hb e
    have ha := List.mem_range.1 ha
    have hb := List.mem_range.1 hb
    by_cases c1 : a < l.length <;> by_cases c2 : b < l.length
    · simpa [finR, c1, c2] using e
    · obtain ⟨h3, h4⟩ := hhi b (by omega) hb
      rw [h4, show finR l.length js a = a by simp [finR, c1]] at e
      have := hge _ (List.getElem_mem h3); omega
    · obtain ⟨h3, h4⟩ := hhi a (by omega) ha
      rw [h4, show finR l.length js b = b by simp [finR, c2]] at e
      have := hge _ (List.getElem_mem h3); omega
    · obtain ⟨h3, h4⟩ := hhi a (by omega) ha
      obtain ⟨h5, h6⟩ := hhi b (by omega) hb
      rw [h4, h6] at e
      have := (List.getElem_inj hnd).1 e; omega
  · rw [List.all_eq_true, AHeap.of_next]
    intro i hi
    have hi := List.mem_range.1 hi
    rw [hfst, Bool.and_eq_true]
    exact ⟨by simp; omega, beq_true (by simp [finR, hi])⟩
  · rw [List.all_eq_true, AHeap.of_next]
    intro p hp
    have : p.1 ∈ (idxd 0 l').map (·.1) := List.mem_map.2 ⟨p, hp, rfl⟩
    rw [hfst] at this
    have hlt := List.mem_range.1 this
    rw [Bool.or_eq_true]
    by_cases c : p.1 < l.length
    · exact .inl (Nat.blt_eq.mpr c)
    · obtain ⟨h3, h4⟩ := hhi p.1 (by omega) hlt
      exact .inr (Nat.ble_eq.mpr (by rw [h4]; exact hge _ (List.getElem_mem h3)))
  · rw [AHeap.of_next]; omega
  · rw [hfst]; exact Clo.mono (fun i hi => List.mem_range.2 hi) hvc
  · intro p hp
    obtain ⟨q, hq, rfl⟩ := List.mem_map.1 hp
    intro e he
    have hm : q.2 ∈ l' := by
      have : q.2 ∈ (idxd 0 l').map (·.2) := List.mem_map.2 ⟨q, hq, rfl⟩
      rwa [idxd_snd] at this
    rw [hfst]
    exact Clo.mono (fun i hi => List.mem_range.2 (by omega)) (hb' q.2 hm e he)

/-- into every memory: rows that name rows -/
theorem FDoes.upG {P : Program} {f : FuncId} {args : List AVal} {v : AVal} {l l' : List ABlk} (k : FDoes P f args (AHeap.of l) v (AHeap.of l')) (hb : ∀ b ∈ l, CloB (fun i => i < l.length) b) (hll : l.length ≤ l'.length) (ha : Clos (fun i => i < l.length) args)
    {H H' : AHeap} (ids : List Nat) (hn : ids.Nodup) (hlt : ∀ j ∈ ids, j < H.next) (hl : ids.map H.get = l.map (fun b => some (b.ren (toBig ids H.next)))) (hnext : H'.next = H.next + (l'.length - l.length)) (hat : ∀ i, i < l'.length → H'.get (toBig ids H.next i) = (l'[i]?).map (ABlk.ren (toBig ids H.next)))
    (hout : ∀ j, j < H.next → j ∉ ids → H'.get j = H.get j) : FDoes P f (args.map (AVal.ren (toBig ids H.next))) H (v.ren (toBig ids H.next)) H' := by
  have hlen : ids.length = l.length := by have := congrArg List.length hl; simpa using this
  have hbig : ∀ i (hi : i < ids.length), toBig ids H.next i = ids[i] := fun i hi => by simp [toBig, List.getElem?_eq_getElem hi]
  refine k.frame (r := toBig ids H.next) ⟨?_, ?_, ?_⟩ ?_ ?_ ?_ ?_ ?_
  · intro i b hg
    rw [AHeap.of_get] at hg
    have hi := (List.getElem?_eq_some_iff.1 hg).1
    refine ⟨by rw [AHeap.of_next]; exact hi, ?_⟩
    rw [hbig i (by omega)]
    have h1 := congrArg (fun (x : List (Option ABlk)) => x[i]?) hl
    simp only [List.getElem?_map, List.getElem?_eq_getElem (show i < ids.length by omega), Option.map_some, hg, Option.some.injEq] at h1
    exact h1
  · intro i j hi hj e
    rw [AHeap.of_in] at hi hj
    rw [hbig i (by omega), hbig j (by omega)] at e
    exact (List.getElem_inj hn).1 e
  · intro i b hg e he
    rw [AHeap.of_get] at hg
    exact Clo.mono (fun i hi => AHeap.of_in.2 hi) (hb b (List.mem_of_getElem? hg) e he)
  · exact Clos.mono (fun i hi => AHeap.of_in.2 hi) ha
  · intro i hi
    rw [AHeap.of_next] at hi
    simp only [toBig, List.getElem?_eq_none (show ids.length ≤ i by omega), AHeap.of_next, hlen]
  · intro i b hg _
    rw [AHeap.of_get] at hg
    rw [hat i (List.getElem?_eq_some_iff.1 hg).1, hg]; rfl
  · rw [hnext]; simp
  · intro j hj hne
    refine hout j hj fun hm => ?_
    obtain ⟨i, hi, e⟩ := List.mem_iff_getElem.1 hm
    exact hne i (AHeap.of_in.2 (by omega)) (by rw [hbig i hi]; exact e)

/-- nothing is written, and a plain value comes: in every memory -/
theorem FDoes.pureC {P : Program} {f : FuncId} {args : List AVal} {h' : AHeap} {v : AVal} {l : List ABlk} (k : FDoes P f args (AHeap.of l) v h') (hb : ∀ b ∈ l, CloB (fun i => i < l.length) b) (hget : (List.range l.length).map h'.get = l.map some) (hv : Bare v)
    (ha : Clos (fun i => i < l.length) args) {H : AHeap} (ids : List Nat) (hn : ids.Nodup) (hlt : ∀ j ∈ ids, j < H.next) (hl : ids.map H.get = l.map (fun b => some (b.ren (toBig ids H.next)))) : FDoes P f (args.map (AVal.ren (toBig ids H.next))) H v H := by
  have hlen : ids.length = l.length := by have := congrArg List.length hl; simpa using this
  have k1 := k.finC [] l v hb (by simp) (by
    rw [← hget]
    exact List.map_congr_left fun i hi => by rw [show finR l.length [] i = i by simp [finR, List.mem_range.1 hi]]) (hv.1 _).symm (hv.clo _) rfl (by simp)
  have k2 := k1.upG (H' := H) hb (Nat.le_refl _) ha ids hn hlt hl (by simp) (fun i hi => by
    have h1 := congrArg (fun (x : List (Option ABlk)) => x[i]?) hl
    simp only [List.getElem?_map, List.getElem?_eq_getElem (show i < ids.length by omega), List.getElem?_eq_getElem hi, Option.map_some, Option.some.injEq] at h1
    simp only [toBig, List.getElem?_eq_getElem (show i < ids.length by omega)]
    rw [h1, List.getElem?_eq_getElem hi]; rfl) (fun _ _ _ => rfl)
  rwa [hv.1] at k2

end
end Go.Lift

namespace Go.Proofs.Ytcgcpmcjaeenlaa
open Go.Lift
set_option maxRecDepth 1000000
set_option linter.unusedSimpArgs false
set_option linter.unusedVariables false
set_option linter.unusedSectionVars false

/-- a list of spans in a row -/
def ElT (bT : ABlk) (v : Nat) (T : List Qd) : Prop := ∀ (j : Nat) (t : Qd), T[j]? = some t → bT.elem? v (0 + j) = some t.val
/-- the board's row -/
def brdRow (C : Nat) (o : Option AAddr) (n c : Nat) : ABlk := .made [.agg [.int .i64 C, .slice o n c]] 2 true

/-- the board, and what is taken, in a memory -/
structure BoardAt (H : AHeap) (ib iT C : Nat) (o : Option AAddr) (n c v : Nat) (bT : ABlk) (T : List Qd) : Prop where
  gb : H.get ib = some (brdRow C o n c)
  gT : H.get iT = some bT
  sl : SlArg o n c iT v 0 4
  ne : ib ≠ iT
  lb : ib < H.next
  lT : iT < H.next
  bare : BareB bT
  len : T.length = n
  el : ElT bT v T

/-- numbers that do not run over -/
def Small (s : Qd) : Prop := (-2 ^ 40 ≤ s.a ∧ s.a ≤ 2 ^ 40) ∧ (-2 ^ 40 ≤ s.b ∧ s.b ≤ 2 ^ 40) ∧ (-2 ^ 40 ≤ s.c ∧ s.c ≤ 2 ^ 40) ∧ (-2 ^ 40 ≤ s.d ∧ s.d ≤ 2 ^ 40)
theorem GoodT.small {cols M : Int} {T : List Qd} (h : GoodT cols M T) (hc : cols ≤ 64) (hM : M ≤ 2 ^ 39) : ∀ t, t ∈ T → Small t := fun t ht => by
  have := h t ht
  unfold Small; omega

theorem brd_clo {C : Nat} {o : Option AAddr} {n c v : Nat} (hs : SlArg o n c 1 v 0 4) : CloB (fun i => i < 2) (brdRow C o n c) := by
  intro e he
  simp [brdRow, ABlk.made] at he
  subst he
  simp [Clo, Clos]
  exact hs.clo (by omega)
theorem bare_clo2 {b : ABlk} (h : BareB b) : CloB (fun i => i < 2) b := fun e he => (h e he).clo _

/-- a method that only reads the board: in every memory -/
theorem BoardAt.pure {H : AHeap} {ib iT C : Nat} {o : Option AAddr} {n c v : Nat} {bT : ABlk} {T : List Qd} (h : BoardAt H ib iT C o n c v bT T) {f : Nat} {args : List AVal} {w : AVal} {h' : AHeap}
    (k : FDoes Try.prog f (.ptr (some ⟨0, 0, 0, 0, 2⟩) :: args) (AHeap.of [brdRow C (o.map fun a => { a with id := 1 }) n c, bT]) w h') (hg : [h'.get 0, h'.get 1] = [some (brdRow C (o.map fun a => { a with id := 1 }) n c), some bT]) (hw : Bare w) (ha : ∀ a, a ∈ args → Bare a) :
    FDoes Try.prog f (.ptr (some ⟨ib, 0, 0, 0, 2⟩) :: args) H w H := by
  have s1 := h.sl.at 1
  have kk := k.pureC (by simp; exact ⟨brd_clo s1, bare_clo2 h.bare⟩) hg hw (by
    simp only [Clos]
    refine ⟨by simp [Clo], ?_⟩
    clear k
    induction args with
    | nil => trivial
    | cons a r ih => exact ⟨(ha a (by simp)).clo _, ih fun b hb => ha b (by simp [hb])⟩) (H := H) [ib, iT] (by simp [h.ne]) (by simp [h.lb, h.lT]) (by
    have e1 : (brdRow C (o.map fun a => { a with id := 1 }) n c).ren (toBig [ib, iT] H.next) = brdRow C o n c := by
      rcases h.sl with rfl | ⟨rfl, rfl, rfl⟩ <;> simp [brdRow, ABlk.ren, ABlk.made, AVal.ren, AVal.rens, AAddr.ren, toBig]
    simp [h.gb, h.gT, e1, h.bare.ren])
  have e2 : args.map (AVal.ren (toBig [ib, iT] H.next)) = args := by
    conv => rhs; rw [← List.map_id args]
    exact List.map_congr_left fun a hm => (ha a hm).1 _
  simpa [AVal.ren, AAddr.ren, toBig, e2] using kk

def HitEnds (C n c : Nat) (o : Option AAddr) (bT : ABlk) (T : List Qd) (s : Qd) (i : Nat) : Prop :=
    (FreeZ T s ∧ Loops Try.prog 2 58 (loopAt Try.prog 53 0) [(3, .ptr (some ⟨2, 0, 0, 0, 4⟩)), (4, .ptr (some ⟨3, 0, 0, 0, 4⟩)), (11, .slice o n c), (12, .int .i64 n), (13, .int .i64 i)] (AHeap.rows 11 [(0, brdRow C o n c), (1, bT), (2, .made [s.val] 4 true), (3, .made [Qd0.val] 4 true)])
      (.exit 0) [(4, .ptr (some ⟨3, 0, 0, 0, 4⟩))] (AHeap.rows 12 [(0, brdRow C o n c), (1, bT), (3, .made [Qd0.val] 4 true)])) ∨
    (∃ t, t ∈ T ∧ MeetsZ t s ∧ Loops Try.prog 2 58 (loopAt Try.prog 53 0) [(3, .ptr (some ⟨2, 0, 0, 0, 4⟩)), (4, .ptr (some ⟨3, 0, 0, 0, 4⟩)), (11, .slice o n c), (12, .int .i64 n), (13, .int .i64 i)] (AHeap.rows 11 [(0, brdRow C o n c), (1, bT), (2, .made [s.val] 4 true), (3, .made [Qd0.val] 4 true)])
      .ret [(4, .ptr (some ⟨3, 0, 0, 0, 4⟩)), (5, .bool true)] (AHeap.rows 60 [(0, brdRow C o n c), (1, bT), (3, .made [t.val] 4 true)]))

section
variable {C n c v : Nat} {o : Option AAddr} (hs : SlArg o n c 1 v 0 4) {bT : ABlk} (hb : BareB bT) {T : List Qd} (hl : T.length = n) (hel : ElT bT v T) (hT : ∀ t, t ∈ T → Small t) (hn : n ≤ 2 ^ 40)
include hs hb hl hel hT hn

end

end Go.Proofs.Ytcgcpmcjaeenlaa

namespace Go.Proofs.Ytcgcpmcjaeenlaa
open Go.Lift
set_option maxRecDepth 1000000
set_option linter.unusedSimpArgs false
set_option linter.unusedVariables false
set_option linter.unusedSectionVars false

end Go.Proofs.Ytcgcpmcjaeenlaa
