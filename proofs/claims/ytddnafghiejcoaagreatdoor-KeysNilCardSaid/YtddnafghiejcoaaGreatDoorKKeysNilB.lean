/-
  Parts of the proof, one behind the other:
  THE LIFT, PART L: regions that draw their order: whatever order is drawn, the answer is that of the order of the text.
  THE LIFT, PART M: code and calls: what the abstract machine answers the model answers.
  THE LIFT, PART N: from an answer of the abstract machine to the model's call; types that '==' takes cell by cell.
  internal/strconv.numDigits of this program: the kit's contract, at this program's numbers.
  THE ENVIRONMENT OF THIS PROGRAM for the abstract machine, and that it is sound.
  THE LIFT, PART R: the abstract machine once more, so written that the kernel runs it with every value worked out at once. What it answers the abstract machine answers.
  THE CLOSED RUN of 'frescolaw22.KeysNil' on the abstract machine: it answers true. No condition.
  What the rows of chapter 22 list of the library's variables: the one table that is read, and a world in which all of it lies.
-/
import Derived.Scope
import Derived.Test.YtddnafghiejcoaaGreatDoorRows
import Derived.Shelf.Strconv.Itoa1
import Derived.ProofKit
import Derived.LaidMore
import Derived.OpenShut
import Derived.Stop.Joined
import Derived.Stop.LaidErr
import Derived.MakeChecks
import Derived.Lib.LaidTab
import Derived.LaidOnce
import Derived.Test.YtddnafghiejcoaaGreatDoorKKeysNilA

namespace Go.Lift
noncomputable section
open Go.RowKit
set_option linter.unusedVariables false
set_option linter.unusedSimpArgs false

/-! ## values held against each other -/

mutual
theorem AVal.same_eq : ∀ {a b : AVal}, AVal.same a b = true → a = b := by
  intro a b h
  cases a <;> cases b <;> simp only [AVal.same, Bool.false_eq_true, Bool.and_eq_true, beq_iff_eq, decide_eq_true_eq] at h <;>
    first
      | rfl
      | (subst h; rfl)
      | (obtain ⟨rfl, rfl⟩ := h; rfl)
      | (obtain ⟨⟨rfl, rfl⟩, rfl⟩ := h; rfl)
      | (obtain ⟨⟨rfl, h1⟩, h2⟩ := h; rw [AVal.sames_eq h1, AVal.sames_eq h2])
      | (obtain ⟨rfl, h1⟩ := h; rw [AVal.same_eq h1])
      | (rw [AVal.sames_eq h])
theorem AVal.sames_eq : ∀ {a b : List AVal}, AVal.sames a b = true → a = b := by
  intro a b h
  cases a <;> cases b <;> simp only [AVal.sames, Bool.false_eq_true, Bool.and_eq_true] at h
  · rfl
  · obtain ⟨h1, h2⟩ := h
    rw [AVal.same_eq h1, AVal.sames_eq h2]
end

theorem ABlk.same_eq {a b : ABlk} (h : ABlk.same a b = true) : a = b := by
  cases a; cases b
  simp only [ABlk.same, Bool.and_eq_true, beq_iff_eq] at h
  obtain ⟨⟨⟨⟨⟨⟨h1, h2⟩, h3⟩, h4⟩, h5⟩, h6⟩, h7⟩ := h
  rw [AVal.sames_eq h1, h2, h3, h4, h5, h6, h7]

mutual
theorem AVal.same_refl : ∀ (a : AVal), AVal.same a a = true
  | .undef => rfl
  | .bool _ => by simp [AVal.same]
  | .int _ _ => by simp [AVal.same]
  | .str _ => by simp [AVal.same]
  | .ptr _ => by simp [AVal.same]
  | .slice _ _ _ => by simp [AVal.same]
  | .func _ f c => by simp [AVal.same, AVal.sames_refl f, AVal.sames_refl c]
  | .nilFunc => rfl
  | .iface _ v => by simp [AVal.same, AVal.same_refl v]
  | .nilIface => rfl
  | .agg l => by simp [AVal.same, AVal.sames_refl l]
  | .tuple l => by simp [AVal.same, AVal.sames_refl l]
theorem AVal.sames_refl : ∀ (l : List AVal), AVal.sames l l = true
  | [] => rfl
  | a :: r => by simp [AVal.sames, AVal.same_refl a, AVal.sames_refl r]
end

theorem ABlk.same_refl (a : ABlk) : ABlk.same a a = true := by simp [ABlk.same, AVal.sames_refl]
theorem sameOld_get {lim : Nat} {h h' : AHeap} (k : sameOld lim h h' = true) {i : Nat} (hi : i < lim) : h'.get i = h.get i :=
  Trie.sameBelow_spec (fun _ _ => ABlk.same_eq) lim h'.blks h.blks 0 1 k i (by omega)

section
variable {E : AEnv} {call : ACall}

theorem pure_spec {nid : Nat} {ρ : Operand → AVal} {h h1 : AHeap} {o : Op} {v : AVal} (hc : cls o = .pure) (ho : aop E call nid ρ h o = some (v, h1)) :
    h1 = h ∧ ∀ (nid' : Nat) (h' : AHeap), aop E call nid' ρ h' o = some (v, h') := by
  cases o <;> simp only [cls, reduceCtorEq] at hc <;> simp only [aop] at ho ⊢ <;>
    first
      | (simp only [Option.map_eq_some_iff, Prod.mk.injEq, Option.some.injEq] at ho
         obtain ⟨v1, hv, rfl, rfl⟩ := ho
         exact ⟨rfl, fun _ _ => by rw [hv]; rfl⟩)
      | (simp only [Prod.mk.injEq, Option.some.injEq] at ho
         obtain ⟨rfl, rfl⟩ := ho
         exact ⟨rfl, fun _ _ => rfl⟩)
      | skip
  · split at ho
    · rename_i t ht
      simp only [Prod.mk.injEq, Option.some.injEq] at ho
      obtain ⟨rfl, rfl⟩ := ho
      exact ⟨rfl, fun _ _ => by simp only [ht]⟩
    · cases ho
  · split at ho
    · rename_i a ha
      simp only [Prod.mk.injEq, Option.some.injEq] at ho
      obtain ⟨rfl, rfl⟩ := ho
      exact ⟨rfl, fun _ _ => by simp only [ha]⟩
    · rename_i g fs cs ha
      simp only [Prod.mk.injEq, Option.some.injEq] at ho
      obtain ⟨rfl, rfl⟩ := ho
      exact ⟨rfl, fun _ _ => by simp only [ha]⟩
    · cases ho
  · rename_i fn fs cs
    cases fn <;> simp only [aop] at ho ⊢ <;> first | (cases ho; done) | skip
    simp only [Prod.mk.injEq, Option.some.injEq] at ho
    obtain ⟨rfl, rfl⟩ := ho
    exact ⟨rfl, fun _ _ => rfl⟩
  · split at ho
    · rename_i vs hv
      simp only [Option.map_eq_some_iff, Prod.mk.injEq] at ho
      obtain ⟨v1, h1, rfl, rfl⟩ := ho
      exact ⟨rfl, fun _ _ => by simp only [hv, h1, Option.map_some]⟩
    · cases ho
  · rename_i c
    cases hcal : c.callee with
    | value f => rw [hcal] at hc; simp at hc
    | invoke r m => rw [hcal] at hc; simp at hc
    | builtin b =>
      rw [hcal] at hc ho
      simp only [hcal]
      cases b <;> first | (simp at hc; done) | skip
      all_goals
        simp only [abuiltin] at ho ⊢
        split at ho
        · simp only [Option.map_eq_some_iff, Prod.mk.injEq] at ho
          obtain ⟨v1, h1, rfl, rfl⟩ := ho
          exact ⟨rfl, fun _ _ => by simp only [h1, Option.map_some]⟩
        · cases ho

theorem load_spec {nid : Nat} {ρ : Operand → AVal} {h h1 : AHeap} {o : Op} {v : AVal} (hc : cls o = .load) (ho : aop E call nid ρ h o = some (v, h1)) :
    h1 = h ∧ ∃ b, loadId ρ o = some b ∧ ∀ (nid' : Nat) (h' : AHeap), h'.get b = h.get b → aop E call nid' ρ h' o = some (v, h') := by
  cases o <;> simp only [cls, reduceCtorEq] at hc
  · rename_i t x
    simp only [aop] at ho ⊢
    split at ho
    · rename_i a ha
      simp only [Option.map_eq_some_iff, Prod.mk.injEq] at ho
      obtain ⟨v1, hv, rfl, rfl⟩ := ho
      refine ⟨rfl, a.id, by simp [loadId, ha], fun nid' h' hg => ?_⟩
      simp only [ha, aload, hg] at hv ⊢
      rw [hv]; rfl
    · cases ho
  · rename_i c
    cases hcal : c.callee with
    | value f => rw [hcal] at hc; simp at hc
    | invoke r m => rw [hcal] at hc; simp at hc
    | builtin b => rw [hcal] at hc; cases b <;> simp at hc

theorem store_spec {nid : Nat} {ρ : Operand → AVal} {h h1 : AHeap} {o : Op} {v : AVal} (hc : cls o = .store) (ho : aop E call nid ρ h o = some (v, h1)) :
    ∃ s b, storeId ρ o = some s ∧ h1 = h.set s b ∧ True := by
  cases o <;> simp only [cls, reduceCtorEq] at hc
  · rename_i t x y
    simp only [aop] at ho
    split at ho
    · rename_i a ha
      simp only [Option.map_eq_some_iff, Prod.mk.injEq] at ho
      obtain ⟨h2, hv, rfl, rfl⟩ := ho
      unfold astore at hv
      split at hv
      · split at hv
        · split at hv
          · split at hv
            · simp only [Option.some.injEq] at hv
              exact ⟨a.id, _, by simp [storeId, ha], hv.symm, trivial⟩
            · cases hv
          · cases hv
        · cases hv
      · cases hv
    · cases ho
  · rename_i c
    cases hcal : c.callee with
    | value f => rw [hcal] at hc; simp at hc
    | invoke r m => rw [hcal] at hc; simp at hc
    | builtin b => rw [hcal] at hc; cases b <;> simp at hc

theorem alloc_spec {nid : Nat} {ρ : Operand → AVal} {h h1 : AHeap} {o : Op} {v : AVal} (hc : cls o = .alloc) (ho : aop E call nid ρ h o = some (v, h1)) :
    ∃ b, h1 = h.set nid b ∧ ∀ (h' : AHeap), aop E call nid ρ h' o = some (v, h'.set nid b) := by
  cases o <;> simp only [cls, reduceCtorEq] at hc
  · rename_i t
    simp only [aop] at ho ⊢
    split at ho
    · rename_i d hd
      split at ho
      · rename_i z hz
        split at ho
        · rename_i hcc
          simp only [Prod.mk.injEq, Option.some.injEq] at ho
          obtain ⟨rfl, rfl⟩ := ho
          exact ⟨_, rfl, fun h' => by simp only [hcc, if_true]⟩
        · cases ho
      · cases ho
    · cases ho
  · rename_i t x
    simp only [aop] at ho ⊢
    split at ho
    · rename_i d hd
      split at ho
      · rename_i hcc
        simp only [Prod.mk.injEq, Option.some.injEq] at ho
        obtain ⟨rfl, rfl⟩ := ho
        exact ⟨_, rfl, fun h' => by simp only [hcc, if_true]⟩
      · cases ho
    · cases ho
  · rename_i t n parts
    simp only [aop, abuildSlice] at ho ⊢
    split at ho
    · rename_i d hd
      split at ho
      · rename_i e he
        split at ho
        · rename_i x hx
          split at ho
          · rename_i z hz
            split at ho
            · rename_i hcc
              split at ho
              · rename_i l hl
                simp only [Prod.mk.injEq, Option.some.injEq] at ho
                obtain ⟨rfl, rfl⟩ := ho
                refine ⟨_, rfl, fun h' => ?_⟩
                simp only [he, hx, hz, hcc, hl, and_self, if_true]
              · cases ho
            · cases ho
          · cases ho
        · cases ho
      · cases ho
    · cases ho
  · rename_i t l c
    simp only [aop, amakeSlice] at ho ⊢
    split at ho
    · rename_i d k1 n k2 m hd hl hm
      split at ho
      · rename_i e he
        split at ho
        · rename_i x hx
          split at ho
          · rename_i z hz
            split at ho
            · rename_i hcc
              simp only [Prod.mk.injEq, Option.some.injEq] at ho
              obtain ⟨rfl, rfl⟩ := ho
              refine ⟨_, rfl, fun h' => ?_⟩
              simp only [he, hx, hz, hcc, and_self, if_true]
            · cases ho
          · cases ho
        · cases ho
      · cases ho
    · cases ho
  · rename_i c
    cases hcal : c.callee with
    | value f => rw [hcal] at hc; simp at hc
    | invoke r m => rw [hcal] at hc; simp at hc
    | builtin b => rw [hcal] at hc; cases b <;> simp at hc

/-! ## the operands alone decide -/

theorem map_congr_ops {ρ ρ' : Operand → AVal} {xs : Array Operand} (h : ∀ x ∈ xs.toList, ρ x = ρ' x) : xs.toList.map ρ = xs.toList.map ρ' := List.map_congr_left h

theorem opt_congr {ρ ρ' : Operand → AVal} {o : Option Operand} (h : ∀ x ∈ o.toList, ρ x = ρ' x) : o.map ρ = o.map ρ' := by
  cases o with
  | none => rfl
  | some x => simp [h x (by simp)]

theorem aop_congr {nid : Nat} {ρ ρ' : Operand → AVal} {h : AHeap} {o : Op} (hρ : ∀ x ∈ o.operands.toList, ρ x = ρ' x) : aop E call nid ρ h o = aop E call nid ρ' h o := by
  cases o
  case call c =>
    simp only [Op.operands, Call.operands, Array.toList_append, List.mem_append] at hρ
    simp only [aop]
    have ha := map_congr_ops (xs := c.args) (fun x hx => hρ x (.inr hx))
    cases hcal : c.callee with
    | value f =>
      rw [hcal] at hρ
      simp only [ha, hρ f (.inl (by simp))]
    | invoke r m => rfl
    | builtin b => simp only [ha]
  case makeFunc fn fs cs =>
    simp only [Op.operands, Array.toList_append, List.mem_append] at hρ
    cases fn <;> simp only [aop]
    rw [map_congr_ops (xs := fs) (fun x hx => hρ x (.inl hx)), map_congr_ops (xs := cs) (fun x hx => hρ x (.inr hx))]
  case slice t x lo hi mx =>
    simp only [Op.operands, Array.toList_append, List.mem_append] at hρ
    simp only [aop]
    rw [hρ x (by simp), opt_congr (o := lo) (fun y hy => hρ y (by simp_all)), opt_congr (o := hi) (fun y hy => hρ y (by simp_all)), opt_congr (o := mx) (fun y hy => hρ y (by simp_all))]
  case build t parts =>
    have hp : (parts.toList.map fun p => (p.1, ρ p.2)) = parts.toList.map fun p => (p.1, ρ' p.2) := by
      refine List.map_congr_left fun p hp => ?_
      rw [hρ p.2 (by simp only [Op.operands]; exact List.mem_map.2 ⟨p, hp, rfl⟩)]
    simp only [aop, hp]
  case buildSlice t n parts =>
    have hp : (parts.toList.map fun p => (p.1, ρ p.2)) = parts.toList.map fun p => (p.1, ρ' p.2) := by
      refine List.map_congr_left fun p hp => ?_
      rw [hρ p.2 (by simp only [Op.operands]; exact List.mem_map.2 ⟨p, hp, rfl⟩)]
    simp only [aop, hp]
  all_goals first
    | rfl
    | (simp only [aop, Op.operands] at hρ ⊢; simp_all)


/-! ## what stands ahead -/

def maskOf (acc : Array Nat) (o : Oper) : Nat := o.after.toList.foldl (fun s e => if binding e then s ||| 2 ^ e.on ||| acc.getD e.on 0 else s) 0

theorem fold_keep : ∀ (l : List Oper) (acc : Array Nat) (k : Nat), k < acc.size → (l.foldl (fun acc o => acc.push (maskOf acc o)) acc).getD k 0 = acc.getD k 0
  | [], acc, k, h => rfl
  | o :: r, acc, k, h => by
    simp only [List.foldl_cons]
    rw [fold_keep r _ k (by simp; omega)]
    simp [Array.getD_eq_getD_getElem?, Array.getElem?_push, Nat.ne_of_lt h]

theorem maskOf_congr {a b : Array Nat} {o : Oper} (h : ∀ e ∈ o.after.toList, binding e = true → a.getD e.on 0 = b.getD e.on 0) : maskOf a o = maskOf b o := by
  unfold maskOf
  have key : ∀ (l : List Edge) (s : Nat), (∀ e ∈ l, binding e = true → a.getD e.on 0 = b.getD e.on 0) →
      l.foldl (fun s e => if binding e then s ||| 2 ^ e.on ||| a.getD e.on 0 else s) s = l.foldl (fun s e => if binding e then s ||| 2 ^ e.on ||| b.getD e.on 0 else s) s := by
    intro l
    induction l with
    | nil => intro s _; rfl
    | cons e r ih =>
      intro s hl
      simp only [List.foldl_cons]
      have : (if binding e then s ||| 2 ^ e.on ||| a.getD e.on 0 else s) = (if binding e then s ||| 2 ^ e.on ||| b.getD e.on 0 else s) := by
        cases hb : binding e
        · rfl
        · simp only [if_true]; rw [hl e (by simp) hb]
      rw [this, ih _ (fun e he => hl e (by simp [he]))]
  exact key _ 0 h

theorem fold_at : ∀ (l : List Oper) (acc : Array Nat) (m : Nat) (o : Oper), l[m]? = some o → (∀ e ∈ o.after.toList, binding e = true → e.on < acc.size + m) →
    (l.foldl (fun acc o => acc.push (maskOf acc o)) acc).getD (acc.size + m) 0 = maskOf (l.foldl (fun acc o => acc.push (maskOf acc o)) acc) o
  | [], acc, m, o, h, _ => by simp at h
  | a :: r, acc, 0, o, h, he => by
    simp at h; subst h
    simp only [List.foldl_cons, Nat.add_zero]
    rw [fold_keep r _ acc.size (by simp)]
    have : (acc.push (maskOf acc a)).getD acc.size 0 = maskOf acc a := by simp [Array.getD_eq_getD_getElem?]
    rw [this]
    refine maskOf_congr fun e hm hb => ?_
    have hlt := he e hm hb
    rw [fold_keep r _ e.on (by simp; omega)]
    simp [Array.getD_eq_getD_getElem?, Array.getElem?_push]
    rw [if_neg (by omega)]
  | a :: r, acc, m + 1, o, h, he => by
    simp at h
    simp only [List.foldl_cons]
    have := fold_at r (acc.push (maskOf acc a)) m o h (fun e hm hb => by have := he e hm hb; simp; omega)
    simp only [Array.size_push] at this
    rw [show acc.size + (m + 1) = acc.size + 1 + m by omega]
    exact this

theorem mask_bit {acc : Array Nat} {i : Nat} : ∀ (l : List Edge) (s : Nat), (l.foldl (fun s e => if binding e then s ||| 2 ^ e.on ||| acc.getD e.on 0 else s) s).testBit i = true →
    s.testBit i = true ∨ ∃ e ∈ l, binding e = true ∧ (e.on = i ∨ (acc.getD e.on 0).testBit i = true)
  | [], s, h => .inl h
  | e :: r, s, h => by
    simp only [List.foldl_cons] at h
    rcases mask_bit r _ h with h1 | ⟨e', h1, h2⟩
    · cases hb : binding e
      · rw [hb] at h1; exact .inl (by simpa using h1)
      · rw [hb] at h1
        simp only [if_true, Nat.testBit_or, Bool.or_eq_true] at h1
        rcases h1 with (h1 | h1) | h1
        · exact .inl h1
        · right
          rw [Nat.testBit_two_pow] at h1
          exact ⟨e, by simp, hb, .inl (by simpa using h1)⟩
        · exact .inr ⟨e, by simp, hb, .inr h1⟩
    · exact .inr ⟨e', by simp [h1], h2⟩

/-- the edges go down -/
def Lower (ops : Array Oper) : Prop := ∀ (j : Nat) (o : Oper), ops[j]? = some o → ∀ e ∈ o.after.toList, binding e = true → e.on < j

theorem ordered_spec {ops : Array Oper} (hl : Lower ops) {i j : Nat} {o : Oper} (ho : ops[j]? = some o) (h : ordered (aheads ops) i j = true) :
    ∃ e ∈ o.after.toList, binding e = true ∧ (e.on = i ∨ ordered (aheads ops) i e.on = true) := by
  unfold ordered at h
  have := fold_at ops.toList #[] j o (by simpa using ho) (fun e he hb => by have := hl j o ho e he hb; simp; omega)
  simp only [List.size_toArray, List.length_nil, Nat.zero_add] at this
  have e1 : aheads ops = ops.toList.foldl (fun acc o => acc.push (maskOf acc o)) #[] := rfl
  rw [e1, this] at h
  rcases mask_bit _ _ h with h1 | h1
  · simp at h1
  · exact h1

theorem ordered_none {ops : Array Oper} {i j : Nat} (ho : ops[j]? = none) : ordered (aheads ops) i j = false := by
  have hsz : ∀ (l : List Oper) (acc : Array Nat), (l.foldl (fun acc o => acc.push (maskOf acc o)) acc).size = acc.size + l.length := by
    intro l
    induction l with
    | nil => intro acc; rfl
    | cons a r ih => intro acc; simp only [List.foldl_cons, ih, Array.size_push, List.length_cons]; omega
  have e1 : aheads ops = ops.toList.foldl (fun acc o => acc.push (maskOf acc o)) #[] := rfl
  have hj : ops.size ≤ j := by simpa using ho
  unfold ordered
  rw [e1, Array.getD_eq_getD_getElem?, Array.getElem?_eq_none (by rw [hsz]; simpa using hj)]
  simp

theorem ordered_lt {ops : Array Oper} (hl : Lower ops) : ∀ (j : Nat) {i : Nat}, ordered (aheads ops) i j = true → i < j := by
  intro j
  induction j using Nat.strongRecOn with
  | _ j ih =>
    intro i h
    cases ho : ops[j]? with
    | none => rw [ordered_none ho] at h; cases h
    | some o =>
      obtain ⟨e, he, hb, hc⟩ := ordered_spec hl ho h
      have := hl j o ho e he hb
      rcases hc with rfl | hc
      · exact this
      · have := ih e.on this hc; omega

/-- what is listed is closed -/
def Closed (ops : Array Oper) (listed : Array Bool) : Prop := ∀ (j : Nat) (o : Oper), listed.getD j false = true → ops[j]? = some o → ∀ e ∈ o.after.toList, binding e = true → listed.getD e.on false = true

theorem ordered_listed {ops : Array Oper} (hl : Lower ops) {listed : Array Bool} (hc : Closed ops listed) : ∀ (j : Nat) (o : Oper), ops[j]? = some o → (∀ e ∈ o.after.toList, binding e = true → listed.getD e.on false = true) →
    ∀ {i : Nat}, ordered (aheads ops) i j = true → listed.getD i false = true := by
  intro j
  induction j using Nat.strongRecOn with
  | _ j ih =>
    intro o ho hp i h
    obtain ⟨e, he, hb, hcase⟩ := ordered_spec hl ho h
    have hlt := hl j o ho e he hb
    have hle := hp e he hb
    rcases hcase with rfl | hcase
    · exact hle
    · cases hoe : ops[e.on]? with
      | none => rw [ordered_none hoe] at hcase; cases hcase
      | some oe => exact ih e.on hlt oe hoe (hc e.on oe hle hoe) hcase

/-! ## two operations change places -/

/-- what an operation makes, and the memory behind it -/
def dval (E : AEnv) (call : ACall) (ops : Array Oper) (n0 j : Nat) (o : Oper) (σ : List AVal) (h : AHeap) : Option (AVal × AHeap) :=
  match awanted ops σ o with
  | some true => dop E call ops n0 j (agetOp σ) h o.op
  | some false => some (skipped, h)
  | none => none

theorem dstep_eq {ops : Array Oper} {n0 j : Nat} {o : Oper} (ho : ops[j]? = some o) (s : ASt) :
    dstep E call ops n0 j s = (dval E call ops n0 j o s.slots s.heap).map fun p => ⟨aput s.slots o.dst p.1, p.2⟩ := by
  unfold dstep dval
  rw [ho]
  simp only
  cases awanted ops s.slots o with
  | none => rfl
  | some b =>
    cases b with
    | false => rfl
    | true =>
      simp only
      cases dop E call ops n0 j (agetOp s.slots) s.heap o.op with
      | none => rfl
      | some p => rfl

theorem dop_cases {ops : Array Oper} {n0 j : Nat} {ρ : Operand → AVal} {h : AHeap} {o : Op} {v : AVal} {h' : AHeap} (hd : dop E call ops n0 j ρ h o = some (v, h')) :
    aop E call (n0 + j) ρ h o = some (v, h') ∨ (cls o = .pure ∧ isConv o = true ∧ soloOk ops j = true ∧ aop E call (n0 + j) ρ h o = none) := by
  unfold dop at hd
  split at hd
  · split at hd
    · split at hd
      · exact .inl hd
      · cases hd
    · cases hd
  · split at hd
    · split at hd
      · cases hd
      · exact .inl hd
    · cases hd
  · split at hd
    · rename_i v1 h1 he
      split at hd
      · split at hd
        · rw [he]; exact .inl hd
        · cases hd
      · rw [he]; exact .inl hd
    · cases hd
  · split at hd
    · exact .inl hd
    · cases hd
  · rename_i hc
    split at hd
    · rename_i r he; rw [he]; exact .inl hd
    · rename_i he
      split at hd
      · rename_i hcc; exact .inr ⟨hc, hcc.1, hcc.2, he⟩
      · cases hd
  · exact .inl hd

theorem dop_aopX {ops : Array Oper} {n0 j : Nat} {ρ : Operand → AVal} {h : AHeap} {o : Op} {v : AVal} {h' : AHeap} (hd : dop E call ops n0 j ρ h o = some (v, h')) : aopX E call (n0 + j) ρ h o = some (v, h') := by
  rcases dop_cases hd with h1 | ⟨h1, h2, h3, h4⟩
  · unfold aopX; rw [h1]
  · unfold dop at hd
    rw [h1] at hd
    simp only [h4] at hd
    rw [if_pos ⟨h2, h3⟩] at hd
    unfold aopX; rw [h4]; exact hd

/-- the other one of a pair with a conversion that stands alone is plain -/
theorem solo_pure {ops : Array Oper} {i j : Nat} (hs : soloOk ops j = true) (hi : i < ops.size) (hne : i ≠ j) (h1 : ordered (aheads ops) i j = false) (h2 : ordered (aheads ops) j i = false) {o : Oper} (ho : ops[i]? = some o) : cls o.op = .pure ∧ isConv o.op = false := by
  unfold soloOk at hs
  have := List.all_eq_true.1 hs i (List.mem_range.2 hi)
  simp only [h1, h2, ho, Bool.or_false] at this
  simp only [Bool.or_eq_true, beq_iff_eq, Bool.and_eq_true, decide_eq_true_eq, Bool.not_eq_true'] at this
  rcases this with h | h
  · exact absurd h hne
  · exact h

theorem elemsOf_congr {es : Nat} {x : AVal} {h h' : AHeap} (hx : ∀ k ∈ idOf x, h'.get k = h.get k) : elemsOf es x h' = elemsOf es x h := by
  unfold elemsOf
  split
  · rfl
  · rename_i a len c
    have e : h'.get a.id = h.get a.id := hx a.id (by simp [idOf])
    rw [e]
  · rfl
  · rfl

theorem aappend_spec {D : Tys} {t : TypeId} {s x : AVal} {nid : Nat} {h h1 : AHeap} {v : AVal} (ha : aappend D t s x nid h = some (v, h1)) :
    (h1 = h ∧ ∀ h', (∀ k ∈ idOf s ++ idOf x, h'.get k = h.get k) → aappend D t s x nid h' = some (v, h')) ∨
    ∃ id b, (id = nid ∨ id ∈ idOf s ++ idOf x) ∧ h1 = h.set id b ∧ ∀ h', (∀ k ∈ idOf s ++ idOf x, h'.get k = h.get k) → aappend D t s x nid h' = some (v, h'.set id b) := by
  have hcs : ∀ {h'}, (∀ k ∈ idOf s ++ idOf x, h'.get k = h.get k) → (∀ es, elemsOf es s h' = elemsOf es s h) ∧ (∀ es, elemsOf es x h' = elemsOf es x h) := fun {h'} hh =>
    ⟨fun es => elemsOf_congr fun k hk => hh k (List.mem_append_left _ hk), fun es => elemsOf_congr fun k hk => hh k (List.mem_append_right _ hk)⟩
  unfold aappend at ha
  split at ha
  · rename_i d base len cap hd
    split at ha
    · rename_i e hk
      split at ha
      · rename_i xd hxd
        split at ha
        · rename_i new hnew
          simp only at ha
          split at ha
          · rename_i hc
            split at ha
            · split at ha
              · rename_i h0
                simp only [Option.some.injEq, Prod.mk.injEq] at ha
                obtain ⟨rfl, rfl⟩ := ha
                refine .inl ⟨rfl, fun h' hh => ?_⟩
                have := (hcs hh).2 xd.size
                unfold aappend
                simp only [hd, hk, hxd, this, hnew]
                rw [if_pos hc, if_pos h0]
              · rename_i h0
                split at ha
                · rename_i h2
                  simp only [Option.some.injEq, Prod.mk.injEq] at ha
                  obtain ⟨rfl, rfl⟩ := ha
                  refine .inr ⟨nid, _, .inl rfl, rfl, fun h' hh => ?_⟩
                  have := (hcs hh).2 xd.size
                  unfold aappend
                  simp only [hd, hk, hxd, this, hnew]
                  rw [if_pos hc, if_neg h0, if_pos h2]
                · cases ha
            · rename_i a
              split at ha
              · rename_i hae
                split at ha
                · rename_i b hb
                  have hg : ∀ {h' : AHeap}, (∀ k ∈ idOf (.slice (some a) len cap) ++ idOf x, h'.get k = h.get k) → h'.get a.id = some b := fun {h'} hh => by rw [hh a.id (by simp [idOf]), hb]
                  split at ha
                  · rename_i hfit
                    split at ha
                    · rename_i h0
                      simp only [Option.some.injEq, Prod.mk.injEq] at ha
                      obtain ⟨rfl, rfl⟩ := ha
                      refine .inl ⟨rfl, fun h' hh => ?_⟩
                      have := (hcs hh).2 xd.size
                      unfold aappend
                      simp only [hd, hk, hxd, this, hnew, hg hh]
                      rw [if_pos hc, if_pos hae, if_pos hfit, if_pos h0]
                    · rename_i h0
                      split at ha
                      · rename_i hcc
                        simp only [Option.some.injEq, Prod.mk.injEq] at ha
                        obtain ⟨rfl, rfl⟩ := ha
                        refine .inr ⟨a.id, _, .inr (by simp [idOf]), rfl, fun h' hh => ?_⟩
                        have := (hcs hh).2 xd.size
                        unfold aappend
                        simp only [hd, hk, hxd, this, hnew, hg hh]
                        rw [if_pos hc, if_pos hae, if_pos hfit, if_neg h0, if_pos hcc]
                      · cases ha
                  · rename_i hfit
                    split at ha
                    · rename_i hex
                      split at ha
                      · rename_i old hold
                        simp only [Option.some.injEq, Prod.mk.injEq] at ha
                        obtain ⟨rfl, rfl⟩ := ha
                        refine .inr ⟨nid, _, .inl rfl, rfl, fun h' hh => ?_⟩
                        have e1 := (hcs hh).2 xd.size
                        have e2 := (hcs hh).1 xd.size
                        unfold aappend
                        simp only [hd, hk, hxd, e1, hnew, hg hh]
                        rw [if_pos hc, if_pos hae, if_neg hfit, if_pos hex]
                        simp only [e2, hold]
                      · cases ha
                    · rename_i hex
                      split at ha
                      · rename_i hcc
                        simp only [Option.some.injEq, Prod.mk.injEq] at ha
                        obtain ⟨rfl, rfl⟩ := ha
                        refine .inr ⟨a.id, _, .inr (by simp [idOf]), rfl, fun h' hh => ?_⟩
                        have := (hcs hh).2 xd.size
                        unfold aappend
                        simp only [hd, hk, hxd, this, hnew, hg hh]
                        rw [if_pos hc, if_pos hae, if_neg hfit, if_neg hex, if_pos hcc]
                      · cases ha
                · cases ha
              · cases ha
          · cases ha
        · cases ha
      · cases ha
    · cases ha
  · cases ha

theorem app_spec {nid : Nat} {ρ : Operand → AVal} {h h1 : AHeap} {o : Op} {v : AVal} (hc : cls o = .app) (ho : aop E call nid ρ h o = some (v, h1)) :
    (h1 = h ∧ ∀ h', (∀ k ∈ appIds ρ o, h'.get k = h.get k) → aop E call nid ρ h' o = some (v, h')) ∨
    ∃ id b, (id = nid ∨ id ∈ appIds ρ o) ∧ h1 = h.set id b ∧ ∀ h', (∀ k ∈ appIds ρ o, h'.get k = h.get k) → aop E call nid ρ h' o = some (v, h'.set id b) := by
  cases o <;> simp only [cls, reduceCtorEq] at hc
  rename_i c
  obtain ⟨callee, args, ts⟩ := c
  cases callee <;> simp only [reduceCtorEq] at hc
  rename_i b
  cases b <;> simp only [reduceCtorEq] at hc
  simp only [aop, abuiltin] at ho ⊢
  split at ho
  · rename_i s x t u hargs ht hu
    have hids : appIds ρ (.call ⟨.builtin .append, args, ts⟩) = idOf s ++ idOf x := by simp [appIds, hargs]
    rw [hids]
    split at ho
    · rename_i ud hud
      split at ho
      · rename_i e he
        first | exact aappend_spec ho | (rw [he]; exact aappend_spec ho) | (have := aappend_spec ho; simpa [he] using this)
      · rename_i he
        first | exact aappend_spec ho | (rw [he]; exact aappend_spec ho) | (have := aappend_spec ho; simpa [he] using this)
      · cases ho
    · cases ho
  · cases ho

theorem aget_put {σ : List AVal} {d : Tmp} {v : AVal} {x : Operand} (h : ∀ t, x = .tmp t → t ≠ d) : agetOp (σ.set d v) x = agetOp σ x := by
  cases x with
  | tmp t =>
    have : d ≠ t := fun e => h t rfl e.symm
    simp [agetOp, List.getD_eq_getElem?_getD, List.getElem?_set_ne this]
  | const v => rfl
  | global g => rfl
  | func f => rfl

theorem mem_tmpsOf {xs : List Operand} {t : Tmp} (h : Operand.tmp t ∈ xs) : t ∈ tmpsOf xs := by
  unfold tmpsOf; exact List.mem_filterMap.2 ⟨_, h, rfl⟩

theorem dval_congr {ops : Array Oper} {n0 j : Nat} {o : Oper} {σ : List AVal} {d : Tmp} {v : AVal} {h : AHeap} (hd : d ∉ readsOf ops o) :
    dval E call ops n0 j o (σ.set d v) h = dval E call ops n0 j o σ h := by
  unfold readsOf at hd
  simp only [List.mem_append, not_or] at hd
  obtain ⟨hd1, hd2⟩ := hd
  have hρ : ∀ x ∈ o.op.operands.toList, agetOp (σ.set d v) x = agetOp σ x := fun x hx => aget_put fun t ht e => by
    subst ht e; exact hd1 (mem_tmpsOf hx)
  have hw : awanted ops (σ.set d v) o = awanted ops σ o := by
    unfold awanted
    split
    · rfl
    · rename_i g want hg
      rw [hg] at hd2
      split
      · rename_i dd hdd
        simp only [hdd, Option.toList_some, List.mem_singleton] at hd2
        rw [List.getElem?_set_ne (fun e => hd2 e)]
      · rfl
  unfold dval
  rw [hw]
  have hop : ∀ nid, aop E call nid (agetOp (σ.set d v)) h o.op = aop E call nid (agetOp σ) h o.op := fun nid => aop_congr hρ
  have hlo : loadId (agetOp (σ.set d v)) o.op = loadId (agetOp σ) o.op := by
    cases hoo : o.op <;> simp only [loadId]
    rename_i t x
    rw [hoo] at hρ
    rw [hρ x (by simp [Op.operands])]
  have hso : storeId (agetOp (σ.set d v)) o.op = storeId (agetOp σ) o.op := by
    cases hoo : o.op <;> simp only [storeId]
    rename_i t x y
    rw [hoo] at hρ
    rw [hρ x (by simp [Op.operands])]
  have hdop : dop E call ops n0 j (agetOp (σ.set d v)) h o.op = dop E call ops n0 j (agetOp σ) h o.op := by
    have hai : appIds (agetOp (σ.set d v)) o.op = appIds (agetOp σ) o.op := by
      cases hoo : o.op <;> simp only [appIds]
      rename_i c
      rw [hoo] at hρ
      rw [map_congr_ops (ρ := agetOp (σ.set d v)) (ρ' := agetOp σ) fun x hx => hρ x (by simp only [Op.operands, Call.operands]; cases c.callee <;> simp [hx])]
    have hxo : isConv o.op = true → xop E (n0 + j) (agetOp (σ.set d v)) h o.op = xop E (n0 + j) (agetOp σ) h o.op := by
      intro hic
      cases hoo : o.op <;> rw [hoo] at hic <;> simp only [isConv, reduceCtorEq] at hic
      simp only [xop]
      rename_i a b x
      rw [hoo] at hρ
      rw [hρ x (by simp [Op.operands])]
    unfold dop
    rw [hop, hlo, hso, hai]
    by_cases hic : isConv o.op = true
    · rw [hxo hic]
    · simp only [hic, Bool.false_eq_true, false_and, if_false]
  rw [hdop]

theorem aput_congr {ops : Array Oper} {n0 j : Nat} {o x : Oper} {σ : List AVal} {v : AVal} {h : AHeap} (hd : ∀ d, x.dst = some d → d ∉ readsOf ops o) :
    dval E call ops n0 j o (aput σ x.dst v) h = dval E call ops n0 j o σ h := by
  cases hx : x.dst with
  | none => rfl
  | some d => exact dval_congr (hd d hx)

theorem aput_comm {σ : List AVal} {x y : Oper} {v u : AVal} (h : ∀ d, x.dst = some d → y.dst ≠ some d) : aput (aput σ x.dst v) y.dst u = aput (aput σ y.dst u) x.dst v := by
  cases hx : x.dst with
  | none => rfl
  | some d =>
    cases hy : y.dst with
    | none => rfl
    | some e =>
      have hne : d ≠ e := fun he => h d hx (by rw [hy, he])
      simp only [aput]; exact List.set_comm _ _ hne

theorem set_comm {a b : Nat} (hab : a ≠ b) (h : AHeap) (x y : ABlk) : (h.set a x).set b y = (h.set b y).set a x := by
  unfold AHeap.set
  simp only [Trie.set_comm x y h.blks a b hab]

/-- may i be run ahead of x? (x stands ahead of it in the text) -/
structure May (ops : Array Oper) (x i : Nat) : Prop where
  lt : x < i
  hi : i < ops.size
  no : ordered (aheads ops) x i = false
  pair : ∀ ox oi, ops[x]? = some ox → ops[i]? = some oi → pairOk (cls ox.op) (cls oi.op) = true ∧ apartOps ops ox oi = true

theorem apart_spec {ops : Array Oper} {x y : Oper} (h : apartOps ops x y = true) : (∀ d, x.dst = some d → d ∉ readsOf ops y) ∧ (∀ d, y.dst = some d → d ∉ readsOf ops x) ∧ (∀ d, x.dst = some d → y.dst ≠ some d) := by
  unfold apartOps at h
  simp only [Bool.and_eq_true] at h
  obtain ⟨h1, h2⟩ := h
  refine ⟨fun d hd => ?_, fun d hd => ?_, fun d hd => ?_⟩
  · rw [hd] at h1; simp at h1; exact h1.1
  · rw [hd] at h2; simp at h2; exact h2
  · rw [hd] at h1; simp at h1; exact h1.2

/-- a load and a store that may be run in either order are not of one row -/
theorem looseBelow {ops : Array Oper} {n0 x i : Nat} {ox oi : Oper} (hox : ops[x]? = some ox) (hoi : ops[i]? = some oi) (hcx : cls ox.op = .load) (hci : cls oi.op = .store) (no1 : ordered (aheads ops) x i = false) (no2 : ordered (aheads ops) i x = false) (hx : x < ops.size) (hi : i < ops.size)
    {ρ : Operand → AVal} {h h2 : AHeap} {vi : AVal} {b s0 : Nat} (hl : ∃ b, loadId ρ ox.op = some b ∧ (b < n0 ∨ (b < n0 + ops.size ∧ ordered (aheads ops) (b - n0) x = true ∧ looseStore ops (aheads ops) x = false))) (hb : loadId ρ ox.op = some b)
    (hd : dop E call ops n0 i ρ h oi.op = some (vi, h2)) (hs : storeId ρ oi.op = some s0) : b < n0 ∧ n0 ≤ s0 := by
  have l1 : looseStore ops (aheads ops) x = true := by
    unfold looseStore
    rw [List.any_eq_true]
    refine ⟨i, List.mem_range.2 hi, ?_⟩
    rw [hoi]; simp [hci, no1, no2]
  have l2 : looseCall ops (aheads ops) i = true := by
    unfold looseCall
    rw [List.any_eq_true]
    refine ⟨x, List.mem_range.2 hx, ?_⟩
    rw [hox]; simp [hcx, no1, no2]
  refine ⟨?_, ?_⟩
  · obtain ⟨b', hb', hc⟩ := hl
    rw [hb] at hb'; simp only [Option.some.injEq] at hb'; subst hb'
    rcases hc with hc | ⟨_, _, hc⟩
    · exact hc
    · rw [l1] at hc; cases hc
  · unfold dop at hd
    rw [hci] at hd
    simp only [hs] at hd
    split at hd
    · cases hd
    · rename_i hc
      rcases Nat.lt_or_ge s0 n0 with hlt | hge
      · exact absurd ⟨l2, hlt⟩ hc
      · exact hge

/-- the heart: the two operations on one memory -/
theorem swap_val {ops : Array Oper} (hl : Lower ops) {n0 x i : Nat} (m : May ops x i) {ox oi : Oper} (hox : ops[x]? = some ox) (hoi : ops[i]? = some oi) {σ : List AVal} {h hx h2 : AHeap} {vx vi : AVal}
    (h1 : dval E call ops n0 x ox σ h = some (vx, hx)) (hi : dval E call ops n0 i oi σ hx = some (vi, h2)) :
    ∃ h1', dval E call ops n0 i oi σ h = some (vi, h1') ∧ dval E call ops n0 x ox σ h1' = some (vx, h2) := by
  obtain ⟨hpair, hap⟩ := m.pair ox oi hox hoi
  have hnoi : ordered (aheads ops) i x = false := by
    cases hb : ordered (aheads ops) i x with
    | false => rfl
    | true => have := ordered_lt hl x hb; have := m.lt; omega
  unfold dval at h1 hi ⊢
  cases hwx : awanted ops σ ox with
  | none => rw [hwx] at h1; cases h1
  | some bx =>
    cases hwi : awanted ops σ oi with
    | none => rw [hwi] at hi; cases hi
    | some bi =>
      rw [hwx] at h1; rw [hwi] at hi
      cases bx with
      | false =>
        simp only [Option.some.injEq, Prod.mk.injEq] at h1
        obtain ⟨rfl, rfl⟩ := h1
        exact ⟨h2, hi, rfl⟩
      | true =>
        cases bi with
        | false =>
          simp only [Option.some.injEq, Prod.mk.injEq] at hi
          obtain ⟨rfl, rfl⟩ := hi
          exact ⟨h, rfl, h1⟩
        | true =>
          simp only at h1 hi ⊢
          have hxs : x < ops.size := by have := m.lt; have := m.hi; omega
          have dpure0 : ∀ {j : Nat} {o : Oper} {h : AHeap} {r : AVal × AHeap}, cls o.op = .pure → aop E call (n0 + j) (agetOp σ) h o.op = some r → dop E call ops n0 j (agetOp σ) h o.op = some r := by
            intro j o h r hc ha; unfold dop; rw [hc]; simp only [ha]
          rcases dop_cases h1 with ax | ⟨fx1, fx2, fx3, fx4⟩
          rotate_left
          · -- a conversion that stands alone, ahead
            obtain ⟨p1, p2⟩ := solo_pure fx3 m.hi (by have := m.lt; omega) hnoi m.no hoi
            rcases dop_cases hi with ai | ⟨_, q2, _, _⟩
            · obtain ⟨rfl, hq⟩ := pure_spec p1 ai
              refine ⟨h, dpure0 p1 (hq _ _), h1⟩
            · rw [p2] at q2; cases q2
          rcases dop_cases hi with ai | ⟨fi1, fi2, fi3, fi4⟩
          rotate_left
          · obtain ⟨p1, p2⟩ := solo_pure fi3 hxs (by have := m.lt; omega) m.no hnoi hox
            obtain ⟨rfl, hp⟩ := pure_spec p1 ax
            exact ⟨h2, hi, dpure0 p1 (hp _ _)⟩
          -- the loads' checks
          have loadx : cls ox.op = .load → ∃ b, loadId (agetOp σ) ox.op = some b ∧ (b < n0 ∨ (b < n0 + ops.size ∧ ordered (aheads ops) (b - n0) x = true ∧ looseStore ops (aheads ops) x = false)) := by
            intro hc
            unfold dop at h1; rw [hc] at h1; simp only at h1
            split at h1
            · rename_i b hb
              split at h1
              · rename_i hcc; exact ⟨b, hb, hcc⟩
              · cases h1
            · cases h1
          have loadi : cls oi.op = .load → ∃ b, loadId (agetOp σ) oi.op = some b ∧ (b < n0 ∨ (b < n0 + ops.size ∧ ordered (aheads ops) (b - n0) i = true ∧ looseStore ops (aheads ops) i = false)) := by
            intro hc
            unfold dop at hi; rw [hc] at hi; simp only at hi
            split at hi
            · rename_i b hb
              split at hi
              · rename_i hcc; exact ⟨b, hb, hcc⟩
              · cases hi
            · cases hi
          have dload : ∀ {j : Nat} {o : Oper} {h h' : AHeap} {v : AVal}, cls o.op = .load → (∃ b, loadId (agetOp σ) o.op = some b ∧ (b < n0 ∨ (b < n0 + ops.size ∧ ordered (aheads ops) (b - n0) j = true ∧ looseStore ops (aheads ops) j = false))) →
              aop E call (n0 + j) (agetOp σ) h o.op = some (v, h') → dop E call ops n0 j (agetOp σ) h o.op = some (v, h') := by
            intro j o h h' v hc ⟨b, hb, hcc⟩ ha
            unfold dop; rw [hc]; simp only [hb]; rw [if_pos hcc]; exact ha
          have dalloc : ∀ {j : Nat} {o : Oper} {h : AHeap}, cls o.op = .alloc → dop E call ops n0 j (agetOp σ) h o.op = aop E call (n0 + j) (agetOp σ) h o.op := by
            intro j o h hc; unfold dop; rw [hc]
          have idsx : cls ox.op = .app → appOk ops n0 x (appIds (agetOp σ) ox.op) = true := by
            intro hc; unfold dop at h1; rw [hc] at h1; simp only at h1
            split at h1
            · assumption
            · cases h1
          have idsi : cls oi.op = .app → appOk ops n0 i (appIds (agetOp σ) oi.op) = true := by
            intro hc; unfold dop at hi; rw [hc] at hi; simp only at hi
            split at hi
            · assumption
            · cases hi
          have dapp : ∀ {j : Nat} {o : Oper} {h : AHeap}, cls o.op = .app → appOk ops n0 j (appIds (agetOp σ) o.op) = true → dop E call ops n0 j (agetOp σ) h o.op = aop E call (n0 + j) (agetOp σ) h o.op := by
            intro j o h hc hk; unfold dop; rw [hc]; simp only; rw [if_pos hk]
          have awayOf : ∀ {j k b : Nat} {ids : List Nat}, appOk ops n0 j ids = true → b ∈ ids → ordered (aheads ops) k j = false → b ≠ n0 + k := by
            intro j k b ids hk hb hno e
            subst e
            have := List.all_eq_true.1 hk _ hb
            simp only [Bool.or_eq_true, Bool.and_eq_true, decide_eq_true_eq] at this
            rcases this with h | ⟨_, h⟩
            · omega
            · rw [show n0 + k - n0 = k by omega, hno] at h; cases h
          cases hcx : cls ox.op with
          | pure =>
            obtain ⟨rfl, hp⟩ := pure_spec hcx ax
            exact ⟨h2, hi, dpure0 hcx (hp _ _)⟩
          | load =>
            obtain ⟨rfl, b, hb, hp⟩ := load_spec hcx ax
            cases hci : cls oi.op with
            | pure =>
              obtain ⟨rfl, hq⟩ := pure_spec hci ai
              exact ⟨_, hi, h1⟩
            | load =>
              obtain ⟨rfl, b', hb', hq⟩ := load_spec hci ai
              exact ⟨_, hi, h1⟩
            | alloc =>
              obtain ⟨blk, rfl, hq⟩ := alloc_spec hci ai
              refine ⟨_, hi, dload hcx (loadx hcx) (hp _ _ ?_)⟩
              refine AHeap.get_set_ne _ _ ?_
              rintro rfl
              obtain ⟨b'', hb'', hcc⟩ := loadx hcx
              rw [hb] at hb''; simp at hb''; subst hb''
              rcases hcc with hcc | ⟨_, hcc, _⟩
              · omega
              · rw [show n0 + i - n0 = i by omega, hnoi] at hcc; cases hcc
            | call =>
              refine ⟨_, hi, dload hcx (loadx hcx) (hp _ _ ?_)⟩
              unfold dop at hi; rw [hci] at hi; simp only [ai] at hi
              have hloose : looseCall ops (aheads ops) i = true := by
                unfold looseCall
                rw [List.any_eq_true]
                refine ⟨x, List.mem_range.2 (by have := m.lt; have := m.hi; omega), ?_⟩
                rw [hox]; simp [hcx, m.no, hnoi]
              rw [if_pos hloose] at hi
              split at hi
              · rename_i hs
                obtain ⟨b'', hb'', hcc⟩ := loadx hcx
                rw [hb] at hb''; simp at hb''; subst hb''
                exact sameOld_get hs (by rcases hcc with hcc | ⟨hcc, _, _⟩ <;> omega)
              · cases hi
            | store =>
              obtain ⟨s0, blk, hs0, rfl, hq⟩ := store_spec hci ai
              refine ⟨_, hi, dload hcx (loadx hcx) (hp _ _ ?_)⟩
              refine AHeap.get_set_ne _ _ ?_
              rintro rfl
              have hlb := looseBelow hox hoi hcx hci m.no hnoi (by have := m.lt; have := m.hi; omega) m.hi (loadx hcx) hb hi hs0
              omega
            | app => rw [hcx, hci] at hpair; cases hpair
            | other => rw [hcx, hci] at hpair; cases hpair
          | store =>
            obtain ⟨s0, blk, hs0, rfl, hq⟩ := store_spec hcx ax
            cases hci : cls oi.op with
            | pure =>
              obtain ⟨rfl, hq⟩ := pure_spec hci ai
              exact ⟨h, dpure0 hci (hq _ _), h1⟩
            | load =>
              obtain ⟨rfl, b', hb', hq⟩ := load_spec hci ai
              refine ⟨h, dload hci (loadi hci) (hq _ _ ?_), h1⟩
              refine (AHeap.get_set_ne _ _ ?_).symm
              rintro rfl
              have hlb := looseBelow hoi hox hci hcx hnoi m.no m.hi (by have := m.lt; have := m.hi; omega) (loadi hci) hb' h1 hs0
              omega
            | alloc => rw [hcx, hci] at hpair; cases hpair
            | store => rw [hcx, hci] at hpair; cases hpair
            | call => rw [hcx, hci] at hpair; cases hpair
            | app => rw [hcx, hci] at hpair; cases hpair
            | other => rw [hcx, hci] at hpair; cases hpair
          | alloc =>
            obtain ⟨blk, rfl, hp⟩ := alloc_spec hcx ax
            cases hci : cls oi.op with
            | pure =>
              obtain ⟨rfl, hq⟩ := pure_spec hci ai
              exact ⟨h, dpure0 hci (hq _ _), h1⟩
            | load =>
              obtain ⟨rfl, b', hb', hq⟩ := load_spec hci ai
              refine ⟨h, dload hci (loadi hci) (hq _ _ ?_), h1⟩
              refine (AHeap.get_set_ne _ _ ?_).symm
              rintro rfl
              obtain ⟨b'', hb'', hcc⟩ := loadi hci
              rw [hb'] at hb''; simp at hb''; subst hb''
              rcases hcc with hcc | ⟨_, hcc, _⟩
              · omega
              · rw [show n0 + x - n0 = x by omega, m.no] at hcc; cases hcc
            | alloc =>
              obtain ⟨blk', rfl, hq⟩ := alloc_spec hci ai
              refine ⟨h.set (n0 + i) blk', by rw [dalloc hci]; exact hq _, ?_⟩
              rw [dalloc hcx, hp, set_comm (by have := m.lt; omega)]
            | store => rw [hcx, hci] at hpair; cases hpair
            | call => rw [hcx, hci] at hpair; cases hpair
            | app =>
              have hk := idsi hci
              have away : ∀ k ∈ appIds (agetOp σ) oi.op, k ≠ n0 + x := fun k hkm => awayOf hk hkm m.no
              have agree : ∀ k ∈ appIds (agetOp σ) oi.op, h.get k = (h.set (n0 + x) blk).get k := fun k hkm => (AHeap.get_set_ne _ _ (fun e => away k hkm e.symm)).symm
              rcases app_spec hci ai with ⟨k1, k2⟩ | ⟨id, b', k1, k2, k3⟩
              · subst k1
                exact ⟨h, by rw [dapp hci hk]; exact k2 h agree, h1⟩
              · subst k2
                refine ⟨h.set id b', by rw [dapp hci hk]; exact k3 h agree, ?_⟩
                have hne : n0 + x ≠ id := by
                  rcases k1 with rfl | k1
                  · have := m.lt; omega
                  · exact fun e => away id k1 e.symm
                rw [dalloc hcx, hp, set_comm hne]
            | other => rw [hcx, hci] at hpair; cases hpair
          | call =>
            cases hci : cls oi.op with
            | pure =>
              obtain ⟨rfl, hq⟩ := pure_spec hci ai
              exact ⟨h, dpure0 hci (hq _ _), h1⟩
            | load =>
              obtain ⟨rfl, b', hb', hq⟩ := load_spec hci ai
              refine ⟨h, dload hci (loadi hci) (hq _ _ ?_), h1⟩
              unfold dop at h1; rw [hcx] at h1; simp only [ax] at h1
              have hloose : looseCall ops (aheads ops) x = true := by
                unfold looseCall
                rw [List.any_eq_true]
                refine ⟨i, List.mem_range.2 m.hi, ?_⟩
                rw [hoi]; simp [hci, m.no, hnoi]
              rw [if_pos hloose] at h1
              split at h1
              · rename_i hs
                obtain ⟨b'', hb'', hcc⟩ := loadi hci
                rw [hb'] at hb''; simp at hb''; subst hb''
                exact (sameOld_get hs (by rcases hcc with hcc | ⟨hcc, _, _⟩ <;> omega)).symm
              · cases h1
            | alloc => rw [hcx, hci] at hpair; cases hpair
            | store => rw [hcx, hci] at hpair; cases hpair
            | call => rw [hcx, hci] at hpair; cases hpair
            | app => rw [hcx, hci] at hpair; cases hpair
            | other => rw [hcx, hci] at hpair; cases hpair
          | app =>
            cases hci : cls oi.op with
            | pure =>
              obtain ⟨rfl, hq⟩ := pure_spec hci ai
              exact ⟨h, dpure0 hci (hq _ _), h1⟩
            | alloc =>
              obtain ⟨blk, rfl, hq⟩ := alloc_spec hci ai
              have hk := idsx hcx
              have away : ∀ k ∈ appIds (agetOp σ) ox.op, k ≠ n0 + i := fun k hkm => awayOf hk hkm hnoi
              have agree : ∀ k ∈ appIds (agetOp σ) ox.op, (h.set (n0 + i) blk).get k = h.get k := fun k hkm => AHeap.get_set_ne _ _ (fun e => away k hkm e.symm)
              refine ⟨h.set (n0 + i) blk, by rw [dalloc hci]; exact hq _, ?_⟩
              rw [dapp hcx hk]
              rcases app_spec hcx ax with ⟨k1, k2⟩ | ⟨id, b', k1, k2, k3⟩
              · subst k1; exact k2 _ agree
              · subst k2
                have hne : n0 + i ≠ id := by
                  rcases k1 with rfl | k1
                  · have := m.lt; omega
                  · exact fun e => away id k1 e.symm
                rw [k3 _ agree, set_comm hne]
            | load => rw [hcx, hci] at hpair; cases hpair
            | store => rw [hcx, hci] at hpair; cases hpair
            | call => rw [hcx, hci] at hpair; cases hpair
            | app => rw [hcx, hci] at hpair; cases hpair
            | other => rw [hcx, hci] at hpair; cases hpair
          | other =>
            cases hci : cls oi.op with
            | pure =>
              obtain ⟨rfl, hq⟩ := pure_spec hci ai
              exact ⟨h, dpure0 hci (hq _ _), h1⟩
            | load => rw [hcx, hci] at hpair; cases hpair
            | alloc => rw [hcx, hci] at hpair; cases hpair
            | store => rw [hcx, hci] at hpair; cases hpair
            | call => rw [hcx, hci] at hpair; cases hpair
            | app => rw [hcx, hci] at hpair; cases hpair
            | other => rw [hcx, hci] at hpair; cases hpair

theorem swap_step {ops : Array Oper} (hl : Lower ops) {n0 x i : Nat} (m : May ops x i) {s s1 s2 : ASt} (h1 : dstep E call ops n0 x s = some s1) (h2 : dstep E call ops n0 i s1 = some s2) :
    ∃ t, dstep E call ops n0 i s = some t ∧ dstep E call ops n0 x t = some s2 := by
  have hxl : x < ops.size := by have := m.lt; have := m.hi; omega
  have hox : ops[x]? = some ops[x] := Array.getElem?_eq_getElem hxl
  have hoi : ops[i]? = some (ops[i]'m.hi) := Array.getElem?_eq_getElem m.hi
  obtain ⟨hpair, hap⟩ := m.pair _ _ hox hoi
  obtain ⟨a1, a2, a3⟩ := apart_spec hap
  rw [dstep_eq hox, Option.map_eq_some_iff] at h1
  obtain ⟨⟨vx, hx⟩, k1, rfl⟩ := h1
  rw [dstep_eq hoi, Option.map_eq_some_iff] at h2
  obtain ⟨⟨vi, hh2⟩, k2, rfl⟩ := h2
  simp only at k2
  rw [aput_congr a1] at k2
  obtain ⟨h1', g1, g2⟩ := swap_val hl m hox hoi k1 k2
  refine ⟨⟨aput s.slots (ops[i]'m.hi).dst vi, h1'⟩, ?_, ?_⟩
  · rw [dstep_eq hoi, g1]; rfl
  · rw [dstep_eq hox]
    simp only
    rw [aput_congr a2, g2]
    simp only [Option.map_some]
    rw [aput_comm a3]

theorem front {ops : Array Oper} (hl : Lower ops) {n0 i : Nat} {q : List Nat} : ∀ {p : List Nat} {s s' : ASt}, (∀ x ∈ p, May ops x i) → drun E call ops n0 (p ++ i :: q) s = some s' →
    ∃ t, dstep E call ops n0 i s = some t ∧ drun E call ops n0 (p ++ q) t = some s'
  | [], s, s', _, h => by
    simp only [List.nil_append, drun] at h ⊢
    split at h
    · rename_i t ht; exact ⟨t, ht, h⟩
    · cases h
  | x :: p, s, s', hm, h => by
    simp only [List.cons_append, drun] at h
    split at h
    · rename_i s1 hs1
      obtain ⟨t, h1, h2⟩ := front hl (fun y hy => hm y (by simp [hy])) h
      obtain ⟨u, g1, g2⟩ := swap_step hl (hm x (by simp)) hs1 h1
      refine ⟨u, g1, ?_⟩
      simp only [List.cons_append, drun, g2]; exact h2
    · cases h

theorem dstep_astep {ops : Array Oper} {n0 j : Nat} {s s' : ASt} (h : dstep E call ops n0 j s = some s') : astep E call ops n0 j s = some s' := by
  unfold dstep at h
  unfold astep
  split at h
  · rename_i e; simp [e]; simpa using h
  · rename_i o e
    split at h
    · rename_i hw
      split at h
      · rename_i v hp hd
        rw [show aopX E call (n0 + j) (agetOp s.slots) s.heap o.op = some (v, hp) from dop_aopX hd]; exact h
      · cases h
    · exact h
    · cases h
end

section
variable {P : Program} {φ : Map} {E : AEnv}

theorem drawOk_spec {ops : Array Oper} (h : drawOk ops = true) : Lower ops ∧ ∀ x i, x < i → i < ops.size → ordered (aheads ops) x i = false → May ops x i := by
  unfold drawOk at h
  simp only [List.all_eq_true, List.mem_range] at h
  have hlow : Lower ops := by
    intro j o ho e he hb
    have hj : j < ops.size := by
      rcases Nat.lt_or_ge j ops.size with h' | h'
      · exact h'
      · rw [Array.getElem?_eq_none h'] at ho; cases ho
    have := h j hj
    rw [ho] at this
    simp only [Bool.and_eq_true, List.all_eq_true] at this
    have := this.1 e he
    simpa [hb] using this
  refine ⟨hlow, fun x i hxi hi hno => ⟨hxi, hi, hno, fun ox oi hox hoi => ?_⟩⟩
  have := h i hi
  rw [hoi] at this
  simp only [Bool.and_eq_true, List.all_eq_true, List.mem_range] at this
  have := this.2 x hxi
  rw [hno, hox] at this
  simpa using this

/-- what is not listed yet, in the order of the text -/
def unlisted (ops : Array Oper) (listed : Array Bool) : List Nat := (List.range ops.size).filter fun i => !listed.getD i true

theorem ready_mem {ops : Array Oper} {listed : Array Bool} {i : Nat} (h : i ∈ Region.ready .any ops listed) :
    i < ops.size ∧ listed.getD i true = false ∧ ∃ o, ops[i]? = some o ∧ ∀ e ∈ o.after.toList, binding e = true → listed.getD e.on false = true := by
  unfold Region.ready at h
  simp only [List.mem_filter, List.mem_range, Bool.and_eq_true, Bool.not_eq_true'] at h
  obtain ⟨h1, h2, h3⟩ := h
  refine ⟨h1, h2, ops[i], Array.getElem?_eq_getElem h1, fun e he hb => ?_⟩
  rw [Array.getElem?_eq_getElem h1] at h3
  simp only [Option.map_some, Option.getD_some, Array.all_eq_true_iff_forall_mem] at h3
  have := h3 e (by simpa using he)
  unfold binding at hb
  simpa [hb] using this

theorem ready_first {ops : Array Oper} (hl : Lower ops) {listed : Array Bool} (hsz : listed.size = ops.size) {i : Nat} {r : List Nat} (h : unlisted ops listed = i :: r) : i ∈ Region.ready .any ops listed := by
  have hi : i ∈ unlisted ops listed := by rw [h]; simp
  have hi' := hi
  unfold unlisted at hi
  simp only [List.mem_filter, List.mem_range, Bool.not_eq_true'] at hi
  unfold Region.ready
  simp only [List.mem_filter, List.mem_range, Bool.and_eq_true, Bool.not_eq_true']
  refine ⟨hi.1, hi.2, ?_⟩
  rw [Array.getElem?_eq_getElem hi.1]
  simp only [Option.map_some, Option.getD_some, Array.all_eq_true_iff_forall_mem]
  intro e he
  cases hb : Region.binds .any e with
  | false => rfl
  | true =>
    simp only [Bool.not_true, Bool.false_or]
    have hlt := hl i _ (Array.getElem?_eq_getElem hi.1) e (by simpa using he) hb
    -- were it not listed, it would stand ahead of the first
    cases hle : listed.getD e.on false with
    | true => rfl
    | false =>
      exfalso
      have hin : e.on ∈ unlisted ops listed := by
        unfold unlisted
        simp only [List.mem_filter, List.mem_range, Bool.not_eq_true']
        refine ⟨by omega, ?_⟩
        have hlt' : e.on < listed.size := by omega
        rw [Array.getD_eq_getD_getElem?, Array.getElem?_eq_getElem hlt'] at hle ⊢
        simpa using hle
      have hsorted : (unlisted ops listed).Pairwise (· < ·) := List.Pairwise.filter _ List.pairwise_lt_range
      rw [h] at hsorted hin
      rcases List.mem_cons.1 hin with he' | he'
      · omega
      · have := (List.pairwise_cons.1 hsorted).1 _ he'; omega

theorem unlisted_set {ops : Array Oper} {listed : Array Bool} (hsz : listed.size = ops.size) {i : Nat} {p q : List Nat} (h : unlisted ops listed = p ++ i :: q) : unlisted ops (listed.setIfInBounds i true) = p ++ q := by
  have hnd : (unlisted ops listed).Nodup := List.Pairwise.filter _ List.nodup_range
  have hi : i ∈ unlisted ops listed := by rw [h]; simp
  have hil : i < ops.size := by unfold unlisted at hi; simp only [List.mem_filter, List.mem_range] at hi; exact hi.1
  have e1 : unlisted ops (listed.setIfInBounds i true) = (unlisted ops listed).filter fun j => decide (j ≠ i) := by
    unfold unlisted
    rw [List.filter_filter]
    refine List.filter_congr fun j hj => ?_
    have hjl := List.mem_range.1 hj
    by_cases hji : j = i
    · subst hji
      simp [Array.getD_eq_getD_getElem?, hsz, hil]
    · have hij : ¬ i = j := fun e => hji e.symm
      simp [Array.getD_eq_getD_getElem?, Array.getElem?_setIfInBounds, hji, hij]
  rw [e1, h]
  rw [h] at hnd
  have hp : ∀ j ∈ p, j ≠ i := fun j hj e => by
    subst e
    exact (List.nodup_append.1 hnd).2.2 j hj j (by simp) rfl
  have hq : ∀ j ∈ q, j ≠ i := fun j hj e => by
    subst e
    have := (List.nodup_append.1 hnd).2.1
    exact (List.nodup_cons.1 this).1 hj
  rw [List.filter_append, List.filter_cons]
  simp only [ne_eq, not_true_eq_false, decide_false, Bool.false_eq_true, if_false]
  rw [List.filter_eq_self.2 (fun j hj => by simpa using hp j hj), List.filter_eq_self.2 (fun j hj => by simpa using hq j hj)]

theorem drun_any (hE : EnvOk P E) {N0 : Nat → Prop} {w0 : World} (hN : Low N0 w0.heap.size) {call : ACall} (hcall : CallOk P N0 w0 call) {ops : Array Oper} (hok : drawOk ops = true) {n0 : Nat} {Q : Exit → Act → World → Prop} :
    ∀ {fuel : Nat} {listed : Array Bool} {s s' : ASt} {a : Act} {w : World} {φ : Map}, listed.size = ops.size → Closed ops listed → (unlisted ops listed).length ≤ fuel → drun E call ops n0 (unlisted ops listed) s = some s' →
      SRel φ N0 w0 s a w → (∀ j ∈ unlisted ops listed, n0 + j < s.heap.next ∧ ∀ v, φ (n0 + j) v = none) →
      (∀ a' w' φ', Keep φ φ' n0 → SRel φ' N0 w0 s' a' w' → s.heap.next ≤ s'.heap.next → Q .normal a' w') → wpAny P .any ops Q fuel listed a w := by
  intro fuel
  obtain ⟨hlow, hmay⟩ := drawOk_spec hok
  have hempty : ∀ {listed : Array Bool} {s s' : ASt} {a : Act} {w : World} {φ : Map}, listed.size = ops.size → drun E call ops n0 (unlisted ops listed) s = some s' → SRel φ N0 w0 s a w →
      (∀ a' w' φ', Keep φ φ' n0 → SRel φ' N0 w0 s' a' w' → s.heap.next ≤ s'.heap.next → Q .normal a' w') → Region.ready .any ops listed = [] → Q .normal a w := by
    intro listed s s' a w φ hsz h r hk hr
    cases hu : unlisted ops listed with
    | nil =>
      rw [hu] at h; simp [drun] at h; subst h
      exact hk a w φ (Keep.refl _ _) r (Nat.le_refl _)
    | cons i q =>
      exfalso
      have := ready_first hlow hsz hu
      rw [hr] at this; cases this
  induction fuel with
  | zero =>
    intro listed s s' a w φ hsz hcl hlen h r hid hk
    have hu : unlisted ops listed = [] := List.length_eq_zero_iff.1 (by omega)
    simp only [wpAny]
    have hre : Region.ready .any ops listed = [] := by
      cases hr : Region.ready .any ops listed with
      | nil => rfl
      | cons i q =>
        exfalso
        obtain ⟨h1, h2, _⟩ := ready_mem (by rw [hr]; exact List.mem_cons_self)
        have : i ∈ unlisted ops listed := by unfold unlisted; simp only [List.mem_filter, List.mem_range, Bool.not_eq_true']; exact ⟨h1, h2⟩
        rw [hu] at this; cases this
    exact ⟨hre, hempty hsz h r hk hre⟩
  | succ fuel ih =>
    intro listed s s' a w φ hsz hcl hlen h r hid hk
    simp only [wpAny]
    refine ⟨hempty hsz h r hk, fun i hi => ?_⟩
    obtain ⟨h1, h2, o, ho, hpre⟩ := ready_mem hi
    have hmem : i ∈ unlisted ops listed := by unfold unlisted; simp only [List.mem_filter, List.mem_range, Bool.not_eq_true']; exact ⟨h1, h2⟩
    obtain ⟨p, q, hpq⟩ := List.append_of_mem hmem
    have hsorted : (unlisted ops listed).Pairwise (· < ·) := List.Pairwise.filter _ List.pairwise_lt_range
    have hm : ∀ x ∈ p, May ops x i := by
      intro x hx
      rw [hpq] at hsorted
      have hlt : x < i := (List.pairwise_append.1 hsorted).2.2 x hx i (by simp)
      refine hmay x i hlt h1 ?_
      cases hb : ordered (aheads ops) x i with
      | false => rfl
      | true =>
        exfalso
        have hxl := ordered_listed hlow hcl i o ho hpre hb
        have hxm : x ∈ unlisted ops listed := by rw [hpq]; simp [hx]
        unfold unlisted at hxm
        simp only [List.mem_filter, List.mem_range, Bool.not_eq_true'] at hxm
        have hlt' : x < listed.size := by omega
        rw [Array.getD_eq_getD_getElem?, Array.getElem?_eq_getElem hlt'] at hxl
        have h3 := hxm.2
        rw [Array.getD_eq_getD_getElem?, Array.getElem?_eq_getElem hlt'] at h3
        simp at hxl h3
        rw [hxl] at h3; cases h3
    rw [hpq] at h
    obtain ⟨t, g1, g2⟩ := front hlow hm h
    refine astep_sound hE hN hcall r (hid i hmem) (dstep_astep g1) fun a' w' φ' hx r' hle => ?_
    have hun := unlisted_set hsz hpq
    refine ih (listed := listed.setIfInBounds i true) (by simpa using hsz) ?_ ?_ (by rw [hun]; exact g2) r' (fun j hj => ?_) fun a'' w'' φ'' hkp r'' hle' => ?_
    · intro j oj hj hoj e he hb
      by_cases hei : e.on = i
      · rw [hei]; simp [Array.getD_eq_getD_getElem?, hsz, h1]
      · have hold : listed.getD e.on false = true := by
          by_cases hji : j = i
          · subst hji
            rw [ho] at hoj; simp at hoj; subst hoj
            exact hpre e he hb
          · refine hcl j oj ?_ hoj e he hb
            have hij : ¬ i = j := fun e => hji e.symm
            simpa [Array.getD_eq_getD_getElem?, Array.getElem?_setIfInBounds, hij] using hj
        have hie : ¬ i = e.on := fun e' => hei e'.symm
        simpa [Array.getD_eq_getD_getElem?, Array.getElem?_setIfInBounds, hie] using hold
    · rw [hun]; rw [hpq] at hlen; simp at hlen ⊢; omega
    · rw [hun] at hj
      have hjm : j ∈ unlisted ops listed := by rw [hpq]; rcases List.mem_append.1 hj with hj | hj <;> simp [hj]
      have hnd : (unlisted ops listed).Nodup := List.Pairwise.filter _ List.nodup_range
      have hji : j ≠ i := by
        rintro rfl
        rw [hpq] at hnd
        rcases List.mem_append.1 hj with hj | hj
        · exact (List.nodup_append.1 hnd).2.2 j hj j (by simp) rfl
        · exact (List.nodup_cons.1 (List.nodup_append.1 hnd).2.1).1 hj
      obtain ⟨k1, k2⟩ := hid j hjm
      exact ⟨by omega, hx.new _ k1 (by omega) k2⟩
    · refine hk _ _ _ (Keep.trans ⟨hx.le, fun k hkn hnn => hx.new k ?_ (by omega) hnn, hx.ro⟩ hkp) r'' (by omega)
      have := (hid i hmem).1; omega

theorem drun_sound (hE : EnvOk P E) {N0 : Nat → Prop} {w0 : World} (hN : Low N0 w0.heap.size) {call : ACall} (hcall : CallOk P N0 w0 call) {ops : Array Oper} (hok : drawOk ops = true) {n0 : Nat} {s s' : ASt} {a : Act} {w : World} {φ : Map}
    {Q : Exit → Act → World → Prop} (h : drun E call ops n0 (List.range ops.size) s = some s') (r : SRel φ N0 w0 s a w) (hid : ∀ j, j < ops.size → n0 + j < s.heap.next ∧ ∀ v, φ (n0 + j) v = none)
    (hk : ∀ a' w' φ', Keep φ φ' n0 → SRel φ' N0 w0 s' a' w' → s.heap.next ≤ s'.heap.next → Q .normal a' w') : wpAny P .any ops Q ops.size (Array.replicate ops.size false) a w := by
  have hu : unlisted ops (Array.replicate ops.size false) = List.range ops.size := by
    unfold unlisted
    refine List.filter_eq_self.2 fun i hi => ?_
    have := List.mem_range.1 hi
    simp [Array.getD_eq_getD_getElem?, Array.getElem?_replicate, this]
  refine drun_any hE hN hcall hok (by simp) ?_ (by rw [hu]; simp) (by rw [hu]; exact h) r (fun j hj => by rw [hu] at hj; exact hid j (List.mem_range.1 hj)) hk
  intro j o hj
  simp [Array.getD_eq_getD_getElem?, Array.getElem?_replicate] at hj
  split at hj <;> simp at hj

end
end
end Go.Lift

namespace Go.Lift
noncomputable section
open Go.RowKit
set_option linter.unusedVariables false
set_option linter.unusedSimpArgs false
section
variable {P : Program} {φ : Map} {E : AEnv}

def toExit : AExit → Exit
  | .normal => .normal
  | .exit id => .exit id
  | .goto l => .goto l
  | .ret => .ret

theorem SRel.bump {N0 : Nat → Prop} {w0 w : World} {s : ASt} {a : Act} (r : SRel φ N0 w0 s a w) (n : Nat) : SRel φ N0 w0 ⟨s.slots, { s.heap with next := s.heap.next + n }⟩ a w :=
  ⟨r.slots, r.heap.next (by omega), r.below, r.defers⟩

theorem SRel.drew {N0 : Nat → Prop} {w0 w : World} {s : ASt} {a : Act} (r : SRel φ N0 w0 s a w) : SRel φ N0 w0 s a w.drew :=
  ⟨r.slots, r.heap.alike (Alike.drew' w), r.below.drew, r.defers⟩

theorem fresh_ids {N0 : Nat → Prop} {w : World} {h : AHeap} (r : HRel φ N0 h w) {i : Nat} (hi : h.next ≤ i) : ∀ v, φ i v = none := by
  intro v
  cases hq : φ i v with
  | none => rfl
  | some p => have := (r.dom i v p hq).1; omega

theorem aregion_sound (hE : EnvOk P E) {N0 : Nat → Prop} {w0 w : World} (hN : Low N0 w0.heap.size) {call : ACall} (hcall : CallOk P N0 w0 call) (hmix : P.follows .mixedOrders = true) {id : Nat} {ops : Array Oper} {draw : Bool} {s s' : ASt} {a : Act} (r : SRel φ N0 w0 s a w) (h : aregion E call ops draw s = some s')
    {Q : Exit → Act → World → Prop} (hk : ∀ a' w' φ', Keep φ φ' s.heap.next → SRel φ' N0 w0 s' a' w' → s.heap.next ≤ s'.heap.next → Q .normal a' w') : (Code.region id ops draw).wp P Q a w := by
  have hids : ∀ j, j < ops.size → s.heap.next + j < s.heap.next + ops.size ∧ ∀ v, φ (s.heap.next + j) v = none := fun j hj => ⟨by omega, fresh_ids r.heap (by omega)⟩
  unfold aregion at h
  cases draw with
  | false =>
    simp only [Bool.false_eq_true, if_false] at h
    refine wp_region ?_
    refine arun_sound hE hN hcall h (r.bump _) List.nodup_range (fun j hj => hids j (List.mem_range.1 hj)) fun a' w' φ' h1 h2 h3 => hk a' w' φ' h1 h2 ?_
    simp only at h3; omega
  | true =>
    simp only [if_true] at h
    split at h
    · rename_i hok
      refine wp_region_any hmix ?_
      refine drun_sound hE hN hcall hok h (r.bump _).drew hids fun a' w' φ' h1 h2 h3 => hk a' w' φ' h1 h2 ?_
      simp only at h3; omega
    · cases h

/-- a loop's rounds -/
def LoopW (P : Program) (c : Code) (Q : Exit → Act → World → Prop) (a : Act) (w : World) : Prop :=
  ∀ (b : Frame) (k : List Item) (cs : List Frame), ∃ e a' w', Q e a' w' ∧ Arrives P (lone (b.at a (.code c :: .inLoop c :: k)) cs w) b k cs e a' w'

theorem wp_of_loopW {c : Code} {Q : Exit → Act → World → Prop} {a : Act} {w : World} (h : LoopW P c Q a w) : (Code.loop c).wp P Q a w := fun b k cs =>
  let ⟨e, a', w', q, r⟩ := h b k cs; ⟨e, a', w', q, .of_steps (.one step_loop) r⟩

theorem loopW_round {c : Code} {Q : Exit → Act → World → Prop} {a : Act} {w : World} (h : c.wp P (Exit.then (LoopW P c Q) Q) a w) : LoopW P c Q a w := by
  intro b k cs
  obtain ⟨e, a₁, w₁, hq, harr⟩ := h b (.inLoop c :: k) cs
  cases e with
  | normal =>
    obtain ⟨e₂, a₂, w₂, hq₂, harr₂⟩ := hq b k cs
    exact ⟨e₂, a₂, w₂, hq₂, .of_steps (Steps.trans harr (.one step_inLoop)) harr₂⟩
  | exit id => exact ⟨_, a₁, w₁, hq, .pass (x := .inLoop c) rfl (fun _ _ => .inl (by simp)) harr⟩
  | goto l => exact ⟨_, a₁, w₁, hq, .pass (x := .inLoop c) rfl (fun _ _ => .inl (by simp)) harr⟩
  | ret => exact ⟨_, a₁, w₁, hq, .pass (x := .inLoop c) rfl (fun _ _ => .inl (by simp)) harr⟩
  | panic ch => exact ⟨_, a₁, w₁, hq, .pass (x := .inLoop c) rfl (fun _ _ => .inl (by simp)) harr⟩
  | outgrown => exact ⟨_, a₁, w₁, hq, .pass (x := .inLoop c) rfl (fun _ _ => .inl (by simp)) harr⟩

/-- the code c within the scope of 'body' -/
def ScopeW (P : Program) (body c : Code) (Q : Exit → Act → World → Prop) (a : Act) (w : World) : Prop :=
  ∀ (b : Frame) (k : List Item) (cs : List Frame), ∃ e a' w', Q e a' w' ∧ Arrives P (lone (b.at a (.code c :: .inScope body :: k)) cs w) b k cs e a' w'

theorem wp_of_scopeW {c : Code} {Q : Exit → Act → World → Prop} {a : Act} {w : World} (h : ScopeW P c c Q a w) : (Code.scope c).wp P Q a w := fun b k cs =>
  let ⟨e, a', w', q, r⟩ := h b k cs; ⟨e, a', w', q, .of_steps (.one step_scope) r⟩

/-- what stands behind the code of a scope -/
def scopePost (P : Program) (body : Code) (Q : Exit → Act → World → Prop) : Exit → Act → World → Prop
  | .goto l, a, w =>
    match findLabel body l with
    | some rest => ScopeW P body rest Q a w
    | none => Q (.goto l) a w
  | e, a, w => Q e a w

theorem scopeW_of_wp {body c : Code} {Q : Exit → Act → World → Prop} {a : Act} {w : World} (h : c.wp P (scopePost P body Q) a w) : ScopeW P body c Q a w := by
  intro b k cs
  obtain ⟨e, a₁, w₁, hq, harr⟩ := h b (.inScope body :: k) cs
  cases e with
  | normal => exact ⟨.normal, a₁, w₁, hq, Steps.trans harr (.one step_inScope)⟩
  | exit id => exact ⟨.exit id, a₁, w₁, hq, fun k' hk => harr k' (by simp [exitTo, hk])⟩
  | goto l =>
    simp only [scopePost] at hq
    cases hf : findLabel body l with
    | some rest =>
      rw [hf] at hq
      obtain ⟨e₂, a₂, w₂, hq₂, harr₂⟩ := hq b k cs
      exact ⟨e₂, a₂, w₂, hq₂, .of_steps (harr _ (by simp [gotoIn, hf])) harr₂⟩
    | none =>
      rw [hf] at hq
      exact ⟨.goto l, a₁, w₁, hq, fun k' hk => harr k' (by simp [gotoIn, hf, hk])⟩
  | ret => exact ⟨.ret, a₁, w₁, hq, harr⟩
  | panic ch => exact ⟨.panic ch, a₁, w₁, hq, harr⟩
  | outgrown => exact ⟨.outgrown, a₁, w₁, hq, harr⟩

/-- what is claimed of one run -/
def Sound (P : Program) (E : AEnv) (N0 : Nat → Prop) (w0 : World) (s s' : ASt) (e : AExit) (a : Act) (w : World) (goal : (Exit → Act → World → Prop) → Prop) : Prop :=
  ∀ {φ : Map} {Q : Exit → Act → World → Prop}, SRel φ N0 w0 s a w → (∀ a' w' φ', Keep φ φ' s.heap.next → SRel φ' N0 w0 s' a' w' → s.heap.next ≤ s'.heap.next → Q (toExit e) a' w') → goal Q

theorem aexec_sound (hE : EnvOk P E) {N0 : Nat → Prop} {w0 : World} (hN : Low N0 w0.heap.size) {call : ACall} (hcall : CallOk P N0 w0 call) (hmix : P.follows .mixedOrders = true) : ∀ (n : Nat),
    (∀ {c : Code} {s s' : ASt} {e : AExit} {a : Act} {w : World}, aexec E call n none c s = some (e, s') → Sound P E N0 w0 s s' e a w fun Q => c.wp P Q a w) ∧
    (∀ {c : Code} {s s' : ASt} {e : AExit} {a : Act} {w : World}, aexec E call n none (.loop c) s = some (e, s') → Sound P E N0 w0 s s' e a w fun Q => LoopW P c Q a w) ∧
    (∀ {b c : Code} {s s' : ASt} {e : AExit} {a : Act} {w : World}, aexec E call n (some b) c s = some (e, s') → Sound P E N0 w0 s s' e a w fun Q => ScopeW P b c Q a w) := by
  intro n
  induction n with
  | zero => refine ⟨?_, ?_, ?_⟩ <;> (intros; simp_all [aexec])
  | succ n ih =>
    obtain ⟨ih1, ih2, ih3⟩ := ih
    have hloop : ∀ {c : Code} {s s' : ASt} {e : AExit} {a : Act} {w : World}, aexec E call (n + 1) none (.loop c) s = some (e, s') → Sound P E N0 w0 s s' e a w fun Q => LoopW P c Q a w := by
      intro c s s' e a w h φ Q r hk
      simp only [aexec] at h
      refine loopW_round ?_
      cases h1 : aexec E call n none c s with
      | none => simp [h1] at h
      | some p =>
        obtain ⟨e1, s1⟩ := p
        rw [h1] at h
        refine ih1 h1 r fun a' w' φ' g1 g2 g3 => ?_
        cases e1 with
        | normal =>
          simp only at h
          show LoopW P c Q a' w'
          exact ih2 h g2 fun a'' w'' φ'' k1 k2 k3 => hk a'' w'' φ'' (g1.trans (k1.mono g3)) k2 (by omega)
        | exit id => simp at h; obtain ⟨rfl, rfl⟩ := h; exact hk a' w' φ' g1 g2 g3
        | goto id => simp at h; obtain ⟨rfl, rfl⟩ := h; exact hk a' w' φ' g1 g2 g3
        | ret => simp at h; obtain ⟨rfl, rfl⟩ := h; exact hk a' w' φ' g1 g2 g3
    have hscope : ∀ {b c : Code} {s s' : ASt} {e : AExit} {a : Act} {w : World}, aexec E call (n + 1) (some b) c s = some (e, s') → Sound P E N0 w0 s s' e a w fun Q => ScopeW P b c Q a w := by
      intro b c s s' e a w h φ Q r hk
      simp only [aexec] at h
      refine scopeW_of_wp ?_
      cases h1 : aexec E call n none c s with
      | none => simp [h1] at h
      | some p =>
        obtain ⟨e1, s1⟩ := p
        rw [h1] at h
        refine ih1 h1 r fun a' w' φ' g1 g2 g3 => ?_
        cases e1 with
        | normal => simp at h; obtain ⟨rfl, rfl⟩ := h; exact hk a' w' φ' g1 g2 g3
        | exit id => simp at h; obtain ⟨rfl, rfl⟩ := h; exact hk a' w' φ' g1 g2 g3
        | goto l =>
          simp only at h
          show scopePost P b Q (.goto l) a' w'
          simp only [scopePost]
          cases hf : findLabel b l with
          | some rest =>
            rw [hf] at h
            exact ih3 h g2 fun a'' w'' φ'' k1 k2 k3 => hk a'' w'' φ'' (g1.trans (k1.mono g3)) k2 (by omega)
          | none =>
            rw [hf] at h
            simp at h; obtain ⟨rfl, rfl⟩ := h; exact hk a' w' φ' g1 g2 g3
        | ret => simp at h; obtain ⟨rfl, rfl⟩ := h; exact hk a' w' φ' g1 g2 g3
    refine ⟨?_, hloop, hscope⟩
    intro c s s' e a w h φ Q r hk
    cases c with
    | skip => simp [aexec] at h; obtain ⟨rfl, rfl⟩ := h; exact wp_skip (hk a w φ (Keep.refl _ _) r (Nat.le_refl _))
    | label l => simp [aexec] at h; obtain ⟨rfl, rfl⟩ := h; exact wp_label (hk a w φ (Keep.refl _ _) r (Nat.le_refl _))
    | region id ops draw =>
      simp only [aexec, Option.map_eq_some_iff, Prod.mk.injEq] at h
      obtain ⟨s1, h1, rfl, rfl⟩ := h
      exact aregion_sound hE hN hcall hmix r h1 hk
    | seq x y =>
      simp only [aexec] at h
      refine wp_seq ?_
      cases h1 : aexec E call n none x s with
      | none => simp [h1] at h
      | some p =>
        obtain ⟨e1, s1⟩ := p
        rw [h1] at h
        refine ih1 h1 r fun a' w' φ' g1 g2 g3 => ?_
        cases e1 with
        | normal =>
          simp only at h
          show y.wp P Q a' w'
          exact ih1 h g2 fun a'' w'' φ'' k1 k2 k3 => hk a'' w'' φ'' (g1.trans (k1.mono g3)) k2 (by omega)
        | exit id => simp at h; obtain ⟨rfl, rfl⟩ := h; exact hk a' w' φ' g1 g2 g3
        | goto id => simp at h; obtain ⟨rfl, rfl⟩ := h; exact hk a' w' φ' g1 g2 g3
        | ret => simp at h; obtain ⟨rfl, rfl⟩ := h; exact hk a' w' φ' g1 g2 g3
    | cond x y z =>
      simp only [aexec] at h
      have hx := r.eval x
      split at h
      · rename_i hb
        rw [hb] at hx; simp only [VRel] at hx
        exact wp_cond_true hx (ih1 h r hk)
      · rename_i hb
        rw [hb] at hx; simp only [VRel] at hx
        exact wp_cond_false hx (ih1 h r hk)
      · cases h
    | block id c =>
      simp only [aexec] at h
      refine wp_block ?_
      cases h1 : aexec E call n none c s with
      | none => simp [h1] at h
      | some p =>
        obtain ⟨e1, s1⟩ := p
        rw [h1] at h
        refine ih1 h1 r fun a' w' φ' g1 g2 g3 => ?_
        cases e1 with
        | normal => simp at h; obtain ⟨rfl, rfl⟩ := h; exact hk a' w' φ' g1 g2 g3
        | exit j =>
          simp at h; obtain ⟨rfl, rfl⟩ := h
          simp only [toExit, Exit.inBlock]
          by_cases hj : j = id
          · rw [if_pos hj] at hk ⊢; exact hk a' w' φ' g1 g2 g3
          · rw [if_neg hj] at hk ⊢; exact hk a' w' φ' g1 g2 g3
        | goto l => simp at h; obtain ⟨rfl, rfl⟩ := h; exact hk a' w' φ' g1 g2 g3
        | ret => simp at h; obtain ⟨rfl, rfl⟩ := h; exact hk a' w' φ' g1 g2 g3
    | loop c => exact wp_of_loopW (hloop h r hk)
    | scope c =>
      simp only [aexec] at h
      exact wp_of_scopeW (ih3 h r hk)
    | goto l => simp [aexec] at h; obtain ⟨rfl, rfl⟩ := h; exact wp_goto (hk a w φ (Keep.refl _ _) r (Nat.le_refl _))
    | exit id => simp [aexec] at h; obtain ⟨rfl, rfl⟩ := h; exact wp_exit (hk a w φ (Keep.refl _ _) r (Nat.le_refl _))
    | ret => simp [aexec] at h; obtain ⟨rfl, rfl⟩ := h; exact wp_ret (hk a w φ (Keep.refl _ _) r (Nat.le_refl _))
    | rangeFunc f ps x y => simp [aexec] at h
    | refuse w => simp [aexec] at h

/-! ## results -/

theorem aresults_sound (hD : E.D.Ok P) {N0 : Nat → Prop} {w0 w : World} {s : ASt} {a : Act} (r : SRel φ N0 w0 s a w) : ∀ {rs : List ResultVar} {l : List AVal}, aresults E.D rs s = some l →
    ∃ vs, (rs.mapM (fun (x : ResultVar) => (match x with | .tmp t => pure (a.tmps.getD t undef) | .cell b t => do loadVar t (← asAddr (a.tmps.getD b undef)) : Sem Value))).run P w = .ok vs w ∧ VRels φ l vs
  | [], l, h => by simp [aresults] at h; subst h; exact ⟨[], rfl, by simp [VRels]⟩
  | .tmp t :: rs, l, h => by
    simp only [aresults, Option.map_eq_some_iff] at h
    obtain ⟨m, h1, rfl⟩ := h
    obtain ⟨vs, k1, k2⟩ := aresults_sound hD r h1
    refine ⟨a.tmps.getD t undef :: vs, ?_, ?_⟩
    · simp only [List.mapM_cons, Sem.run_bind, Sem.run_pure, Result.andThen_ok, k1]
    · simp only [VRels]; exact ⟨_, _, rfl, r.slots.getD_arr t, k2⟩
  | .cell b t :: rs, l, h => by
    simp only [aresults] at h
    split at h
    · rename_i p hp
      split at h
      · rename_i v m h1 h2
        simp at h; subst h
        obtain ⟨vs, k1, k2⟩ := aresults_sound hD r h2
        have hb := r.slots.getD_arr b
        rw [hp] at hb
        obtain ⟨v', g1, g2⟩ := sim_load hD r.heap hb h1
        simp only [VRel] at hb
        obtain ⟨xa, hxa, hat⟩ := hb
        rw [hxa] at g1
        simp only [Instr.loadAt, Instr.sureAddr, Sem.run_bind, Sem.run_pure, Result.andThen_ok] at g1
        refine ⟨v' :: vs, ?_, ?_⟩
        · have hA : (asAddr (a.tmps.getD b undef)).run P w = .ok xa w := by rw [hxa]; rfl
          simp only [List.mapM_cons, Sem.run_bind, hA, Sem.run_pure, Result.andThen_ok, g1, k1]
        · simp only [VRels]; exact ⟨_, _, rfl, g2, k2⟩
      · cases h
    · cases h

theorem results_sound (hD : E.D.Ok P) {N0 : Nat → Prop} {w0 w : World} {s : ASt} {a : Act} (r : SRel φ N0 w0 s a w) {fn : Func} {l : List AVal} (h : aresults E.D fn.results.toList s = some l) :
    ∃ v', (results fn a.tmps).run P w = .ok v' w ∧ VRel φ (aresult l) v' := by
  obtain ⟨vs, h1, h2⟩ := aresults_sound hD r h
  have hm : (fn.results.mapM (fun (x : ResultVar) => (match x with | .tmp t => pure (a.tmps.getD t undef) | .cell b t => do loadVar t (← asAddr (a.tmps.getD b undef)) : Sem Value))).run P w = .ok vs.toArray w := by
    rw [← Array.toArray_toList (xs := fn.results)]
    simp only [List.mapM_toArray, Sem.run_map, h1, Result.andThen_ok]
  have hlen := h2.length
  by_cases h1l : l.length = 1
  · obtain ⟨x, rfl⟩ := List.length_eq_one_iff.1 h1l
    obtain ⟨y, rfl⟩ := List.length_eq_one_iff.1 (by rw [hlen, h1l])
    refine ⟨y, ?_, ?_⟩
    · unfold results
      rw [Sem.run_bind]
      erw [hm]
      rfl
    · simp only [VRels] at h2
      obtain ⟨v, t, e, h3, h4⟩ := h2
      simp at e; obtain ⟨rfl, rfl⟩ := e
      exact h3
  · refine ⟨.tuple vs.toArray, ?_, ?_⟩
    · unfold results
      rw [Sem.run_bind]
      erw [hm]
      simp only [Result.andThen_ok, Sem.run_pure]
      rw [dif_neg (by simp; omega)]
    · have : aresult l = .tuple l := by
        unfold aresult
        split
        · simp at h1l
        · rfl
      rw [this]; simp only [VRel]; exact ⟨_, rfl, by simpa using h2⟩

theorem acall_sound (hE : EnvOk P E) {N0 : Nat → Prop} {w0 : World} (hN : Low N0 w0.heap.size) (hC : E.cond N0 w0) (hmix : P.follows .mixedOrders = true) : ∀ n, CallOk P N0 w0 (acall P E n) := by
  intro n
  induction n with
  | zero => intro f args h v h' hc; simp [acall] at hc
  | succ n ih =>
    intro f args h v h' hc φ w args' hH hB hA
    simp only [acall] at hc
    split at hc
    · rename_i g hg; exact hE.prims f g hg N0 w0 hN hC args h v h' hc φ w args' hH hB hA
    · rename_i hnone
      split at hc
      · rename_i fn hfn
        split at hc
        · rename_i c hbody
          refine ⟨⟨fn, c, hfn, hbody⟩, ?_⟩
          refine calls_of_wp hfn hbody ?_
          have hlen : args'.size = args.length := by have := hA.length; rwa [Array.length_toList] at this
          have r : SRel φ N0 w0 ⟨args ++ List.replicate (fn.ntmps - args.length) skipped, h⟩ { tmps := args' ++ Array.replicate (fn.ntmps - args'.size) undef, defers := [] } w := by
            refine ⟨?_, hH, hB, rfl⟩
            simp only [Array.toList_append, Array.toList_replicate, hlen]
            exact hA.append (VRels.replicate (VRel.skipped φ) _)
          cases hx : aexec E (acall P E n) n none c ⟨args ++ List.replicate (fn.ntmps - args.length) skipped, h⟩ with
          | none => simp [hx] at hc
          | some p =>
            obtain ⟨e, s⟩ := p
            rw [hx] at hc
            have fin : ∀ a' w' φ', Keep φ φ' h.next → SRel φ' N0 w0 s a' w' → h.next ≤ s.heap.next → ∀ {l}, aresults E.D fn.results.toList s = some l → v = aresult l → h' = s.heap →
                a'.defers = [] ∧ ∃ v_1, (results fn a'.tmps).run P w' = .ok v_1 w' ∧ ∃ v' φ', Ending.returned v_1 = .returned v' ∧ Keep φ φ' h.next ∧ VRel φ' v v' ∧ HRel φ' N0 h' w' ∧ Safe N0 w0 w' ∧ h.next ≤ h'.next := by
              intro a' w' φ' g1 g2 g3 l hl hv hh
              subst hv hh
              obtain ⟨v', k1, k2⟩ := results_sound hE.tys g2 hl
              exact ⟨g2.defers, v', k1, v', φ', rfl, g1, k2, g2.heap, g2.below, g3⟩
            refine (aexec_sound hE hN ih hmix n).1 hx r fun a' w' φ' g1 g2 g3 => ?_
            cases e with
            | normal =>
              simp only [Option.map_eq_some_iff, Prod.mk.injEq] at hc
              obtain ⟨l, hl, h1, h2⟩ := hc
              exact fin a' w' φ' g1 g2 g3 hl h1.symm h2.symm
            | ret =>
              simp only [Option.map_eq_some_iff, Prod.mk.injEq] at hc
              obtain ⟨l, hl, h1, h2⟩ := hc
              exact fin a' w' φ' g1 g2 g3 hl h1.symm h2.symm
            | exit id => simp at hc
            | goto id => simp at hc
        · cases hc
      · cases hc
end
end
end Go.Lift

namespace Go.Lift
noncomputable section
open Go.RowKit
set_option linter.unusedVariables false
set_option linter.unusedSimpArgs false
section
variable {P : Program} {E : AEnv}

/-- the abstract machine's answer is the model's; memory that was there is as it was -/
theorem acall_calls (hE : EnvOk P E) (hmix : P.follows .mixedOrders = true) {n : Nat} {f : FuncId} {args : List AVal} {h h' : AHeap} {v : AVal} (hc : acall P E n f args h = some (v, h')) {φ : Map} {w : World} {args' : Array Value}
    (hC : E.cond (fun k => k < w.heap.size) w) (hH : HRel φ (fun k => k < w.heap.size) h w) (hA : VRels φ args args'.toList) : Calls P f args' w fun e w' => ∃ v' φ', e = .returned v' ∧ VRel φ' v v' ∧ Below w.heap.size w w' :=
  (((acall_sound hE (N0 := fun k => k < w.heap.size) (w0 := w) (fun _ h => h) hC hmix n) f args h v h' hc φ w args' hH (Safe.refl _ _) hA).2).mono
    fun e w' ⟨v', φ', h1, h2, h4, h5, h6, h7⟩ => ⟨v', φ', h1, h4, h6.below⟩

theorem acall_true (hE : EnvOk P E) (hmix : P.follows .mixedOrders = true) {n : Nat} {f : FuncId} {args : List AVal} {h h' : AHeap} (hc : acall P E n f args h = some (.bool true, h')) {φ : Map} {w : World} {args' : Array Value}
    (hC : E.cond (fun k => k < w.heap.size) w) (hH : HRel φ (fun k => k < w.heap.size) h w) (hA : VRels φ args args'.toList) : Calls P f args' w fun e w' => e = .returned (.bool true) ∧ Below w.heap.size w w' :=
  (acall_calls hE hmix hc hC hH hA).mono fun e w' ⟨v', φ', h1, h2, h3⟩ => by
    simp only [VRel] at h2; subst h2; exact ⟨h1, h3⟩

/-- is it 'true'? -/
def saysTrue : Option (AVal × AHeap) → Bool
  | some (.bool true, _) => true
  | _ => false

theorem saysTrue_spec {r : Option (AVal × AHeap)} (h : saysTrue r = true) : ∃ h', r = some (.bool true, h') := by
  unfold saysTrue at h
  split at h
  · exact ⟨_, rfl⟩
  · cases h

def noMap : Map := fun _ _ => none

theorem HRel.empty (N0 : Nat → Prop) (w : World) (n : Nat) : HRel noMap N0 ⟨n, .nil⟩ w where
  dom i v p h := by cases h
  apart i v p j u q h := by cases h
  same i v p u q h := by cases h

theorem Tys.ok_self (P : Program) : Tys.Ok (tyD P) P := fun _ _ h => h

theorem names_of {P : Program} (h : (P.funcs.toList.all fun fn => !(fn.name == "runtime.NumGoroutine")) = true) : ∀ (f : Nat) fn, P.funcs[f]? = some fn → (fn.name == "runtime.NumGoroutine") = false := by
  intro f fn hf
  have hm : fn ∈ P.funcs.toList := by
    rw [← Array.getElem?_toList] at hf
    exact List.mem_of_getElem? hf
  have := List.all_eq_true.1 h fn hm
  simpa using this

theorem eqs_of {P : Program} {E : AEnv} (h : (E.eqs.all fun t => eqOkB P t) = true) : ∀ t, E.eqT t = true → EqOk P t := by
  intro t ht
  exact List.all_eq_true.1 h t (by simpa [AEnv.eqT] using ht)

end
end
end Go.Lift

namespace Go.Proofs.YtddnafghiejcoaaGreatDoor
open Go.Lift Go.Shelf
set_option maxRecDepth 1000000
set_option linter.unusedVariables false

def rho : Ren where
  f := fun x => if x = 129 then 136 else if x = 284 then 120 else if x = 317 then 135 else if x = 318 then 137 else 0
  t := fun x => if x = 0 then 0 else if x = 3 then 3 else if x = 4 then 4 else if x = 5 then 5 else if x = 9 then 9 else if x = 46 then 108 else if x = 53 then 151 else if x = 212 then 179 else 0
  g := fun x => if x = 17 then 5 else 0

theorem lays0 : Lays.n284 Tryz.prog rho := by
  constructor
  all_goals first | kernel_rfl | (intro w; kernel_rfl)
theorem lays284 : LaysM.n284 Tryz.prog rho := by
  constructor
  all_goals first | exact lays0 | kernel_rfl

/-- three digits -/
theorem digits105 (w : World) (h : Lib.TabIs Tryz.prog w "internal/strconv.uint64pow10" .u64 Lib.pow10Tab) : Calls Tryz.prog 120 #[.int .u64 105] w fun e w' => e = .returned (.int .i64 3) ∧ w' = w := by
  have k := Any.internal_strconv_numDigits lays284 105 (by decide) (by decide) w h
  rwa [show Lib.nDigits 105 = 3 by decide +kernel] at k
end Go.Proofs.YtddnafghiejcoaaGreatDoor

namespace Go.Proofs.YtddnafghiejcoaaGreatDoor
open Go.Lift

set_option maxRecDepth 1000000
/-- internal/strconv.numDigits, where it is asked of one number alone -/
def digits3 : APrim := fun args h =>
  match args with
  | [.int .u64 n] => if n = 105 then some (.int .i64 3, h) else none
  | _ => none
def digCond (N0 : Nat → Prop) (w : World) : Prop := N0 5 ∧ Lib.TabIs Tryz.prog w "internal/strconv.uint64pow10" .u64 Lib.pow10Tab
theorem digits_ok : PrimOk Tryz.prog digCond 120 digits3 := by
  intro N0 w0 hN hC args h v h' hg φ w args' hH hB hA
  unfold digits3 at hg
  split at hg
  · rename_i n
    split at hg
    · rename_i hn
      subst hn
      simp only [Option.some.injEq, Prod.mk.injEq] at hg
      obtain ⟨rfl, rfl⟩ := hg
      obtain ⟨l⟩ := args'
      simp only [VRels] at hA
      obtain ⟨a, t, rfl, ha, rfl⟩ := hA
      simp only [VRel] at ha
      subst ha
      have htab : Lib.TabIs Tryz.prog w "internal/strconv.uint64pow10" .u64 Lib.pow10Tab := by
        have h0 := hC.2
        unfold Lib.TabIs World.var? at h0 ⊢
        have hg : Tryz.prog.globalNamed "internal/strconv.uint64pow10" = some 5 := by kernel_rfl
        rw [hg] at h0 ⊢
        simp only [Option.bind_some] at h0 ⊢
        rw [hB.block _ hC.1]; exact h0
      refine ⟨⟨Tryz.f120, _, by kernel_rfl, rfl⟩, (digits105 w htab).mono fun e w' hh => ?_⟩
      obtain ⟨he, hw⟩ := hh
      subst hw
      exact ⟨_, φ, he, Keep.refl _ _, by simp only [VRel], hH, hB, Nat.le_refl _⟩
    · cases hg
  · cases hg
noncomputable def env : AEnv := { cond := digCond, prim := fun f => if f = 120 then some digits3 else none,  D := tyD Tryz.prog, eqs := [42], ext := fun f => if f = 170 then some 0 else if f = 133 then some 1 else none }
theorem env_ok : EnvOk Tryz.prog env where
  tys := Tys.ok_self _
  eqs := eqs_of (by decide +kernel)
  names := names_of (by decide +kernel)
  prims := fun f g h => by
    simp only [env] at h
    split at h
    · rename_i e; subst e; simp only [Option.some.injEq] at h; subst h; exact digits_ok
    · cases h
  exts := fun f k h => by
    simp only [env] at h
    split at h
    · rename_i e; subst e; simp only [Option.some.injEq] at h; subst h
      exact ⟨Tryz.f170, _, by kernel_rfl, by kernel_rfl, by kernel_rfl, by kernel_rfl, rfl⟩
    · split at h
      · rename_i e; subst e; simp only [Option.some.injEq] at h; subst h
        exact ⟨Tryz.f133, _, by kernel_rfl, by kernel_rfl, by kernel_rfl, by kernel_rfl, rfl⟩
      · cases h
theorem mixed : Tryz.prog.follows .mixedOrders = true := by decide +kernel
end Go.Proofs.YtddnafghiejcoaaGreatDoor

namespace Go.Lift
noncomputable section
set_option linter.unusedVariables false
set_option linter.unusedSimpArgs false

section
variable {β : Type}

def fNat (n : Nat) (k : Nat → β) : β := Nat.rec (motive := fun _ => β) (k 0) (fun m _ => k (Nat.succ m)) n
theorem fNat_eq (n : Nat) (k : Nat → β) : fNat n k = k n := by cases n <;> rfl

def fInt (n : Int) (k : Int → β) : β :=
  match n with
  | .ofNat m => fNat m fun m => k (.ofNat m)
  | .negSucc m => fNat m fun m => k (.negSucc m)
theorem fInt_eq (n : Int) (k : Int → β) : fInt n k = k n := by cases n <;> simp [fInt, fNat_eq]

def fKind (d : IntKind) (k : IntKind → β) : β :=
  match d with
  | .i8 => k .i8 | .i16 => k .i16 | .i32 => k .i32 | .i64 => k .i64 | .u8 => k .u8 | .u16 => k .u16 | .u32 => k .u32 | .u64 => k .u64
theorem fKind_eq (d : IntKind) (k : IntKind → β) : fKind d k = k d := by cases d <;> rfl

def fBool (b : Bool) (k : Bool → β) : β :=
  match b with
  | true => k true
  | false => k false
theorem fBool_eq (b : Bool) (k : Bool → β) : fBool b k = k b := by cases b <;> rfl

def fAddr (a : AAddr) (k : AAddr → β) : β :=
  match a with
  | ⟨a, b, c, d, e⟩ => fNat a fun a => fNat b fun b => fNat c fun c => fNat d fun d => fNat e fun e => k ⟨a, b, c, d, e⟩
theorem fAddr_eq (a : AAddr) (k : AAddr → β) : fAddr a k = k a := by cases a; simp [fAddr, fNat_eq]

def fByte (b : UInt8) (k : UInt8 → β) : β :=
  match b with
  | ⟨⟨⟨n, h⟩⟩⟩ => fNat n fun m => k (UInt8.ofNat m)
theorem fByte_eq (b : UInt8) (k : UInt8 → β) : fByte b k = k b := by
  obtain ⟨⟨⟨n, h⟩⟩⟩ := b
  simp only [fByte, fNat_eq]
  congr 1
  apply UInt8.toNat_inj.1
  simp [UInt8.toNat, UInt8.ofNat]
  omega

def fBytes : List UInt8 → (List UInt8 → β) → β
  | [], k => k []
  | b :: r, k => fByte b fun b => fBytes r fun r => k (b :: r)
theorem fBytes_eq : ∀ (l : List UInt8) (k : List UInt8 → β), fBytes l k = k l
  | [], k => rfl
  | b :: r, k => by simp only [fBytes, fByte_eq, fBytes_eq r]

/-- a value without parts -/
def fS (v : AVal) (k : AVal → β) : β :=
  match v with
  | .undef => k .undef
  | .bool b => fBool b fun b => k (.bool b)
  | .int d n => fKind d fun d => fInt n fun n => k (.int d n)
  | .str s => fBytes s fun s => k (.str s)
  | .ptr none => k (.ptr none)
  | .ptr (some a) => fAddr a fun a => k (.ptr (some a))
  | .slice none n c => fNat n fun n => fNat c fun c => k (.slice none n c)
  | .slice (some a) n c => fAddr a fun a => fNat n fun n => fNat c fun c => k (.slice (some a) n c)
  | .nilFunc => k .nilFunc
  | .nilIface => k .nilIface
  | .func a b c => k (.func a b c)
  | .iface t v => k (.iface t v)
  | .agg l => k (.agg l)
  | .tuple l => k (.tuple l)
theorem fS_eq (v : AVal) (k : AVal → β) : fS v k = k v := by
  cases v with
  | ptr o => cases o <;> simp [fS, fAddr_eq]
  | slice o n c => cases o <;> simp [fS, fAddr_eq, fNat_eq]
  | _ => simp [fS, fBool_eq, fKind_eq, fInt_eq, fBytes_eq]

def fSs : List AVal → (List AVal → β) → β
  | [], k => k []
  | a :: r, k => fS a fun a => fSs r fun r => k (a :: r)
theorem fSs_eq : ∀ (l : List AVal) (k : List AVal → β), fSs l k = k l
  | [], k => rfl
  | a :: r, k => by simp only [fSs, fS_eq, fSs_eq r]

/-- parts of one layer -/
def fV1 (v : AVal) (k : AVal → β) : β :=
  match v with
  | .agg l => fSs l fun l => k (.agg l)
  | .iface t v => fNat t fun t => fS v fun v => k (.iface t v)
  | .func a b c => fSs b fun b => fSs c fun c => k (.func a b c)
  | .tuple l => fSs l fun l => k (.tuple l)
  | v => fS v k
theorem fV1_eq (v : AVal) (k : AVal → β) : fV1 v k = k v := by
  unfold fV1; split <;> simp [fS_eq, fSs_eq, fNat_eq]

def fV1s : List AVal → (List AVal → β) → β
  | [], k => k []
  | a :: r, k => fV1 a fun a => fV1s r fun r => k (a :: r)
theorem fV1s_eq : ∀ (l : List AVal) (k : List AVal → β), fV1s l k = k l
  | [], k => rfl
  | a :: r, k => by simp only [fV1s, fV1_eq, fV1s_eq r]

def fV (v : AVal) (k : AVal → β) : β :=
  match v with
  | .tuple l => fV1s l fun l => k (.tuple l)
  | .iface t v => fNat t fun t => fV1 v fun v => k (.iface t v)
  | v => fV1 v k
theorem fV_eq (v : AVal) (k : AVal → β) : fV v k = k v := by
  unfold fV; split <;> simp [fV1_eq, fV1s_eq, fNat_eq]

def fVs : List AVal → (List AVal → β) → β
  | [], k => k []
  | a :: r, k => fV a fun a => fVs r fun r => k (a :: r)
def fBlk (b : ABlk) (k : ABlk → β) : β :=
  match b with
  | ⟨l, es, ex, ro, v, m, f⟩ => fV1s l fun l => fNat es fun es => fBool ex fun ex => fBool ro fun ro => fNat v fun v => fNat m fun m => fNat f fun f => k ⟨l, es, ex, ro, v, m, f⟩
theorem fBlk_eq (b : ABlk) (k : ABlk → β) : fBlk b k = k b := by cases b; simp [fBlk, fV1s_eq, fNat_eq, fBool_eq]


/-! slots: a tree -/

def toL (n : Nat) (t : Trie AVal) : List AVal := (List.range n).map fun i => (t.get i).getD skipped

theorem toL_get (n : Nat) (t : Trie AVal) (i : Nat) : (toL n t)[i]? = if i < n then some ((t.get i).getD skipped) else none := by
  simp only [toL, List.getElem?_map]
  by_cases h : i < n
  · rw [List.getElem?_range h, if_pos h]; rfl
  · rw [List.getElem?_eq_none (by simpa using h), if_neg h]; rfl

def tget (n : Nat) (t : Trie AVal) (i : Nat) : Option AVal := cond (Nat.blt i n) (some (Option.rec (motive := fun _ => AVal) skipped (fun v => v) (t.get i))) none
theorem tget_eq (n : Nat) (t : Trie AVal) (i : Nat) : tget n t i = (toL n t)[i]? := by
  rw [toL_get]; unfold tget
  by_cases h : i < n
  · rw [show Nat.blt i n = true by simpa [Nat.blt_eq] using h, if_pos h]; cases t.get i <;> rfl
  · rw [show Nat.blt i n = false by cases hb : Nat.blt i n with | false => rfl | true => exact absurd (Nat.blt_eq.mp hb) h, if_neg h]; rfl

def agetT (n : Nat) (t : Trie AVal) (o : Operand) : AVal :=
  match o with
  | .tmp i => cond (Nat.blt i n) (Option.rec (motive := fun _ => AVal) skipped (fun v => v) (t.get i)) .undef
  | .const v => ofConst v
  | .global _ => .undef
  | .func f => .func (.func f) [] []
theorem agetT_eq (n : Nat) (t : Trie AVal) : agetT n t = agetOp (toL n t) := by
  funext o
  cases o with
  | tmp i =>
    have := tget_eq n t i
    simp only [agetOp, List.getD_eq_getElem?_getD, ← this]
    unfold tget
    show cond (Nat.blt i n) (Option.rec (motive := fun _ => AVal) skipped (fun v => v) (t.get i)) .undef = _
    cases Nat.blt i n <;> rfl
  | const v => rfl
  | global g => rfl
  | func f => rfl

theorem toL_set (n : Nat) (t : Trie AVal) (d : Nat) (v : AVal) : toL n (t.set d v) = (toL n t).set d v := by
  apply List.ext_getElem?
  intro i
  rw [toL_get, List.getElem?_set, toL_get]
  by_cases h : i < n
  · simp only [h, if_true, Trie.get_set]
    by_cases hd : d = i
    · subst hd; simp [toL, h]
    · simp [hd]
  · simp only [h, if_false]
    by_cases hd : d = i
    · subst hd; simp [toL, h]
    · simp [hd]

section
variable {α : Type}
def fSing (f : Nat) : Nat → α → (Trie α → β) → β :=
  Nat.rec (motive := fun _ => Nat → α → (Trie α → β) → β) (fun _ v c => c (.node (some v) .nil .nil))
    (fun _ ih k v c => cond (Nat.beq k 0) (c (.node (some v) .nil .nil)) (cond (Nat.beq (Nat.mod k 2) 1) (ih (Nat.div k 2) v fun u => c (.node none u .nil)) (ih (Nat.sub (Nat.div k 2) 1) v fun u => c (.node none .nil u)))) f
theorem fSing_eq : ∀ (f k : Nat) (v : α) (c : Trie α → β), fSing f k v c = c (Trie.sing f k v)
  | 0, k, v, c => rfl
  | f + 1, k, v, c => by
    show cond (Nat.beq k 0) (c (.node (some v) .nil .nil)) (cond (Nat.beq (k % 2) 1) (fSing f (k / 2) v fun u => c (.node none u .nil)) (fSing f (k / 2 - 1) v fun u => c (.node none .nil u))) =
      c (cond (Nat.beq k 0) (.node (some v) .nil .nil) (cond (Nat.beq (k % 2) 1) (.node none (Trie.sing f (k / 2) v) .nil) (.node none .nil (Trie.sing f (k / 2 - 1) v))))
    rw [fSing_eq f, fSing_eq f]
    cases Nat.beq k 0 <;> cases Nat.beq (k % 2) 1 <;> rfl

def fSetT (t : Trie α) : Nat → α → (Trie α → β) → β :=
  Trie.rec (motive := fun _ => Nat → α → (Trie α → β) → β) (fun k v c => fSing k k v c)
    (fun o l r sl sr k v c => cond (Nat.beq k 0) (c (.node (some v) l r)) (cond (Nat.beq (Nat.mod k 2) 1) (sl (Nat.div k 2) v fun u => c (.node o u r)) (sr (Nat.sub (Nat.div k 2) 1) v fun u => c (.node o l u)))) t
theorem fSetT_eq : ∀ (t : Trie α) (k : Nat) (v : α) (c : Trie α → β), fSetT t k v c = c (t.set k v)
  | .nil, k, v, c => fSing_eq k k v c
  | .node o l r, k, v, c => by
    show cond (Nat.beq k 0) (c (.node (some v) l r)) (cond (Nat.beq (k % 2) 1) (fSetT l (k / 2) v fun u => c (.node o u r)) (fSetT r (k / 2 - 1) v fun u => c (.node o l u))) =
      c (cond (Nat.beq k 0) (.node (some v) l r) (cond (Nat.beq (k % 2) 1) (.node o (l.set (k / 2) v) r) (.node o l (r.set (k / 2 - 1) v))))
    rw [fSetT_eq l, fSetT_eq r]
    cases Nat.beq k 0 <;> cases Nat.beq (k % 2) 1 <;> rfl

/-- the way down to a key, and what lies there, worked out -/
def fAt (f : α → (α → β) → β) (t : Trie α) : Nat → (Trie α → β) → β :=
  Trie.rec (motive := fun _ => Nat → (Trie α → β) → β) (fun _ c => c .nil)
    (fun o l r fl fr k c => cond (Nat.beq k 0) (Option.rec (motive := fun _ => β) (c (.node none l r)) (fun b => f b fun b => c (.node (some b) l r)) o) (cond (Nat.beq (Nat.mod k 2) 1) (fl (Nat.div k 2) fun u => c (.node o u r)) (fr (Nat.sub (Nat.div k 2) 1) fun u => c (.node o l u)))) t
theorem fAt_eq {f : α → (α → β) → β} (hf : ∀ a k, f a k = k a) : ∀ (t : Trie α) (k : Nat) (c : Trie α → β), fAt f t k c = c t
  | .nil, k, c => rfl
  | .node o l r, k, c => by
    show cond (Nat.beq k 0) (Option.rec (motive := fun _ => β) (c (.node none l r)) (fun b => f b fun b => c (.node (some b) l r)) o) (cond (Nat.beq (k % 2) 1) (fAt f l (k / 2) fun u => c (.node o u r)) (fAt f r (k / 2 - 1) fun u => c (.node o l u))) = _
    rw [fAt_eq hf l, fAt_eq hf r]
    cases o <;> cases Nat.beq k 0 <;> cases Nat.beq (k % 2) 1 <;> simp [hf]
end

def fPut (s : Trie AVal) (d : Option Tmp) (v : AVal) (k : Trie AVal → β) : β := Option.rec (motive := fun _ => β) (k s) (fun d => fSetT s d v k) d
theorem fPut_eq (n : Nat) (s : Trie AVal) (d : Option Tmp) (v : AVal) (k : Trie AVal → β) : fPut s d v k = k (Option.rec (motive := fun _ => Trie AVal) s (fun d => s.set d v) d) := by cases d <;> simp [fPut, fSetT_eq]
theorem toL_put (n : Nat) (s : Trie AVal) (d : Option Tmp) (v : AVal) : toL n (Option.rec (motive := fun _ => Trie AVal) s (fun d => s.set d v) d) = aput (toL n s) d v := by cases d <;> simp [aput, toL_set]

def fHeapTo (id : Nat) (h : AHeap) (k : AHeap → β) : β :=
  match h with
  | ⟨n, l⟩ => fAt fBlk l id fun l => k ⟨n, l⟩
theorem fHeapTo_eq (id : Nat) (h : AHeap) (k : AHeap → β) : fHeapTo id h k = k h := by cases h; simp [fHeapTo, fAt_eq fBlk_eq]

def fHeap (h : AHeap) (k : AHeap → β) : β :=
  match h with
  | ⟨n, l⟩ => fNat n fun n => k ⟨n, l⟩
theorem fHeap_eq (h : AHeap) (k : AHeap → β) : fHeap h k = k h := by cases h; simp [fHeap, fNat_eq]

/-- a part of memory worked out -/
inductive Turns where
  | no | at (id : Nat) | all

def fTurn (t : Turns) (h : AHeap) (k : AHeap → β) : β :=
  match t with
  | .no => k h
  | .at id => fHeapTo id h k
  | .all => fHeap h k
theorem fTurn_eq (t : Turns) (h : AHeap) (k : AHeap → β) : fTurn t h k = k h := by cases t <;> simp [fTurn, fHeapTo_eq, fHeap_eq]

/-- the head alone -/
def fW (v : AVal) (k : AVal → β) : β :=
  match v with
  | .undef => k .undef
  | .bool b => k (.bool b)
  | .int d n => k (.int d n)
  | .str s => k (.str s)
  | .ptr a => k (.ptr a)
  | .slice a n c => k (.slice a n c)
  | .nilFunc => k .nilFunc
  | .nilIface => k .nilIface
  | .func a b c => k (.func a b c)
  | .iface t v => k (.iface t v)
  | .agg l => k (.agg l)
  | .tuple l => k (.tuple l)
theorem fW_eq (v : AVal) (k : AVal → β) : fW v k = k v := by cases v <;> rfl

/-- is what it answers in some slot or row already, worked out? -/
def shallow (o : Op) : Bool :=
  match o with
  | .move (.tmp _) | .assign (.tmp _) | .pick _ (.tmp _) (.tmp _) | .extract _ _ | .load _ _ => true
  | .call c => match c.callee with | .value _ => true | _ => false
  | _ => false

def fRes (o : Op) (v : AVal) (k : AVal → β) : β := cond (shallow o) (fW v k) (fV v k)
theorem fRes_eq (o : Op) (v : AVal) (k : AVal → β) : fRes o v k = k v := by unfold fRes; cases shallow o <;> simp [fW_eq, fV_eq]
end

/-- which row an operation turns -/
def turnsOf (nid : Nat) (ρ : Operand → AVal) (o : Op) (v : AVal) : Turns :=
  match o with
  | .alloc _ | .box _ _ | .buildSlice _ _ _ | .makeSlice _ _ _ => .at nid
  | .store _ a _ => match ρ a with | .ptr (some a) => .at a.id | _ => .no
  | .call c =>
    match c.callee with
    | .value _ => .all
    | .builtin .append => match v with | .slice (some a) _ _ => .at a.id | _ => .no
    | _ => .no
  | .convert _ _ _ => match v with | .slice (some a) _ _ => .at a.id | _ => .no
  | _ => .no

section
variable {E : AEnv}

def wantedT (ops : Array Oper) (n : Nat) (s : Trie AVal) (o : Oper) : Option Bool :=
  match o.guard with
  | none => some true
  | some (j, want) =>
    match (ops[j]?).bind (·.dst) with
    | some d =>
      match tget n s d with
      | some (.bool b) => some (b == want)
      | some (.tuple []) => some false
      | _ => none
    | none => none
theorem wantedT_eq (ops : Array Oper) (n : Nat) (s : Trie AVal) (o : Oper) : wantedT ops n s o = awanted ops (toL n s) o := by
  unfold wantedT awanted
  simp only [tget_eq]
  rfl

structure FSt where
  slots : Trie AVal
  heap : AHeap

def FSt.to (n : Nat) (s : FSt) : ASt := ⟨toL n s.slots, s.heap⟩

/-- the operations of a region, one behind the other; 'draw': with the looks that a region asks that draws -/
def frun (E : AEnv) (call : ACall) (ops : Array Oper) (draw : Bool) (n n0 : Nat) (l : List Oper) : Nat → Trie AVal → AHeap → Option FSt :=
  List.rec (motive := fun _ => Nat → Trie AVal → AHeap → Option FSt) (fun _ s h => some ⟨s, h⟩)
    (fun o _ ih i s h =>
      match wantedT ops n s o with
      | some true =>
        match (cond draw (dop E call ops n0 i (agetT n s) h o.op) (aopX E call (Nat.add n0 i) (agetT n s) h o.op)) with
        | some (v, h') => fRes o.op v fun v => fTurn (turnsOf (Nat.add n0 i) (agetT n s) o.op v) h' fun h' => fPut s o.dst v fun s' => ih (Nat.succ i) s' h'
        | none => none
      | some false => fPut s o.dst skipped fun s' => ih (Nat.succ i) s' h
      | none => none) l

theorem frun_cons (call : ACall) (ops : Array Oper) (draw : Bool) (n n0 i : Nat) (s : Trie AVal) (h : AHeap) (o : Oper) (r : List Oper) : frun E call ops draw n n0 (o :: r) i s h =
      match wantedT ops n s o with
      | some true =>
        match (cond draw (dop E call ops n0 i (agetT n s) h o.op) (aopX E call (n0 + i) (agetT n s) h o.op)) with
        | some (v, h') => frun E call ops draw n n0 r (i + 1) (Option.rec (motive := fun _ => Trie AVal) s (fun d => s.set d v) o.dst) h'
        | none => none
      | some false => frun E call ops draw n n0 r (i + 1) (Option.rec (motive := fun _ => Trie AVal) s (fun d => s.set d skipped) o.dst) h
      | none => none := by
  show (match wantedT ops n s o with
      | some true =>
        match (cond draw (dop E call ops n0 i (agetT n s) h o.op) (aopX E call (n0 + i) (agetT n s) h o.op)) with
        | some (v, h') => fRes o.op v fun v => fTurn (turnsOf (n0 + i) (agetT n s) o.op v) h' fun h' => fPut s o.dst v fun s' => frun E call ops draw n n0 r (i + 1) s' h'
        | none => none
      | some false => fPut s o.dst skipped fun s' => frun E call ops draw n n0 r (i + 1) s' h
      | none => none) = _
  simp only [fRes_eq, fTurn_eq, fPut_eq n]

theorem frun_arun {call : ACall} {ops : Array Oper} {n n0 : Nat} : ∀ (l : List Oper) (i : Nat) (s : Trie AVal) (h : AHeap), (∀ j, l[j]? = ops[i + j]?) →
    (frun E call ops false n n0 l i s h).map (FSt.to n) = arun E call ops n0 (List.range' i l.length) ⟨toL n s, h⟩
  | [], i, s, h, _ => rfl
  | o :: r, i, s, h, hl => by
    have ho : ops[i]? = some o := by have := hl 0; simpa using this.symm
    have hr : ∀ j, r[j]? = ops[i + 1 + j]? := fun j => by have := hl (j + 1); simp at this; rw [this]; congr 1; omega
    rw [frun_cons]
    simp only [List.length_cons, List.range'_succ, arun, astep, ho, wantedT_eq, agetT_eq, cond_false]
    cases hw : awanted ops (toL n s) o with
    | none => rfl
    | some b =>
      cases b with
      | true =>
        simp only
        cases ha : aopX E call (n0 + i) (agetOp (toL n s)) h o.op with
        | none => rfl
        | some p =>
          obtain ⟨v, h'⟩ := p
          simp only
          rw [frun_arun r (i + 1) _ _ hr, toL_put]
      | false =>
        simp only
        rw [frun_arun r (i + 1) _ _ hr, toL_put]

theorem frun_drun {call : ACall} {ops : Array Oper} {n n0 : Nat} : ∀ (l : List Oper) (i : Nat) (s : Trie AVal) (h : AHeap), (∀ j, l[j]? = ops[i + j]?) →
    (frun E call ops true n n0 l i s h).map (FSt.to n) = drun E call ops n0 (List.range' i l.length) ⟨toL n s, h⟩
  | [], i, s, h, _ => rfl
  | o :: r, i, s, h, hl => by
    have ho : ops[i]? = some o := by have := hl 0; simpa using this.symm
    have hr : ∀ j, r[j]? = ops[i + 1 + j]? := fun j => by have := hl (j + 1); simp at this; rw [this]; congr 1; omega
    rw [frun_cons]
    simp only [List.length_cons, List.range'_succ, drun, dstep, ho, wantedT_eq, agetT_eq, cond_true]
    cases hw : awanted ops (toL n s) o with
    | none => rfl
    | some b =>
      cases b with
      | true =>
        simp only
        cases ha : dop E call ops n0 i (agetOp (toL n s)) h o.op with
        | none => rfl
        | some p =>
          obtain ⟨v, h'⟩ := p
          simp only
          rw [frun_drun r (i + 1) _ _ hr, toL_put]
      | false =>
        simp only
        rw [frun_drun r (i + 1) _ _ hr, toL_put]

def fregion (E : AEnv) (call : ACall) (ops : Array Oper) (draw : Bool) (n : Nat) (s : FSt) : Option FSt :=
  match s with
  | ⟨s, ⟨n0, l⟩⟩ => cond (!draw || drawOk ops) (fNat (Nat.add n0 ops.size) fun m => frun E call ops draw n n0 ops.toList 0 s ⟨m, l⟩) none

theorem fregion_eq (call : ACall) (ops : Array Oper) (draw : Bool) (n : Nat) (s : FSt) : (fregion E call ops draw n s).map (FSt.to n) = aregion E call ops draw (s.to n) := by
  obtain ⟨s, n0, l⟩ := s
  have hl : ∀ j : Nat, ops.toList[j]? = ops[0 + j]? := fun j => by simp
  have hr : List.range ops.size = List.range' 0 ops.toList.length := by rw [List.range_eq_range', Array.length_toList]
  unfold fregion aregion
  cases draw with
  | false => simp only [Bool.not_false, Bool.true_or, cond_true, fNat_eq, Bool.false_eq_true, if_false, frun_arun _ _ _ _ hl, hr, FSt.to, Nat.add_eq]
  | true =>
    cases hd : drawOk ops with
    | false => simp
    | true => simp only [Bool.not_true, Bool.false_or, hd, cond_true, if_true, fNat_eq, frun_drun _ _ _ _ hl, hr, FSt.to, Nat.add_eq]

def fexec (E : AEnv) (call : ACall) (n : Nat) (fuel : Nat) : Option Code → Code → FSt → Option (AExit × FSt) :=
  Nat.rec (motive := fun _ => Option Code → Code → FSt → Option (AExit × FSt)) (fun _ _ _ => none)
  (fun m ih b c s =>
  match b with
  | some body =>
    match ih none c s with
    | some (.goto l, s') =>
      match findLabel body l with
      | some rest => ih (some body) rest s'
      | none => some (.goto l, s')
    | r => r
  | none =>
    match c with
    | .skip => some (.normal, s)
    | .label _ => some (.normal, s)
    | .region _ ops draw =>
      match fregion E call ops draw n s with
      | some s' => some (.normal, s')
      | none => none
    | .seq a b =>
      match ih none a s with
      | some (.normal, s') => ih none b s'
      | r => r
    | .cond x a b =>
      match agetT n s.slots x with
      | .bool true => ih none a s
      | .bool false => ih none b s
      | _ => none
    | .block id c =>
      match ih none c s with
      | some (.exit j, s') => some (if j = id then .normal else .exit j, s')
      | r => r
    | .loop c =>
      match ih none c s with
      | some (.normal, s') => ih none (.loop c) s'
      | r => r
    | .scope c => ih (some c) c s
    | .goto l => some (.goto l, s)
    | .exit id => some (.exit id, s)
    | .ret => some (.ret, s)
    | _ => none) fuel

def toP (n : Nat) (p : AExit × FSt) : AExit × ASt := (p.1, p.2.to n)

theorem fexec_eq (call : ACall) (k : Nat) : ∀ (n : Nat) (b : Option Code) (c : Code) (s : FSt), (fexec E call k n b c s).map (toP k) = aexec E call n b c (s.to k) := by
  intro n
  induction n with
  | zero => intro b c s; rfl
  | succ n ih =>
    intro b c s
    cases b with
    | some body =>
      show Option.map (toP k) (match fexec E call k n none c s with
        | some (.goto l, s') =>
          match findLabel body l with
          | some rest => fexec E call k n (some body) rest s'
          | none => some (.goto l, s')
        | r => r) = _
      simp only [aexec, ← ih]
      cases hx : fexec E call k n none c s with
      | none => rfl
      | some p =>
        obtain ⟨e, s'⟩ := p
        cases e with
        | goto l =>
          simp only [Option.map_some, toP]
          cases hf : findLabel body l with
          | none => rfl
          | some rest => simp only [hf]; exact ih (some body) rest s'
        | _ => rfl
    | none =>
      cases c
      case region id ops draw =>
        show Option.map (toP k) (match fregion E call ops draw k s with
          | some s' => some (.normal, s')
          | none => none) = _
        simp only [aexec, ← fregion_eq]
        cases fregion E call ops draw k s <;> rfl
      case seq a b =>
        show Option.map (toP k) (match fexec E call k n none a s with
          | some (.normal, s') => fexec E call k n none b s'
          | r => r) = _
        simp only [aexec, ← ih]
        cases hx : fexec E call k n none a s with
        | none => rfl
        | some p => obtain ⟨e, s'⟩ := p; cases e <;> first | exact ih none b s' | rfl
      case cond x a b =>
        show Option.map (toP k) (match agetT k s.slots x with
          | .bool true => fexec E call k n none a s
          | .bool false => fexec E call k n none b s
          | _ => none) = _
        simp only [aexec, ← ih, agetT_eq]
        have he : agetOp (s.to k).slots x = agetOp (toL k s.slots) x := rfl
        rw [he]
        cases agetOp (toL k s.slots) x with
        | bool t => cases t <;> rfl
        | _ => rfl
      case block id c =>
        show Option.map (toP k) (match fexec E call k n none c s with
          | some (.exit j, s') => some (if j = id then .normal else .exit j, s')
          | r => r) = _
        simp only [aexec, ← ih]
        cases hx : fexec E call k n none c s with
        | none => rfl
        | some p => obtain ⟨e, s'⟩ := p; cases e <;> rfl
      case loop c =>
        show Option.map (toP k) (match fexec E call k n none c s with
          | some (.normal, s') => fexec E call k n none (.loop c) s'
          | r => r) = _
        simp only [aexec, ← ih]
        cases hx : fexec E call k n none c s with
        | none => rfl
        | some p => obtain ⟨e, s'⟩ := p; cases e <;> first | exact ih none (.loop c) s' | rfl
      case scope c => exact ih (some c) c s
      all_goals rfl

def fArgs : List AVal → Nat → Trie AVal → (Trie AVal → Option (AVal × AHeap)) → Option (AVal × AHeap)
  | [], _, t, k => k t
  | v :: r, i, t, k => fV v fun v => fSetT t i v fun t => fArgs r (Nat.succ i) t k

theorem fArgs_eq : ∀ (l : List AVal) (i : Nat) (t : Trie AVal) (k : Trie AVal → Option (AVal × AHeap)),
    ∃ t', fArgs l i t k = k t' ∧ ∀ j, t'.get j = if j < i then t.get j else if h : j - i < l.length then some l[j - i] else t.get j
  | [], i, t, k => ⟨t, rfl, fun j => by simp⟩
  | v :: r, i, t, k => by
    obtain ⟨t', h1, h2⟩ := fArgs_eq r (i + 1) (t.set i v) k
    refine ⟨t', by simp only [fArgs, fV_eq, fSetT_eq]; exact h1, fun j => ?_⟩
    rw [h2 j, Trie.get_set]
    by_cases hj : j < i
    · rw [if_pos (by omega), if_neg (by omega), if_pos hj]
    · rw [if_neg hj]
      by_cases he : i = j
      · subst he; rw [if_pos (by omega), if_pos rfl]; simp
      · rw [if_neg (by omega), if_neg he]
        by_cases hl : j - (i + 1) < r.length
        · rw [dif_pos hl, dif_pos (by simp; omega)]
          obtain ⟨m, hm⟩ : ∃ m, j - i = m + 1 := ⟨j - i - 1, by omega⟩
          have hm' : j - (i + 1) = m := by omega
          simp only [hm, hm', List.getElem_cons_succ]
        · rw [dif_neg hl, dif_neg (by simp; omega)]

theorem fArgs_toL {l : List AVal} {m : Nat} {t : Trie AVal} (h : ∀ j, t.get j = if j < 0 then (Trie.nil : Trie AVal).get j else if h : j - 0 < l.length then some l[j - 0] else (Trie.nil : Trie AVal).get j) :
    toL (l.length + (m - l.length)) t = l ++ List.replicate (m - l.length) skipped := by
  apply List.ext_getElem?
  intro i
  rw [toL_get, h i, if_neg (Nat.not_lt_zero i)]
  simp only [Nat.sub_zero, Trie.get_nil]
  by_cases hi : i < l.length
  · rw [if_pos (by omega), dif_pos hi, List.getElem?_append_left hi, List.getElem?_eq_getElem hi]; rfl
  · rw [dif_neg hi, List.getElem?_append_right (by omega), List.getElem?_replicate]
    by_cases hn : i < l.length + (m - l.length)
    · rw [if_pos hn, if_pos (by omega)]; rfl
    · rw [if_neg hn, if_neg (by omega)]

def fresults (D : Tys) (n : Nat) (rs : List ResultVar) (s : FSt) : Option (List AVal) :=
  match rs with
  | [] => some []
  | .tmp t :: r => (fresults D n r s).map fun l => agetT n s.slots (.tmp t) :: l
  | .cell a t :: r =>
    match agetT n s.slots (.tmp a) with
    | .ptr (some p) =>
      match aload D t p s.heap, fresults D n r s with
      | some v, some l => some (v :: l)
      | _, _ => none
    | _ => none
theorem fresults_eq (D : Tys) (n : Nat) (s : FSt) : ∀ (rs : List ResultVar), fresults D n rs s = aresults D rs (s.to n)
  | [] => rfl
  | .tmp t :: r => by simp only [fresults, aresults, fresults_eq D n s r, agetT_eq]; rfl
  | .cell a t :: r => by simp only [fresults, aresults, fresults_eq D n s r, agetT_eq]; rfl

def fOut (r : Option (AVal × AHeap)) : Option (AVal × AHeap) :=
  match r with
  | some (v, ⟨n, l⟩) => fNat n fun n => fV v fun v => some (v, ⟨n, l⟩)
  | none => none
theorem fOut_eq (r : Option (AVal × AHeap)) : fOut r = r := by
  cases r with
  | none => rfl
  | some p => obtain ⟨v, n, l⟩ := p; simp [fOut, fNat_eq, fV_eq]

def fcall (P : Program) (E : AEnv) (fuel : Nat) : ACall :=
  Nat.rec (motive := fun _ => ACall) (fun _ _ _ => none)
  (fun n ih f args h =>
    match E.prim f with
    | some g => g args h
    | none =>
    match P.funcs[f]? with
    | some fn =>
      match fn.body with
      | some c =>
        fNat (args.length + (fn.ntmps - args.length)) fun k => fArgs args 0 .nil fun sl =>
        match fexec E ih k n none c ⟨sl, h⟩ with
        | some (.exit _, _) => none
        | some (.goto _, _) => none
        | some (_, s) =>
          match fresults E.D k fn.results.toList s with
          | some l => fOut (some (aresult l, s.heap))
          | none => none
        | none => none
      | none => none
    | none => none) fuel

theorem fcall_eq (P : Program) (E : AEnv) : ∀ (n : Nat), fcall P E n = acall P E n := by
  intro n
  induction n with
  | zero => rfl
  | succ n ih =>
    funext f args h
    show (match E.prim f with
    | some g => g args h
    | none =>
    match P.funcs[f]? with
    | some fn =>
      match fn.body with
      | some c =>
        fNat (args.length + (fn.ntmps - args.length)) fun k => fArgs args 0 .nil fun sl =>
        match fexec E (fcall P E n) k n none c ⟨sl, h⟩ with
        | some (.exit _, _) => none
        | some (.goto _, _) => none
        | some (_, s) =>
          match fresults E.D k fn.results.toList s with
          | some l => fOut (some (aresult l, s.heap))
          | none => none
        | none => none
      | none => none
    | none => none) = _
    simp only [acall, ih, fNat_eq, fOut_eq]
    cases E.prim f with
    | some g => rfl
    | none =>
    simp only
    cases hf : P.funcs[f]? with
    | none => rfl
    | some fn =>
      simp only
      cases fn.body with
      | none => rfl
      | some c =>
        simp only
        obtain ⟨t, h1, h2⟩ := fArgs_eq args 0 .nil fun sl =>
          match fexec E (acall P E n) (args.length + (fn.ntmps - args.length)) n none c ⟨sl, h⟩ with
          | some (.exit _, _) => none
          | some (.goto _, _) => none
          | some (_, s) =>
            match fresults E.D (args.length + (fn.ntmps - args.length)) fn.results.toList s with
            | some l => some (aresult l, s.heap)
            | none => none
          | none => none
        rw [h1]
        have hs : (FSt.mk t h).to (args.length + (fn.ntmps - args.length)) = ⟨args ++ List.replicate (fn.ntmps - args.length) skipped, h⟩ := by
          simp only [FSt.to, fArgs_toL h2]
        have hx := fexec_eq (E := E) (acall P E n) (args.length + (fn.ntmps - args.length)) n none c ⟨t, h⟩
        rw [hs] at hx
        rw [← hx]
        cases hy : fexec E (acall P E n) (args.length + (fn.ntmps - args.length)) n none c ⟨t, h⟩ with
        | none => rfl
        | some p =>
          obtain ⟨e, s⟩ := p
          simp only [Option.map_some, toP]
          cases e with
          | exit id => rfl
          | goto l => rfl
          | normal => simp only [fresults_eq]; cases aresults E.D fn.results.toList (s.to (args.length + (fn.ntmps - args.length))) <;> rfl
          | ret => simp only [fresults_eq]; cases aresults E.D fn.results.toList (s.to (args.length + (fn.ntmps - args.length))) <;> rfl

theorem fcall_true {P : Program} {E : AEnv} {n : Nat} {f : FuncId} {args : List AVal} {h : AHeap} (k : saysTrue (fcall P E n f args h) = true) : ∃ h', acall P E n f args h = some (.bool true, h') := by
  rw [fcall_eq] at k; exact saysTrue_spec k
end
end
end Go.Lift

namespace Go.Proofs.YtddnafghiejcoaaGreatDoor
open Go.Lift
set_option maxRecDepth 1000000
theorem keysNil_run : saysTrue (fcall Tryz.prog env 400 7 [.undef] ⟨0, .nil⟩) = true := by decide +kernel
end Go.Proofs.YtddnafghiejcoaaGreatDoor

namespace Go.Proofs.YtddnafghiejcoaaGreatDoor
open Go.ChangeShapes Go.WideShapes Go.RowKit
set_option maxRecDepth 1000000

theorem gPow : Tryz.prog.globalNamed "internal/strconv.uint64pow10" = some 5 := by kernel_rfl
theorem gPowT : (Tryz.prog.globals[5]?).map (·.type) = some 179 := by kernel_rfl
theorem powCells : Tryz.prog.cellsOf 179 = 20 := by kernel_rfl
theorem u64Cells : Tryz.prog.cellsOf 151 = 1 := by kernel_rfl

theorem pow_of_laid {W : World} (h : laidMetH Tryz.prog Rows.keysNamesRow.laid W) : Lib.TabIs Tryz.prog W "internal/strconv.uint64pow10" .u64 Lib.pow10Tab := by
  rw [MakeChecks.laidMetH_plain _ _ _ (by kernel_rfl)] at h
  exact Lib.tabIs_of_head gPow gPowT Tryz.underlying179 Tryz.underlying151 u64Cells powCells (laidMet.tail (laidMet.tail h))

/-- the door's own heap, the pinned table laid besides -/
noncomputable def laidWorld (os : Os) : World :=
  { World.doorLaid Tryz.prog 96 os with heap := (World.doorLaid Tryz.prog 96 os).heap.modify 8 fun
      | .cells _ t frozen => .cells (Go.Pinned.utf8FirstZ.map fun (z : Nat) => Value.int .u8 (z : Int)).toArray t frozen
      | o => o }
theorem laidMet_of_bits {P : Program} {w : World} {l : List (String × DataW Unit)} (fuel M : Nat) (h : (DataW.laidRun P w fuel (l.map (·.1))).bind (fun x => if nodupBits M x.2 0 && laidRowsB P w x.2 then some x.1 else none) = some l) : laidMet P l w := by
  simp only [Option.bind_eq_some_iff] at h
  obtain ⟨x, hx, d⟩ := h
  split at d
  · rename_i hb
    simp only [Bool.and_eq_true] at hb
    simp only [Option.some.injEq] at d
    exact laidMet_of_run (ps := x.2) fuel (by rw [hx, ← d]) (decide_eq_true (nodupBits_sound hb.1).1) hb.2
  · cases d
theorem laid_met (os : Os) (args : Array Value) : laidMetH Tryz.prog Rows.keysNamesRow.laid ((laidWorld os).forCall (fun _ _ => 0) ⟨#[], args, []⟩).memory := by
  rw [MakeChecks.laidMetH_plain _ _ _ (by kernel_rfl)]
  exact laidMet_of_bits 8 257 (by kernel_rfl)
theorem laid_shaped (os : Os) (args : Array Value) : ((laidWorld os).forCall (fun _ _ => 0) ⟨#[], args, []⟩).Shaped Tryz.prog := World.shaped_of_RefB (by kernel_rfl) (by kernel_rfl)
end Go.Proofs.YtddnafghiejcoaaGreatDoor
