/-
  THE LIFT, PART L: regions that draw their order: whatever order is drawn, the answer is that of the order of the text.
-/
import Derived.Test.YtgfkllnaeekjeaaLiftK
namespace Go.Lift
noncomputable section
open Go.RowKit
set_option linter.unusedVariables false
set_option linter.unusedSimpArgs false

/-! ## values held against each other -/

mutual
theorem AVal.same_eq : ∀ {a b : AVal}, AVal.same a b = true → a = b := by
  intro a b h
  cases a <;> cases b <;> simp only [AVal.same, Bool.false_eq_true, Bool.and_eq_true, beq_iff_eq, decide_eq_true_eq] at h <;>
    first
      | rfl
      | (subst h; rfl)
      | (obtain ⟨rfl, rfl⟩ := h; rfl)
      | (obtain ⟨⟨rfl, rfl⟩, rfl⟩ := h; rfl)
      | (obtain ⟨⟨rfl, h1⟩, h2⟩ := h; rw [AVal.sames_eq h1, AVal.sames_eq h2])
      | (obtain ⟨rfl, h1⟩ := h; rw [AVal.same_eq h1])
      | (rw [AVal.sames_eq h])
theorem AVal.sames_eq : ∀ {a b : List AVal}, AVal.sames a b = true → a = b := by
  intro a b h
  cases a <;> cases b <;> simp only [AVal.sames, Bool.false_eq_true, Bool.and_eq_true] at h
  · rfl
  · obtain ⟨h1, h2⟩ := h
    rw [AVal.same_eq h1, AVal.sames_eq h2]
end

theorem ABlk.same_eq {a b : ABlk} (h : ABlk.same a b = true) : a = b := by
  cases a; cases b
  simp only [ABlk.same, Bool.and_eq_true, beq_iff_eq] at h
  obtain ⟨⟨⟨⟨⟨⟨h1, h2⟩, h3⟩, h4⟩, h5⟩, h6⟩, h7⟩ := h
  rw [AVal.sames_eq h1, h2, h3, h4, h5, h6, h7]

mutual
theorem AVal.same_refl : ∀ (a : AVal), AVal.same a a = true
  | .undef => rfl
  | .bool _ => by simp [AVal.same]
  | .int _ _ => by simp [AVal.same]
  | .str _ => by simp [AVal.same]
  | .ptr _ => by simp [AVal.same]
  | .slice _ _ _ => by simp [AVal.same]
  | .func _ f c => by simp [AVal.same, AVal.sames_refl f, AVal.sames_refl c]
  | .nilFunc => rfl
  | .iface _ v => by simp [AVal.same, AVal.same_refl v]
  | .nilIface => rfl
  | .agg l => by simp [AVal.same, AVal.sames_refl l]
  | .tuple l => by simp [AVal.same, AVal.sames_refl l]
theorem AVal.sames_refl : ∀ (l : List AVal), AVal.sames l l = true
  | [] => rfl
  | a :: r => by simp [AVal.sames, AVal.same_refl a, AVal.sames_refl r]
end

theorem ABlk.same_refl (a : ABlk) : ABlk.same a a = true := by simp [ABlk.same, AVal.sames_refl]
theorem sameOld_get {lim : Nat} {h h' : AHeap} (k : sameOld lim h h' = true) {i : Nat} (hi : i < lim) : h'.get i = h.get i :=
  Trie.sameBelow_spec (fun _ _ => ABlk.same_eq) lim h'.blks h.blks 0 1 k i (by omega)

theorem sameOld_of {lim : Nat} {h h' : AHeap} (k : ∀ i, i < lim → h'.get i = h.get i) : sameOld lim h h' = true :=
  Trie.sameBelow_of ABlk.same_refl lim h'.blks h.blks 0 1 fun i hi => k i (by omega)

/-! ## what an operation has to do with memory -/

section
variable {E : AEnv} {call : ACall}

theorem pure_spec {nid : Nat} {ρ : Operand → AVal} {h h1 : AHeap} {o : Op} {v : AVal} (hc : cls o = .pure) (ho : aop E call nid ρ h o = some (v, h1)) :
    h1 = h ∧ ∀ (nid' : Nat) (h' : AHeap), aop E call nid' ρ h' o = some (v, h') := by
  cases o <;> simp only [cls, reduceCtorEq] at hc <;> simp only [aop] at ho ⊢ <;>
    first
      | (simp only [Option.map_eq_some_iff, Prod.mk.injEq, Option.some.injEq] at ho
         obtain ⟨v1, hv, rfl, rfl⟩ := ho
         exact ⟨rfl, fun _ _ => by rw [hv]; rfl⟩)
      | (simp only [Prod.mk.injEq, Option.some.injEq] at ho
         obtain ⟨rfl, rfl⟩ := ho
         exact ⟨rfl, fun _ _ => rfl⟩)
      | skip
  · split at ho
    · rename_i t ht
      simp only [Prod.mk.injEq, Option.some.injEq] at ho
      obtain ⟨rfl, rfl⟩ := ho
      exact ⟨rfl, fun _ _ => by simp only [ht]⟩
    · cases ho
  · split at ho
    · rename_i a ha
      simp only [Prod.mk.injEq, Option.some.injEq] at ho
      obtain ⟨rfl, rfl⟩ := ho
      exact ⟨rfl, fun _ _ => by simp only [ha]⟩
    · rename_i g fs cs ha
      simp only [Prod.mk.injEq, Option.some.injEq] at ho
      obtain ⟨rfl, rfl⟩ := ho
      exact ⟨rfl, fun _ _ => by simp only [ha]⟩
    · cases ho
  · rename_i fn fs cs
    cases fn <;> simp only [aop] at ho ⊢ <;> first | (cases ho; done) | skip
    simp only [Prod.mk.injEq, Option.some.injEq] at ho
    obtain ⟨rfl, rfl⟩ := ho
    exact ⟨rfl, fun _ _ => rfl⟩
  · split at ho
    · rename_i vs hv
      simp only [Option.map_eq_some_iff, Prod.mk.injEq] at ho
      obtain ⟨v1, h1, rfl, rfl⟩ := ho
      exact ⟨rfl, fun _ _ => by simp only [hv, h1, Option.map_some]⟩
    · cases ho
  · rename_i c
    cases hcal : c.callee with
    | value f => rw [hcal] at hc; simp at hc
    | invoke r m => rw [hcal] at hc; simp at hc
    | builtin b =>
      rw [hcal] at hc ho
      simp only [hcal]
      cases b <;> first | (simp at hc; done) | skip
      all_goals
        simp only [abuiltin] at ho ⊢
        split at ho
        · simp only [Option.map_eq_some_iff, Prod.mk.injEq] at ho
          obtain ⟨v1, h1, rfl, rfl⟩ := ho
          exact ⟨rfl, fun _ _ => by simp only [h1, Option.map_some]⟩
        · cases ho

theorem load_spec {nid : Nat} {ρ : Operand → AVal} {h h1 : AHeap} {o : Op} {v : AVal} (hc : cls o = .load) (ho : aop E call nid ρ h o = some (v, h1)) :
    h1 = h ∧ ∃ b, loadId ρ o = some b ∧ ∀ (nid' : Nat) (h' : AHeap), h'.get b = h.get b → aop E call nid' ρ h' o = some (v, h') := by
  cases o <;> simp only [cls, reduceCtorEq] at hc
  · rename_i t x
    simp only [aop] at ho ⊢
    split at ho
    · rename_i a ha
      simp only [Option.map_eq_some_iff, Prod.mk.injEq] at ho
      obtain ⟨v1, hv, rfl, rfl⟩ := ho
      refine ⟨rfl, a.id, by simp [loadId, ha], fun nid' h' hg => ?_⟩
      simp only [ha, aload, hg] at hv ⊢
      rw [hv]; rfl
    · cases ho
  · rename_i c
    cases hcal : c.callee with
    | value f => rw [hcal] at hc; simp at hc
    | invoke r m => rw [hcal] at hc; simp at hc
    | builtin b => rw [hcal] at hc; cases b <;> simp at hc

theorem alloc_spec {nid : Nat} {ρ : Operand → AVal} {h h1 : AHeap} {o : Op} {v : AVal} (hc : cls o = .alloc) (ho : aop E call nid ρ h o = some (v, h1)) :
    ∃ b, h1 = h.set nid b ∧ ∀ (h' : AHeap), aop E call nid ρ h' o = some (v, h'.set nid b) := by
  cases o <;> simp only [cls, reduceCtorEq] at hc
  · rename_i t
    simp only [aop] at ho ⊢
    split at ho
    · rename_i d hd
      split at ho
      · rename_i z hz
        split at ho
        · rename_i hcc
          simp only [Prod.mk.injEq, Option.some.injEq] at ho
          obtain ⟨rfl, rfl⟩ := ho
          exact ⟨_, rfl, fun h' => by simp only [hcc, if_true]⟩
        · cases ho
      · cases ho
    · cases ho
  · rename_i t x
    simp only [aop] at ho ⊢
    split at ho
    · rename_i d hd
      split at ho
      · rename_i hcc
        simp only [Prod.mk.injEq, Option.some.injEq] at ho
        obtain ⟨rfl, rfl⟩ := ho
        exact ⟨_, rfl, fun h' => by simp only [hcc, if_true]⟩
      · cases ho
    · cases ho
  · rename_i t n parts
    simp only [aop, abuildSlice] at ho ⊢
    split at ho
    · rename_i d hd
      split at ho
      · rename_i e he
        split at ho
        · rename_i x hx
          split at ho
          · rename_i z hz
            split at ho
            · rename_i hcc
              split at ho
              · rename_i l hl
                simp only [Prod.mk.injEq, Option.some.injEq] at ho
                obtain ⟨rfl, rfl⟩ := ho
                refine ⟨_, rfl, fun h' => ?_⟩
                simp only [he, hx, hz, hcc, hl, and_self, if_true]
              · cases ho
            · cases ho
          · cases ho
        · cases ho
      · cases ho
    · cases ho
  · rename_i t l c
    simp only [aop, amakeSlice] at ho ⊢
    split at ho
    · rename_i d k1 n k2 m hd hl hm
      split at ho
      · rename_i e he
        split at ho
        · rename_i x hx
          split at ho
          · rename_i z hz
            split at ho
            · rename_i hcc
              simp only [Prod.mk.injEq, Option.some.injEq] at ho
              obtain ⟨rfl, rfl⟩ := ho
              refine ⟨_, rfl, fun h' => ?_⟩
              simp only [he, hx, hz, hcc, and_self, if_true]
            · cases ho
          · cases ho
        · cases ho
      · cases ho
    · cases ho
  · rename_i c
    cases hcal : c.callee with
    | value f => rw [hcal] at hc; simp at hc
    | invoke r m => rw [hcal] at hc; simp at hc
    | builtin b => rw [hcal] at hc; cases b <;> simp at hc

/-! ## the operands alone decide -/

theorem map_congr_ops {ρ ρ' : Operand → AVal} {xs : Array Operand} (h : ∀ x ∈ xs.toList, ρ x = ρ' x) : xs.toList.map ρ = xs.toList.map ρ' := List.map_congr_left h

theorem opt_congr {ρ ρ' : Operand → AVal} {o : Option Operand} (h : ∀ x ∈ o.toList, ρ x = ρ' x) : o.map ρ = o.map ρ' := by
  cases o with
  | none => rfl
  | some x => simp [h x (by simp)]

theorem aop_congr {nid : Nat} {ρ ρ' : Operand → AVal} {h : AHeap} {o : Op} (hρ : ∀ x ∈ o.operands.toList, ρ x = ρ' x) : aop E call nid ρ h o = aop E call nid ρ' h o := by
  cases o
  case call c =>
    simp only [Op.operands, Call.operands, Array.toList_append, List.mem_append] at hρ
    simp only [aop]
    have ha := map_congr_ops (xs := c.args) (fun x hx => hρ x (.inr hx))
    cases hcal : c.callee with
    | value f =>
      rw [hcal] at hρ
      simp only [ha, hρ f (.inl (by simp))]
    | invoke r m => rfl
    | builtin b => simp only [ha]
  case makeFunc fn fs cs =>
    simp only [Op.operands, Array.toList_append, List.mem_append] at hρ
    cases fn <;> simp only [aop]
    rw [map_congr_ops (xs := fs) (fun x hx => hρ x (.inl hx)), map_congr_ops (xs := cs) (fun x hx => hρ x (.inr hx))]
  case slice t x lo hi mx =>
    simp only [Op.operands, Array.toList_append, List.mem_append] at hρ
    simp only [aop]
    rw [hρ x (by simp), opt_congr (o := lo) (fun y hy => hρ y (by simp_all)), opt_congr (o := hi) (fun y hy => hρ y (by simp_all)), opt_congr (o := mx) (fun y hy => hρ y (by simp_all))]
  case build t parts =>
    have hp : (parts.toList.map fun p => (p.1, ρ p.2)) = parts.toList.map fun p => (p.1, ρ' p.2) := by
      refine List.map_congr_left fun p hp => ?_
      rw [hρ p.2 (by simp only [Op.operands]; exact List.mem_map.2 ⟨p, hp, rfl⟩)]
    simp only [aop, hp]
  case buildSlice t n parts =>
    have hp : (parts.toList.map fun p => (p.1, ρ p.2)) = parts.toList.map fun p => (p.1, ρ' p.2) := by
      refine List.map_congr_left fun p hp => ?_
      rw [hρ p.2 (by simp only [Op.operands]; exact List.mem_map.2 ⟨p, hp, rfl⟩)]
    simp only [aop, hp]
  all_goals first
    | rfl
    | (simp only [aop, Op.operands] at hρ ⊢; simp_all)


/-! ## what stands ahead -/

def maskOf (acc : Array Nat) (o : Oper) : Nat := o.after.toList.foldl (fun s e => if binding e then s ||| 2 ^ e.on ||| acc.getD e.on 0 else s) 0

theorem fold_keep : ∀ (l : List Oper) (acc : Array Nat) (k : Nat), k < acc.size → (l.foldl (fun acc o => acc.push (maskOf acc o)) acc).getD k 0 = acc.getD k 0
  | [], acc, k, h => rfl
  | o :: r, acc, k, h => by
    simp only [List.foldl_cons]
    rw [fold_keep r _ k (by simp; omega)]
    simp [Array.getD_eq_getD_getElem?, Array.getElem?_push, Nat.ne_of_lt h]

theorem maskOf_congr {a b : Array Nat} {o : Oper} (h : ∀ e ∈ o.after.toList, binding e = true → a.getD e.on 0 = b.getD e.on 0) : maskOf a o = maskOf b o := by
  unfold maskOf
  have key : ∀ (l : List Edge) (s : Nat), (∀ e ∈ l, binding e = true → a.getD e.on 0 = b.getD e.on 0) →
      l.foldl (fun s e => if binding e then s ||| 2 ^ e.on ||| a.getD e.on 0 else s) s = l.foldl (fun s e => if binding e then s ||| 2 ^ e.on ||| b.getD e.on 0 else s) s := by
    intro l
    induction l with
    | nil => intro s _; rfl
    | cons e r ih =>
      intro s hl
      simp only [List.foldl_cons]
      have : (if binding e then s ||| 2 ^ e.on ||| a.getD e.on 0 else s) = (if binding e then s ||| 2 ^ e.on ||| b.getD e.on 0 else s) := by
        cases hb : binding e
        · rfl
        · simp only [if_true]; rw [hl e (by simp) hb]
      rw [this, ih _ (fun e he => hl e (by simp [he]))]
  exact key _ 0 h

theorem fold_at : ∀ (l : List Oper) (acc : Array Nat) (m : Nat) (o : Oper), l[m]? = some o → (∀ e ∈ o.after.toList, binding e = true → e.on < acc.size + m) →
    (l.foldl (fun acc o => acc.push (maskOf acc o)) acc).getD (acc.size + m) 0 = maskOf (l.foldl (fun acc o => acc.push (maskOf acc o)) acc) o
  | [], acc, m, o, h, _ => by simp at h
  | a :: r, acc, 0, o, h, he => by
    simp at h; subst h
    simp only [List.foldl_cons, Nat.add_zero]
    rw [fold_keep r _ acc.size (by simp)]
    have : (acc.push (maskOf acc a)).getD acc.size 0 = maskOf acc a := by simp [Array.getD_eq_getD_getElem?]
    rw [this]
    refine maskOf_congr fun e hm hb => ?_
    have hlt := he e hm hb
    rw [fold_keep r _ e.on (by simp; omega)]
    simp [Array.getD_eq_getD_getElem?, Array.getElem?_push]
    rw [if_neg (by omega)]
  | a :: r, acc, m + 1, o, h, he => by
    simp at h
    simp only [List.foldl_cons]
    have := fold_at r (acc.push (maskOf acc a)) m o h (fun e hm hb => by have := he e hm hb; simp; omega)
    simp only [Array.size_push] at this
    rw [show acc.size + (m + 1) = acc.size + 1 + m by omega]
    exact this

theorem mask_bit {acc : Array Nat} {i : Nat} : ∀ (l : List Edge) (s : Nat), (l.foldl (fun s e => if binding e then s ||| 2 ^ e.on ||| acc.getD e.on 0 else s) s).testBit i = true →
    s.testBit i = true ∨ ∃ e ∈ l, binding e = true ∧ (e.on = i ∨ (acc.getD e.on 0).testBit i = true)
  | [], s, h => .inl h
  | e :: r, s, h => by
    simp only [List.foldl_cons] at h
    rcases mask_bit r _ h with h1 | ⟨e', h1, h2⟩
    · cases hb : binding e
      · rw [hb] at h1; exact .inl (by simpa using h1)
      · rw [hb] at h1
        simp only [if_true, Nat.testBit_or, Bool.or_eq_true] at h1
        rcases h1 with (h1 | h1) | h1
        · exact .inl h1
        · right
          rw [Nat.testBit_two_pow] at h1
          exact ⟨e, by simp, hb, .inl (by simpa using h1)⟩
        · exact .inr ⟨e, by simp, hb, .inr h1⟩
    · exact .inr ⟨e', by simp [h1], h2⟩

/-- the edges go down -/
def Lower (ops : Array Oper) : Prop := ∀ (j : Nat) (o : Oper), ops[j]? = some o → ∀ e ∈ o.after.toList, binding e = true → e.on < j

theorem ordered_spec {ops : Array Oper} (hl : Lower ops) {i j : Nat} {o : Oper} (ho : ops[j]? = some o) (h : ordered (aheads ops) i j = true) :
    ∃ e ∈ o.after.toList, binding e = true ∧ (e.on = i ∨ ordered (aheads ops) i e.on = true) := by
  unfold ordered at h
  have := fold_at ops.toList #[] j o (by simpa using ho) (fun e he hb => by have := hl j o ho e he hb; simp; omega)
  simp only [List.size_toArray, List.length_nil, Nat.zero_add] at this
  have e1 : aheads ops = ops.toList.foldl (fun acc o => acc.push (maskOf acc o)) #[] := rfl
  rw [e1, this] at h
  rcases mask_bit _ _ h with h1 | h1
  · simp at h1
  · exact h1

theorem ordered_none {ops : Array Oper} {i j : Nat} (ho : ops[j]? = none) : ordered (aheads ops) i j = false := by
  have hsz : ∀ (l : List Oper) (acc : Array Nat), (l.foldl (fun acc o => acc.push (maskOf acc o)) acc).size = acc.size + l.length := by
    intro l
    induction l with
    | nil => intro acc; rfl
    | cons a r ih => intro acc; simp only [List.foldl_cons, ih, Array.size_push, List.length_cons]; omega
  have e1 : aheads ops = ops.toList.foldl (fun acc o => acc.push (maskOf acc o)) #[] := rfl
  have hj : ops.size ≤ j := by simpa using ho
  unfold ordered
  rw [e1, Array.getD_eq_getD_getElem?, Array.getElem?_eq_none (by rw [hsz]; simpa using hj)]
  simp

theorem ordered_lt {ops : Array Oper} (hl : Lower ops) : ∀ (j : Nat) {i : Nat}, ordered (aheads ops) i j = true → i < j := by
  intro j
  induction j using Nat.strongRecOn with
  | _ j ih =>
    intro i h
    cases ho : ops[j]? with
    | none => rw [ordered_none ho] at h; cases h
    | some o =>
      obtain ⟨e, he, hb, hc⟩ := ordered_spec hl ho h
      have := hl j o ho e he hb
      rcases hc with rfl | hc
      · exact this
      · have := ih e.on this hc; omega

/-- what is listed is closed -/
def Closed (ops : Array Oper) (listed : Array Bool) : Prop := ∀ (j : Nat) (o : Oper), listed.getD j false = true → ops[j]? = some o → ∀ e ∈ o.after.toList, binding e = true → listed.getD e.on false = true

theorem ordered_listed {ops : Array Oper} (hl : Lower ops) {listed : Array Bool} (hc : Closed ops listed) : ∀ (j : Nat) (o : Oper), ops[j]? = some o → (∀ e ∈ o.after.toList, binding e = true → listed.getD e.on false = true) →
    ∀ {i : Nat}, ordered (aheads ops) i j = true → listed.getD i false = true := by
  intro j
  induction j using Nat.strongRecOn with
  | _ j ih =>
    intro o ho hp i h
    obtain ⟨e, he, hb, hcase⟩ := ordered_spec hl ho h
    have hlt := hl j o ho e he hb
    have hle := hp e he hb
    rcases hcase with rfl | hcase
    · exact hle
    · cases hoe : ops[e.on]? with
      | none => rw [ordered_none hoe] at hcase; cases hcase
      | some oe => exact ih e.on hlt oe hoe (hc e.on oe hle hoe) hcase

/-! ## two operations change places -/

/-- what an operation makes, and the memory behind it -/
def dval (E : AEnv) (call : ACall) (ops : Array Oper) (n0 j : Nat) (o : Oper) (σ : List AVal) (h : AHeap) : Option (AVal × AHeap) :=
  match awanted ops σ o with
  | some true => dop E call ops n0 j (agetOp σ) h o.op
  | some false => some (skipped, h)
  | none => none

theorem dstep_eq {ops : Array Oper} {n0 j : Nat} {o : Oper} (ho : ops[j]? = some o) (s : ASt) :
    dstep E call ops n0 j s = (dval E call ops n0 j o s.slots s.heap).map fun p => ⟨aput s.slots o.dst p.1, p.2⟩ := by
  unfold dstep dval
  rw [ho]
  simp only
  cases awanted ops s.slots o with
  | none => rfl
  | some b =>
    cases b with
    | false => rfl
    | true =>
      simp only
      cases dop E call ops n0 j (agetOp s.slots) s.heap o.op with
      | none => rfl
      | some p => rfl

theorem dop_aop {ops : Array Oper} {n0 j : Nat} {ρ : Operand → AVal} {h : AHeap} {o : Op} {v : AVal} {h' : AHeap} (hd : dop E call ops n0 j ρ h o = some (v, h')) : aop E call (n0 + j) ρ h o = some (v, h') := by
  unfold dop at hd
  split at hd
  · split at hd
    · split at hd
      · exact hd
      · cases hd
    · cases hd
  · split at hd
    · rename_i v1 h1 he
      split at hd
      · split at hd
        · rw [he]; exact hd
        · cases hd
      · rw [he]; exact hd
    · cases hd
  · exact hd

theorem aget_put {σ : List AVal} {d : Tmp} {v : AVal} {x : Operand} (h : ∀ t, x = .tmp t → t ≠ d) : agetOp (σ.set d v) x = agetOp σ x := by
  cases x with
  | tmp t =>
    have : d ≠ t := fun e => h t rfl e.symm
    simp [agetOp, List.getD_eq_getElem?_getD, List.getElem?_set_ne this]
  | const v => rfl
  | global g => rfl
  | func f => rfl

theorem mem_tmpsOf {xs : List Operand} {t : Tmp} (h : Operand.tmp t ∈ xs) : t ∈ tmpsOf xs := by
  unfold tmpsOf; exact List.mem_filterMap.2 ⟨_, h, rfl⟩

theorem dval_congr {ops : Array Oper} {n0 j : Nat} {o : Oper} {σ : List AVal} {d : Tmp} {v : AVal} {h : AHeap} (hd : d ∉ readsOf ops o) :
    dval E call ops n0 j o (σ.set d v) h = dval E call ops n0 j o σ h := by
  unfold readsOf at hd
  simp only [List.mem_append, not_or] at hd
  obtain ⟨hd1, hd2⟩ := hd
  have hρ : ∀ x ∈ o.op.operands.toList, agetOp (σ.set d v) x = agetOp σ x := fun x hx => aget_put fun t ht e => by
    subst ht e; exact hd1 (mem_tmpsOf hx)
  have hw : awanted ops (σ.set d v) o = awanted ops σ o := by
    unfold awanted
    split
    · rfl
    · rename_i g want hg
      rw [hg] at hd2
      split
      · rename_i dd hdd
        simp only [hdd, Option.toList_some, List.mem_singleton] at hd2
        rw [List.getElem?_set_ne (fun e => hd2 e)]
      · rfl
  unfold dval
  rw [hw]
  have hop : ∀ nid, aop E call nid (agetOp (σ.set d v)) h o.op = aop E call nid (agetOp σ) h o.op := fun nid => aop_congr hρ
  have hlo : loadId (agetOp (σ.set d v)) o.op = loadId (agetOp σ) o.op := by
    cases hoo : o.op <;> simp only [loadId]
    rename_i t x
    rw [hoo] at hρ
    rw [hρ x (by simp [Op.operands])]
  have hdop : dop E call ops n0 j (agetOp (σ.set d v)) h o.op = dop E call ops n0 j (agetOp σ) h o.op := by
    unfold dop
    rw [hop, hlo]
  rw [hdop]

theorem aput_congr {ops : Array Oper} {n0 j : Nat} {o x : Oper} {σ : List AVal} {v : AVal} {h : AHeap} (hd : ∀ d, x.dst = some d → d ∉ readsOf ops o) :
    dval E call ops n0 j o (aput σ x.dst v) h = dval E call ops n0 j o σ h := by
  cases hx : x.dst with
  | none => rfl
  | some d => exact dval_congr (hd d hx)

theorem aput_comm {σ : List AVal} {x y : Oper} {v u : AVal} (h : ∀ d, x.dst = some d → y.dst ≠ some d) : aput (aput σ x.dst v) y.dst u = aput (aput σ y.dst u) x.dst v := by
  cases hx : x.dst with
  | none => rfl
  | some d =>
    cases hy : y.dst with
    | none => rfl
    | some e =>
      have hne : d ≠ e := fun he => h d hx (by rw [hy, he])
      simp only [aput]; exact List.set_comm _ _ hne

theorem set_comm {a b : Nat} (hab : a ≠ b) (h : AHeap) (x y : ABlk) : (h.set a x).set b y = (h.set b y).set a x := by
  unfold AHeap.set
  simp only [Trie.set_comm x y h.blks a b hab]

/-- may i be run ahead of x? (x stands ahead of it in the text) -/
structure May (ops : Array Oper) (x i : Nat) : Prop where
  lt : x < i
  hi : i < ops.size
  no : ordered (aheads ops) x i = false
  pair : ∀ ox oi, ops[x]? = some ox → ops[i]? = some oi → pairOk (cls ox.op) (cls oi.op) = true ∧ apartOps ops ox oi = true

theorem apart_spec {ops : Array Oper} {x y : Oper} (h : apartOps ops x y = true) : (∀ d, x.dst = some d → d ∉ readsOf ops y) ∧ (∀ d, y.dst = some d → d ∉ readsOf ops x) ∧ (∀ d, x.dst = some d → y.dst ≠ some d) := by
  unfold apartOps at h
  simp only [Bool.and_eq_true] at h
  obtain ⟨h1, h2⟩ := h
  refine ⟨fun d hd => ?_, fun d hd => ?_, fun d hd => ?_⟩
  · rw [hd] at h1; simp at h1; exact h1.1
  · rw [hd] at h2; simp at h2; exact h2
  · rw [hd] at h1; simp at h1; exact h1.2

/-- the heart: the two operations on one memory -/
theorem swap_val {ops : Array Oper} (hl : Lower ops) {n0 x i : Nat} (m : May ops x i) {ox oi : Oper} (hox : ops[x]? = some ox) (hoi : ops[i]? = some oi) {σ : List AVal} {h hx h2 : AHeap} {vx vi : AVal}
    (h1 : dval E call ops n0 x ox σ h = some (vx, hx)) (hi : dval E call ops n0 i oi σ hx = some (vi, h2)) :
    ∃ h1', dval E call ops n0 i oi σ h = some (vi, h1') ∧ dval E call ops n0 x ox σ h1' = some (vx, h2) := by
  obtain ⟨hpair, hap⟩ := m.pair ox oi hox hoi
  have hnoi : ordered (aheads ops) i x = false := by
    cases hb : ordered (aheads ops) i x with
    | false => rfl
    | true => have := ordered_lt hl x hb; have := m.lt; omega
  unfold dval at h1 hi ⊢
  cases hwx : awanted ops σ ox with
  | none => rw [hwx] at h1; cases h1
  | some bx =>
    cases hwi : awanted ops σ oi with
    | none => rw [hwi] at hi; cases hi
    | some bi =>
      rw [hwx] at h1; rw [hwi] at hi
      cases bx with
      | false =>
        simp only [Option.some.injEq, Prod.mk.injEq] at h1
        obtain ⟨rfl, rfl⟩ := h1
        exact ⟨h2, hi, rfl⟩
      | true =>
        cases bi with
        | false =>
          simp only [Option.some.injEq, Prod.mk.injEq] at hi
          obtain ⟨rfl, rfl⟩ := hi
          exact ⟨h, rfl, h1⟩
        | true =>
          simp only at h1 hi ⊢
          have ax := dop_aop h1
          have ai := dop_aop hi
          -- the loads' checks
          have loadx : cls ox.op = .load → ∃ b, loadId (agetOp σ) ox.op = some b ∧ (b < n0 ∨ (b < n0 + ops.size ∧ ordered (aheads ops) (b - n0) x = true)) := by
            intro hc
            unfold dop at h1; rw [hc] at h1; simp only at h1
            split at h1
            · rename_i b hb
              split at h1
              · rename_i hcc; exact ⟨b, hb, hcc⟩
              · cases h1
            · cases h1
          have loadi : cls oi.op = .load → ∃ b, loadId (agetOp σ) oi.op = some b ∧ (b < n0 ∨ (b < n0 + ops.size ∧ ordered (aheads ops) (b - n0) i = true)) := by
            intro hc
            unfold dop at hi; rw [hc] at hi; simp only at hi
            split at hi
            · rename_i b hb
              split at hi
              · rename_i hcc; exact ⟨b, hb, hcc⟩
              · cases hi
            · cases hi
          have dload : ∀ {j : Nat} {o : Oper} {h h' : AHeap} {v : AVal}, cls o.op = .load → (∃ b, loadId (agetOp σ) o.op = some b ∧ (b < n0 ∨ (b < n0 + ops.size ∧ ordered (aheads ops) (b - n0) j = true))) →
              aop E call (n0 + j) (agetOp σ) h o.op = some (v, h') → dop E call ops n0 j (agetOp σ) h o.op = some (v, h') := by
            intro j o h h' v hc ⟨b, hb, hcc⟩ ha
            unfold dop; rw [hc]; simp only [hb]; rw [if_pos hcc]; exact ha
          have dalloc : ∀ {j : Nat} {o : Oper} {h : AHeap}, cls o.op = .alloc → dop E call ops n0 j (agetOp σ) h o.op = aop E call (n0 + j) (agetOp σ) h o.op := by
            intro j o h hc; unfold dop; rw [hc]
          have dpure : ∀ {j : Nat} {o : Oper} {h : AHeap}, cls o.op = .pure → dop E call ops n0 j (agetOp σ) h o.op = aop E call (n0 + j) (agetOp σ) h o.op := by
            intro j o h hc; unfold dop; rw [hc]
          cases hcx : cls ox.op with
          | pure =>
            obtain ⟨rfl, hp⟩ := pure_spec hcx ax
            exact ⟨h2, hi, by rw [dpure hcx]; exact hp _ _⟩
          | load =>
            obtain ⟨rfl, b, hb, hp⟩ := load_spec hcx ax
            cases hci : cls oi.op with
            | pure =>
              obtain ⟨rfl, hq⟩ := pure_spec hci ai
              exact ⟨_, hi, h1⟩
            | load =>
              obtain ⟨rfl, b', hb', hq⟩ := load_spec hci ai
              exact ⟨_, hi, h1⟩
            | alloc =>
              obtain ⟨blk, rfl, hq⟩ := alloc_spec hci ai
              refine ⟨_, hi, dload hcx (loadx hcx) (hp _ _ ?_)⟩
              refine AHeap.get_set_ne _ _ ?_
              rintro rfl
              obtain ⟨b'', hb'', hcc⟩ := loadx hcx
              rw [hb] at hb''; simp at hb''; subst hb''
              rcases hcc with hcc | ⟨_, hcc⟩
              · omega
              · rw [show n0 + i - n0 = i by omega, hnoi] at hcc; cases hcc
            | call =>
              refine ⟨_, hi, dload hcx (loadx hcx) (hp _ _ ?_)⟩
              unfold dop at hi; rw [hci] at hi; simp only [ai] at hi
              have hloose : looseCall ops (aheads ops) i = true := by
                unfold looseCall
                rw [List.any_eq_true]
                refine ⟨x, List.mem_range.2 (by have := m.lt; have := m.hi; omega), ?_⟩
                rw [hox]; simp [hcx, m.no, hnoi]
              rw [if_pos hloose] at hi
              split at hi
              · rename_i hs
                obtain ⟨b'', hb'', hcc⟩ := loadx hcx
                rw [hb] at hb''; simp at hb''; subst hb''
                exact sameOld_get hs (by rcases hcc with hcc | ⟨hcc, _⟩ <;> omega)
              · cases hi
            | other => rw [hcx, hci] at hpair; cases hpair
          | alloc =>
            obtain ⟨blk, rfl, hp⟩ := alloc_spec hcx ax
            cases hci : cls oi.op with
            | pure =>
              obtain ⟨rfl, hq⟩ := pure_spec hci ai
              exact ⟨h, by rw [dpure hci]; exact hq _ _, h1⟩
            | load =>
              obtain ⟨rfl, b', hb', hq⟩ := load_spec hci ai
              refine ⟨h, dload hci (loadi hci) (hq _ _ ?_), h1⟩
              refine (AHeap.get_set_ne _ _ ?_).symm
              rintro rfl
              obtain ⟨b'', hb'', hcc⟩ := loadi hci
              rw [hb'] at hb''; simp at hb''; subst hb''
              rcases hcc with hcc | ⟨_, hcc⟩
              · omega
              · rw [show n0 + x - n0 = x by omega, m.no] at hcc; cases hcc
            | alloc =>
              obtain ⟨blk', rfl, hq⟩ := alloc_spec hci ai
              refine ⟨h.set (n0 + i) blk', by rw [dalloc hci]; exact hq _, ?_⟩
              rw [dalloc hcx, hp, set_comm (by have := m.lt; omega)]
            | call => rw [hcx, hci] at hpair; cases hpair
            | other => rw [hcx, hci] at hpair; cases hpair
          | call =>
            cases hci : cls oi.op with
            | pure =>
              obtain ⟨rfl, hq⟩ := pure_spec hci ai
              exact ⟨h, by rw [dpure hci]; exact hq _ _, h1⟩
            | load =>
              obtain ⟨rfl, b', hb', hq⟩ := load_spec hci ai
              refine ⟨h, dload hci (loadi hci) (hq _ _ ?_), h1⟩
              unfold dop at h1; rw [hcx] at h1; simp only [ax] at h1
              have hloose : looseCall ops (aheads ops) x = true := by
                unfold looseCall
                rw [List.any_eq_true]
                refine ⟨i, List.mem_range.2 m.hi, ?_⟩
                rw [hoi]; simp [hci, m.no, hnoi]
              rw [if_pos hloose] at h1
              split at h1
              · rename_i hs
                obtain ⟨b'', hb'', hcc⟩ := loadi hci
                rw [hb'] at hb''; simp at hb''; subst hb''
                exact (sameOld_get hs (by rcases hcc with hcc | ⟨hcc, _⟩ <;> omega)).symm
              · cases h1
            | alloc => rw [hcx, hci] at hpair; cases hpair
            | call => rw [hcx, hci] at hpair; cases hpair
            | other => rw [hcx, hci] at hpair; cases hpair
          | other =>
            cases hci : cls oi.op with
            | pure =>
              obtain ⟨rfl, hq⟩ := pure_spec hci ai
              exact ⟨h, by rw [dpure hci]; exact hq _ _, h1⟩
            | load => rw [hcx, hci] at hpair; cases hpair
            | alloc => rw [hcx, hci] at hpair; cases hpair
            | call => rw [hcx, hci] at hpair; cases hpair
            | other => rw [hcx, hci] at hpair; cases hpair

theorem swap_step {ops : Array Oper} (hl : Lower ops) {n0 x i : Nat} (m : May ops x i) {s s1 s2 : ASt} (h1 : dstep E call ops n0 x s = some s1) (h2 : dstep E call ops n0 i s1 = some s2) :
    ∃ t, dstep E call ops n0 i s = some t ∧ dstep E call ops n0 x t = some s2 := by
  have hxl : x < ops.size := by have := m.lt; have := m.hi; omega
  have hox : ops[x]? = some ops[x] := Array.getElem?_eq_getElem hxl
  have hoi : ops[i]? = some (ops[i]'m.hi) := Array.getElem?_eq_getElem m.hi
  obtain ⟨hpair, hap⟩ := m.pair _ _ hox hoi
  obtain ⟨a1, a2, a3⟩ := apart_spec hap
  rw [dstep_eq hox, Option.map_eq_some_iff] at h1
  obtain ⟨⟨vx, hx⟩, k1, rfl⟩ := h1
  rw [dstep_eq hoi, Option.map_eq_some_iff] at h2
  obtain ⟨⟨vi, hh2⟩, k2, rfl⟩ := h2
  simp only at k2
  rw [aput_congr a1] at k2
  obtain ⟨h1', g1, g2⟩ := swap_val hl m hox hoi k1 k2
  refine ⟨⟨aput s.slots (ops[i]'m.hi).dst vi, h1'⟩, ?_, ?_⟩
  · rw [dstep_eq hoi, g1]; rfl
  · rw [dstep_eq hox]
    simp only
    rw [aput_congr a2, g2]
    simp only [Option.map_some]
    rw [aput_comm a3]

theorem front {ops : Array Oper} (hl : Lower ops) {n0 i : Nat} {q : List Nat} : ∀ {p : List Nat} {s s' : ASt}, (∀ x ∈ p, May ops x i) → drun E call ops n0 (p ++ i :: q) s = some s' →
    ∃ t, dstep E call ops n0 i s = some t ∧ drun E call ops n0 (p ++ q) t = some s'
  | [], s, s', _, h => by
    simp only [List.nil_append, drun] at h ⊢
    split at h
    · rename_i t ht; exact ⟨t, ht, h⟩
    · cases h
  | x :: p, s, s', hm, h => by
    simp only [List.cons_append, drun] at h
    split at h
    · rename_i s1 hs1
      obtain ⟨t, h1, h2⟩ := front hl (fun y hy => hm y (by simp [hy])) h
      obtain ⟨u, g1, g2⟩ := swap_step hl (hm x (by simp)) hs1 h1
      refine ⟨u, g1, ?_⟩
      simp only [List.cons_append, drun, g2]; exact h2
    · cases h

theorem dstep_astep {ops : Array Oper} {n0 j : Nat} {s s' : ASt} (h : dstep E call ops n0 j s = some s') : astep E call ops n0 j s = some s' := by
  unfold dstep at h
  unfold astep
  split at h
  · rename_i e; simp [e]; simpa using h
  · rename_i o e
    split at h
    · rename_i hw
      split at h
      · rename_i v hp hd
        rw [dop_aop hd]; exact h
      · cases h
    · exact h
    · cases h
end

section
variable {P : Program} {φ : Map} {E : AEnv}

theorem drawOk_spec {ops : Array Oper} (h : drawOk ops = true) : Lower ops ∧ ∀ x i, x < i → i < ops.size → ordered (aheads ops) x i = false → May ops x i := by
  unfold drawOk at h
  simp only [List.all_eq_true, List.mem_range] at h
  have hlow : Lower ops := by
    intro j o ho e he hb
    have hj : j < ops.size := by
      rcases Nat.lt_or_ge j ops.size with h' | h'
      · exact h'
      · rw [Array.getElem?_eq_none h'] at ho; cases ho
    have := h j hj
    rw [ho] at this
    simp only [Bool.and_eq_true, List.all_eq_true] at this
    have := this.1 e he
    simpa [hb] using this
  refine ⟨hlow, fun x i hxi hi hno => ⟨hxi, hi, hno, fun ox oi hox hoi => ?_⟩⟩
  have := h i hi
  rw [hoi] at this
  simp only [Bool.and_eq_true, List.all_eq_true, List.mem_range] at this
  have := this.2 x hxi
  rw [hno, hox] at this
  simpa using this

/-- what is not listed yet, in the order of the text -/
def unlisted (ops : Array Oper) (listed : Array Bool) : List Nat := (List.range ops.size).filter fun i => !listed.getD i true

theorem ready_mem {ops : Array Oper} {listed : Array Bool} {i : Nat} (h : i ∈ Region.ready .any ops listed) :
    i < ops.size ∧ listed.getD i true = false ∧ ∃ o, ops[i]? = some o ∧ ∀ e ∈ o.after.toList, binding e = true → listed.getD e.on false = true := by
  unfold Region.ready at h
  simp only [List.mem_filter, List.mem_range, Bool.and_eq_true, Bool.not_eq_true'] at h
  obtain ⟨h1, h2, h3⟩ := h
  refine ⟨h1, h2, ops[i], Array.getElem?_eq_getElem h1, fun e he hb => ?_⟩
  rw [Array.getElem?_eq_getElem h1] at h3
  simp only [Option.map_some, Option.getD_some, Array.all_eq_true_iff_forall_mem] at h3
  have := h3 e (by simpa using he)
  unfold binding at hb
  simpa [hb] using this

theorem ready_first {ops : Array Oper} (hl : Lower ops) {listed : Array Bool} (hsz : listed.size = ops.size) {i : Nat} {r : List Nat} (h : unlisted ops listed = i :: r) : i ∈ Region.ready .any ops listed := by
  have hi : i ∈ unlisted ops listed := by rw [h]; simp
  have hi' := hi
  unfold unlisted at hi
  simp only [List.mem_filter, List.mem_range, Bool.not_eq_true'] at hi
  unfold Region.ready
  simp only [List.mem_filter, List.mem_range, Bool.and_eq_true, Bool.not_eq_true']
  refine ⟨hi.1, hi.2, ?_⟩
  rw [Array.getElem?_eq_getElem hi.1]
  simp only [Option.map_some, Option.getD_some, Array.all_eq_true_iff_forall_mem]
  intro e he
  cases hb : Region.binds .any e with
  | false => rfl
  | true =>
    simp only [Bool.not_true, Bool.false_or]
    have hlt := hl i _ (Array.getElem?_eq_getElem hi.1) e (by simpa using he) hb
    -- were it not listed, it would stand ahead of the first
    cases hle : listed.getD e.on false with
    | true => rfl
    | false =>
      exfalso
      have hin : e.on ∈ unlisted ops listed := by
        unfold unlisted
        simp only [List.mem_filter, List.mem_range, Bool.not_eq_true']
        refine ⟨by omega, ?_⟩
        have hlt' : e.on < listed.size := by omega
        rw [Array.getD_eq_getD_getElem?, Array.getElem?_eq_getElem hlt'] at hle ⊢
        simpa using hle
      have hsorted : (unlisted ops listed).Pairwise (· < ·) := List.Pairwise.filter _ List.pairwise_lt_range
      rw [h] at hsorted hin
      rcases List.mem_cons.1 hin with he' | he'
      · omega
      · have := (List.pairwise_cons.1 hsorted).1 _ he'; omega

theorem unlisted_set {ops : Array Oper} {listed : Array Bool} (hsz : listed.size = ops.size) {i : Nat} {p q : List Nat} (h : unlisted ops listed = p ++ i :: q) : unlisted ops (listed.setIfInBounds i true) = p ++ q := by
  have hnd : (unlisted ops listed).Nodup := List.Pairwise.filter _ List.nodup_range
  have hi : i ∈ unlisted ops listed := by rw [h]; simp
  have hil : i < ops.size := by unfold unlisted at hi; simp only [List.mem_filter, List.mem_range] at hi; exact hi.1
  have e1 : unlisted ops (listed.setIfInBounds i true) = (unlisted ops listed).filter fun j => decide (j ≠ i) := by
    unfold unlisted
    rw [List.filter_filter]
    refine List.filter_congr fun j hj => ?_
    have hjl := List.mem_range.1 hj
    by_cases hji : j = i
    · subst hji
      simp [Array.getD_eq_getD_getElem?, hsz, hil]
    · have hij : ¬ i = j := fun e => hji e.symm
      simp [Array.getD_eq_getD_getElem?, Array.getElem?_setIfInBounds, hji, hij]
  rw [e1, h]
  rw [h] at hnd
  have hp : ∀ j ∈ p, j ≠ i := fun j hj e => by
    subst e
    exact (List.nodup_append.1 hnd).2.2 j hj j (by simp) rfl
  have hq : ∀ j ∈ q, j ≠ i := fun j hj e => by
    subst e
    have := (List.nodup_append.1 hnd).2.1
    exact (List.nodup_cons.1 this).1 hj
  rw [List.filter_append, List.filter_cons]
  simp only [ne_eq, not_true_eq_false, decide_false, Bool.false_eq_true, if_false]
  rw [List.filter_eq_self.2 (fun j hj => by simpa using hp j hj), List.filter_eq_self.2 (fun j hj => by simpa using hq j hj)]

theorem drun_any (hE : EnvOk P E) {N0 : Nat → Prop} {w0 : World} (hN : Low N0 w0.heap.size) {call : ACall} (hcall : CallOk P N0 w0 call) {ops : Array Oper} (hok : drawOk ops = true) {n0 : Nat} {Q : Exit → Act → World → Prop} :
    ∀ {fuel : Nat} {listed : Array Bool} {s s' : ASt} {a : Act} {w : World} {φ : Map}, listed.size = ops.size → Closed ops listed → (unlisted ops listed).length ≤ fuel → drun E call ops n0 (unlisted ops listed) s = some s' →
      SRel φ N0 w0 s a w → (∀ j ∈ unlisted ops listed, n0 + j < s.heap.next ∧ ∀ v, φ (n0 + j) v = none) →
      (∀ a' w' φ', Keep φ φ' n0 → SRel φ' N0 w0 s' a' w' → s.heap.next ≤ s'.heap.next → Q .normal a' w') → wpAny P .any ops Q fuel listed a w := by
  intro fuel
  obtain ⟨hlow, hmay⟩ := drawOk_spec hok
  have hempty : ∀ {listed : Array Bool} {s s' : ASt} {a : Act} {w : World} {φ : Map}, listed.size = ops.size → drun E call ops n0 (unlisted ops listed) s = some s' → SRel φ N0 w0 s a w →
      (∀ a' w' φ', Keep φ φ' n0 → SRel φ' N0 w0 s' a' w' → s.heap.next ≤ s'.heap.next → Q .normal a' w') → Region.ready .any ops listed = [] → Q .normal a w := by
    intro listed s s' a w φ hsz h r hk hr
    cases hu : unlisted ops listed with
    | nil =>
      rw [hu] at h; simp [drun] at h; subst h
      exact hk a w φ (Keep.refl _ _) r (Nat.le_refl _)
    | cons i q =>
      exfalso
      have := ready_first hlow hsz hu
      rw [hr] at this; cases this
  induction fuel with
  | zero =>
    intro listed s s' a w φ hsz hcl hlen h r hid hk
    have hu : unlisted ops listed = [] := List.length_eq_zero_iff.1 (by omega)
    simp only [wpAny]
    have hre : Region.ready .any ops listed = [] := by
      cases hr : Region.ready .any ops listed with
      | nil => rfl
      | cons i q =>
        exfalso
        obtain ⟨h1, h2, _⟩ := ready_mem (by rw [hr]; exact List.mem_cons_self)
        have : i ∈ unlisted ops listed := by unfold unlisted; simp only [List.mem_filter, List.mem_range, Bool.not_eq_true']; exact ⟨h1, h2⟩
        rw [hu] at this; cases this
    exact ⟨hre, hempty hsz h r hk hre⟩
  | succ fuel ih =>
    intro listed s s' a w φ hsz hcl hlen h r hid hk
    simp only [wpAny]
    refine ⟨hempty hsz h r hk, fun i hi => ?_⟩
    obtain ⟨h1, h2, o, ho, hpre⟩ := ready_mem hi
    have hmem : i ∈ unlisted ops listed := by unfold unlisted; simp only [List.mem_filter, List.mem_range, Bool.not_eq_true']; exact ⟨h1, h2⟩
    obtain ⟨p, q, hpq⟩ := List.append_of_mem hmem
    have hsorted : (unlisted ops listed).Pairwise (· < ·) := List.Pairwise.filter _ List.pairwise_lt_range
    have hm : ∀ x ∈ p, May ops x i := by
      intro x hx
      rw [hpq] at hsorted
      have hlt : x < i := (List.pairwise_append.1 hsorted).2.2 x hx i (by simp)
      refine hmay x i hlt h1 ?_
      cases hb : ordered (aheads ops) x i with
      | false => rfl
      | true =>
        exfalso
        have hxl := ordered_listed hlow hcl i o ho hpre hb
        have hxm : x ∈ unlisted ops listed := by rw [hpq]; simp [hx]
        unfold unlisted at hxm
        simp only [List.mem_filter, List.mem_range, Bool.not_eq_true'] at hxm
        have hlt' : x < listed.size := by omega
        rw [Array.getD_eq_getD_getElem?, Array.getElem?_eq_getElem hlt'] at hxl
        have h3 := hxm.2
        rw [Array.getD_eq_getD_getElem?, Array.getElem?_eq_getElem hlt'] at h3
        simp at hxl h3
        rw [hxl] at h3; cases h3
    rw [hpq] at h
    obtain ⟨t, g1, g2⟩ := front hlow hm h
    refine astep_sound hE hN hcall r (hid i hmem) (dstep_astep g1) fun a' w' φ' hx r' hle => ?_
    have hun := unlisted_set hsz hpq
    refine ih (listed := listed.setIfInBounds i true) (by simpa using hsz) ?_ ?_ (by rw [hun]; exact g2) r' (fun j hj => ?_) fun a'' w'' φ'' hkp r'' hle' => ?_
    · intro j oj hj hoj e he hb
      by_cases hei : e.on = i
      · rw [hei]; simp [Array.getD_eq_getD_getElem?, hsz, h1]
      · have hold : listed.getD e.on false = true := by
          by_cases hji : j = i
          · subst hji
            rw [ho] at hoj; simp at hoj; subst hoj
            exact hpre e he hb
          · refine hcl j oj ?_ hoj e he hb
            have hij : ¬ i = j := fun e => hji e.symm
            simpa [Array.getD_eq_getD_getElem?, Array.getElem?_setIfInBounds, hij] using hj
        have hie : ¬ i = e.on := fun e' => hei e'.symm
        simpa [Array.getD_eq_getD_getElem?, Array.getElem?_setIfInBounds, hie] using hold
    · rw [hun]; rw [hpq] at hlen; simp at hlen ⊢; omega
    · rw [hun] at hj
      have hjm : j ∈ unlisted ops listed := by rw [hpq]; rcases List.mem_append.1 hj with hj | hj <;> simp [hj]
      have hnd : (unlisted ops listed).Nodup := List.Pairwise.filter _ List.nodup_range
      have hji : j ≠ i := by
        rintro rfl
        rw [hpq] at hnd
        rcases List.mem_append.1 hj with hj | hj
        · exact (List.nodup_append.1 hnd).2.2 j hj j (by simp) rfl
        · exact (List.nodup_cons.1 (List.nodup_append.1 hnd).2.1).1 hj
      obtain ⟨k1, k2⟩ := hid j hjm
      exact ⟨by omega, hx.new _ k1 (by omega) k2⟩
    · refine hk _ _ _ (Keep.trans ⟨hx.le, fun k hkn hnn => hx.new k ?_ (by omega) hnn, hx.ro⟩ hkp) r'' (by omega)
      have := (hid i hmem).1; omega

theorem drun_sound (hE : EnvOk P E) {N0 : Nat → Prop} {w0 : World} (hN : Low N0 w0.heap.size) {call : ACall} (hcall : CallOk P N0 w0 call) {ops : Array Oper} (hok : drawOk ops = true) {n0 : Nat} {s s' : ASt} {a : Act} {w : World} {φ : Map}
    {Q : Exit → Act → World → Prop} (h : drun E call ops n0 (List.range ops.size) s = some s') (r : SRel φ N0 w0 s a w) (hid : ∀ j, j < ops.size → n0 + j < s.heap.next ∧ ∀ v, φ (n0 + j) v = none)
    (hk : ∀ a' w' φ', Keep φ φ' n0 → SRel φ' N0 w0 s' a' w' → s.heap.next ≤ s'.heap.next → Q .normal a' w') : wpAny P .any ops Q ops.size (Array.replicate ops.size false) a w := by
  have hu : unlisted ops (Array.replicate ops.size false) = List.range ops.size := by
    unfold unlisted
    refine List.filter_eq_self.2 fun i hi => ?_
    have := List.mem_range.1 hi
    simp [Array.getD_eq_getD_getElem?, Array.getElem?_replicate, this]
  refine drun_any hE hN hcall hok (by simp) ?_ (by rw [hu]; simp) (by rw [hu]; exact h) r (fun j hj => by rw [hu] at hj; exact hid j (List.mem_range.1 hj)) hk
  intro j o hj
  simp [Array.getD_eq_getD_getElem?, Array.getElem?_replicate] at hj
  split at hj <;> simp at hj

end
end
end Go.Lift
