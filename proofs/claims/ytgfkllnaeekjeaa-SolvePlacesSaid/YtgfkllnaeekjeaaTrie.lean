/-
  A MAP FROM NUMBERS as a tree: key 0 at the root, 2 m + 1 in the left branch at m, 2 m + 2 in the right one at m. By recursors, so that the kernel runs it fast.
-/
namespace Go.Lift
set_option linter.unusedVariables false

inductive Trie (α : Type) where
  | nil
  | node (v : Option α) (l r : Trie α)

section
variable {α : Type}

noncomputable def Trie.get (t : Trie α) : Nat → Option α :=
  Trie.rec (motive := fun _ => Nat → Option α) (fun _ => none)
    (fun v _ _ gl gr k => cond (Nat.beq k 0) v (cond (Nat.beq (k % 2) 1) (gl (k / 2)) (gr (k / 2 - 1)))) t

noncomputable def Trie.sing (f : Nat) : Nat → α → Trie α :=
  Nat.rec (motive := fun _ => Nat → α → Trie α) (fun _ v => .node (some v) .nil .nil)
    (fun _ ih k v => cond (Nat.beq k 0) (.node (some v) .nil .nil) (cond (Nat.beq (k % 2) 1) (.node none (ih (k / 2) v) .nil) (.node none .nil (ih (k / 2 - 1) v)))) f

noncomputable def Trie.set (t : Trie α) : Nat → α → Trie α :=
  Trie.rec (motive := fun _ => Nat → α → Trie α) (fun k v => Trie.sing k k v)
    (fun o l r sl sr k v => cond (Nat.beq k 0) (.node (some v) l r) (cond (Nat.beq (k % 2) 1) (.node o (sl (k / 2) v) r) (.node o l (sr (k / 2 - 1) v)))) t

theorem beq_true {a b : Nat} (h : a = b) : Nat.beq a b = true := by subst h; exact Nat.beq_refl a
theorem beq_false {a b : Nat} (h : a ≠ b) : Nat.beq a b = false := by
  cases hb : Nat.beq a b with
  | false => rfl
  | true => exact absurd (Nat.eq_of_beq_eq_true hb) h

theorem Trie.get_nil (k : Nat) : (Trie.nil : Trie α).get k = none := rfl
theorem Trie.get_zero (v : Option α) (l r : Trie α) : (Trie.node v l r).get 0 = v := rfl
theorem Trie.get_odd (v : Option α) (l r : Trie α) (m : Nat) : (Trie.node v l r).get (2 * m + 1) = l.get m := by
  show cond (Nat.beq (2 * m + 1) 0) v (cond (Nat.beq ((2 * m + 1) % 2) 1) (l.get ((2 * m + 1) / 2)) (r.get ((2 * m + 1) / 2 - 1))) = _
  rw [beq_false (by omega), beq_true (by omega), show (2 * m + 1) / 2 = m by omega]; rfl
theorem Trie.get_even (v : Option α) (l r : Trie α) (m : Nat) : (Trie.node v l r).get (2 * m + 2) = r.get m := by
  show cond (Nat.beq (2 * m + 2) 0) v (cond (Nat.beq ((2 * m + 2) % 2) 1) (l.get ((2 * m + 2) / 2)) (r.get ((2 * m + 2) / 2 - 1))) = _
  rw [beq_false (by omega), beq_false (by omega), show (2 * m + 2) / 2 - 1 = m by omega]; rfl

theorem Trie.sing_zero (f : Nat) (v : α) : Trie.sing f 0 v = .node (some v) .nil .nil := by cases f <;> rfl
theorem Trie.sing_odd (f m : Nat) (v : α) : Trie.sing (f + 1) (2 * m + 1) v = .node none (Trie.sing f m v) .nil := by
  show cond (Nat.beq (2 * m + 1) 0) (Trie.node (some v) .nil .nil) (cond (Nat.beq ((2 * m + 1) % 2) 1) (Trie.node none (Trie.sing f ((2 * m + 1) / 2) v) .nil) (Trie.node none .nil (Trie.sing f ((2 * m + 1) / 2 - 1) v))) = _
  rw [beq_false (by omega), beq_true (by omega), show (2 * m + 1) / 2 = m by omega]; rfl
theorem Trie.sing_even (f m : Nat) (v : α) : Trie.sing (f + 1) (2 * m + 2) v = .node none .nil (Trie.sing f m v) := by
  show cond (Nat.beq (2 * m + 2) 0) (Trie.node (some v) .nil .nil) (cond (Nat.beq ((2 * m + 2) % 2) 1) (Trie.node none (Trie.sing f ((2 * m + 2) / 2) v) .nil) (Trie.node none .nil (Trie.sing f ((2 * m + 2) / 2 - 1) v))) = _
  rw [beq_false (by omega), beq_false (by omega), show (2 * m + 2) / 2 - 1 = m by omega]; rfl

theorem Trie.set_nil (k : Nat) (v : α) : (Trie.nil : Trie α).set k v = Trie.sing k k v := rfl
theorem Trie.set_zero (o : Option α) (l r : Trie α) (v : α) : (Trie.node o l r).set 0 v = .node (some v) l r := rfl
theorem Trie.set_odd (o : Option α) (l r : Trie α) (m : Nat) (v : α) : (Trie.node o l r).set (2 * m + 1) v = .node o (l.set m v) r := by
  show cond (Nat.beq (2 * m + 1) 0) (Trie.node (some v) l r) (cond (Nat.beq ((2 * m + 1) % 2) 1) (Trie.node o (l.set ((2 * m + 1) / 2) v) r) (Trie.node o l (r.set ((2 * m + 1) / 2 - 1) v))) = _
  rw [beq_false (by omega), beq_true (by omega), show (2 * m + 1) / 2 = m by omega]; rfl
theorem Trie.set_even (o : Option α) (l r : Trie α) (m : Nat) (v : α) : (Trie.node o l r).set (2 * m + 2) v = .node o l (r.set m v) := by
  show cond (Nat.beq (2 * m + 2) 0) (Trie.node (some v) l r) (cond (Nat.beq ((2 * m + 2) % 2) 1) (Trie.node o (l.set ((2 * m + 2) / 2) v) r) (Trie.node o l (r.set ((2 * m + 2) / 2 - 1) v))) = _
  rw [beq_false (by omega), beq_false (by omega), show (2 * m + 2) / 2 - 1 = m by omega]; rfl

theorem three (k : Nat) : k = 0 ∨ (∃ m, k = 2 * m + 1) ∨ ∃ m, k = 2 * m + 2 := by
  rcases Nat.eq_zero_or_pos k with h | h
  · exact .inl h
  · rcases Nat.mod_two_eq_zero_or_one k with h2 | h2
    · exact .inr (.inr ⟨k / 2 - 1, by omega⟩)
    · exact .inr (.inl ⟨k / 2, by omega⟩)

theorem Trie.sing_fuel (v : α) : ∀ (k f g : Nat), k ≤ f → k ≤ g → Trie.sing f k v = Trie.sing g k v := by
  intro k
  induction k using Nat.strongRecOn with
  | _ k ih =>
    intro f g hf hg
    rcases three k with rfl | ⟨m, rfl⟩ | ⟨m, rfl⟩
    · rw [Trie.sing_zero, Trie.sing_zero]
    · obtain ⟨f, rfl⟩ : ∃ f', f = f' + 1 := ⟨f - 1, by omega⟩
      obtain ⟨g, rfl⟩ : ∃ g', g = g' + 1 := ⟨g - 1, by omega⟩
      rw [Trie.sing_odd, Trie.sing_odd, ih m (by omega) f g (by omega) (by omega)]
    · obtain ⟨f, rfl⟩ : ∃ f', f = f' + 1 := ⟨f - 1, by omega⟩
      obtain ⟨g, rfl⟩ : ∃ g', g = g' + 1 := ⟨g - 1, by omega⟩
      rw [Trie.sing_even, Trie.sing_even, ih m (by omega) f g (by omega) (by omega)]

theorem Trie.get_sing (v : α) : ∀ (k f j : Nat), k ≤ f → (Trie.sing f k v).get j = if k = j then some v else none := by
  intro k
  induction k using Nat.strongRecOn with
  | _ k ih =>
    intro f j hf
    rcases three k with rfl | ⟨m, rfl⟩ | ⟨m, rfl⟩
    · rw [Trie.sing_zero]
      rcases three j with rfl | ⟨i, rfl⟩ | ⟨i, rfl⟩
      · rw [Trie.get_zero, if_pos rfl]
      · rw [Trie.get_odd, Trie.get_nil, if_neg (by omega)]
      · rw [Trie.get_even, Trie.get_nil, if_neg (by omega)]
    · obtain ⟨f, rfl⟩ : ∃ f', f = f' + 1 := ⟨f - 1, by omega⟩
      rw [Trie.sing_odd]
      rcases three j with rfl | ⟨i, rfl⟩ | ⟨i, rfl⟩
      · rw [Trie.get_zero, if_neg (by omega)]
      · rw [Trie.get_odd, ih m (by omega) f i (by omega)]
        by_cases h : m = i
        · rw [if_pos h, if_pos (by omega)]
        · rw [if_neg h, if_neg (by omega)]
      · rw [Trie.get_even, Trie.get_nil, if_neg (by omega)]
    · obtain ⟨f, rfl⟩ : ∃ f', f = f' + 1 := ⟨f - 1, by omega⟩
      rw [Trie.sing_even]
      rcases three j with rfl | ⟨i, rfl⟩ | ⟨i, rfl⟩
      · rw [Trie.get_zero, if_neg (by omega)]
      · rw [Trie.get_odd, Trie.get_nil, if_neg (by omega)]
      · rw [Trie.get_even, ih m (by omega) f i (by omega)]
        by_cases h : m = i
        · rw [if_pos h, if_pos (by omega)]
        · rw [if_neg h, if_neg (by omega)]

theorem Trie.get_set (v : α) : ∀ (t : Trie α) (k j : Nat), (t.set k v).get j = if k = j then some v else t.get j
  | .nil, k, j => by rw [Trie.set_nil, Trie.get_sing v k k j (Nat.le_refl _), Trie.get_nil]
  | .node o l r, k, j => by
    rcases three k with rfl | ⟨m, rfl⟩ | ⟨m, rfl⟩
    · rw [Trie.set_zero]
      rcases three j with rfl | ⟨i, rfl⟩ | ⟨i, rfl⟩
      · rw [Trie.get_zero, if_pos rfl]
      · rw [Trie.get_odd, Trie.get_odd, if_neg (by omega)]
      · rw [Trie.get_even, Trie.get_even, if_neg (by omega)]
    · rw [Trie.set_odd]
      rcases three j with rfl | ⟨i, rfl⟩ | ⟨i, rfl⟩
      · rw [Trie.get_zero, Trie.get_zero, if_neg (by omega)]
      · rw [Trie.get_odd, Trie.get_odd, Trie.get_set v l m i]
        by_cases h : m = i
        · rw [if_pos h, if_pos (by omega)]
        · rw [if_neg h, if_neg (by omega)]
      · rw [Trie.get_even, Trie.get_even, if_neg (by omega)]
    · rw [Trie.set_even]
      rcases three j with rfl | ⟨i, rfl⟩ | ⟨i, rfl⟩
      · rw [Trie.get_zero, Trie.get_zero, if_neg (by omega)]
      · rw [Trie.get_odd, Trie.get_odd, if_neg (by omega)]
      · rw [Trie.get_even, Trie.get_even, Trie.get_set v r m i]
        by_cases h : m = i
        · rw [if_pos h, if_pos (by omega)]
        · rw [if_neg h, if_neg (by omega)]

theorem Trie.sing_comm (x y : α) : ∀ (a b : Nat), a ≠ b → (Trie.sing a a x).set b y = (Trie.sing b b y).set a x := by
  intro a
  induction a using Nat.strongRecOn with
  | _ a ih =>
    intro b hab
    have odd : ∀ (m : Nat) (v : α), Trie.sing (2 * m + 1) (2 * m + 1) v = .node none (Trie.sing m m v) .nil := fun m v => by
      rw [Trie.sing_odd, Trie.sing_fuel v m (2 * m) m (by omega) (Nat.le_refl _)]
    have even : ∀ (m : Nat) (v : α), Trie.sing (2 * m + 2) (2 * m + 2) v = .node none .nil (Trie.sing m m v) := fun m v => by
      rw [Trie.sing_even, Trie.sing_fuel v m (2 * m + 1) m (by omega) (Nat.le_refl _)]
    rcases three a with rfl | ⟨m, rfl⟩ | ⟨m, rfl⟩ <;> rcases three b with rfl | ⟨i, rfl⟩ | ⟨i, rfl⟩
    · exact absurd rfl hab
    · rw [Trie.sing_zero, odd, Trie.set_odd, Trie.set_zero, Trie.set_nil]
    · rw [Trie.sing_zero, even, Trie.set_even, Trie.set_zero, Trie.set_nil]
    · rw [Trie.sing_zero, odd, Trie.set_odd, Trie.set_zero, Trie.set_nil]
    · rw [odd, odd, Trie.set_odd, Trie.set_odd, ih m (by omega) i (by omega)]
    · rw [odd, even, Trie.set_odd, Trie.set_even, Trie.set_nil, Trie.set_nil]
    · rw [Trie.sing_zero, even, Trie.set_even, Trie.set_zero, Trie.set_nil]
    · rw [odd, even, Trie.set_odd, Trie.set_even, Trie.set_nil, Trie.set_nil]
    · rw [even, even, Trie.set_even, Trie.set_even, ih m (by omega) i (by omega)]

theorem Trie.set_comm (x y : α) : ∀ (t : Trie α) (a b : Nat), a ≠ b → (t.set a x).set b y = (t.set b y).set a x
  | .nil, a, b, h => by rw [Trie.set_nil, Trie.set_nil, Trie.sing_comm x y a b h]
  | .node o l r, a, b, h => by
    rcases three a with rfl | ⟨m, rfl⟩ | ⟨m, rfl⟩ <;> rcases three b with rfl | ⟨i, rfl⟩ | ⟨i, rfl⟩
    · exact absurd rfl h
    · rw [Trie.set_zero, Trie.set_odd, Trie.set_odd, Trie.set_zero]
    · rw [Trie.set_zero, Trie.set_even, Trie.set_even, Trie.set_zero]
    · rw [Trie.set_zero, Trie.set_odd, Trie.set_odd, Trie.set_zero]
    · rw [Trie.set_odd, Trie.set_odd, Trie.set_odd, Trie.set_odd, Trie.set_comm x y l m i (by omega)]
    · rw [Trie.set_odd, Trie.set_even, Trie.set_even, Trie.set_odd]
    · rw [Trie.set_even, Trie.set_zero, Trie.set_zero, Trie.set_even]
    · rw [Trie.set_even, Trie.set_odd, Trie.set_odd, Trie.set_even]
    · rw [Trie.set_even, Trie.set_even, Trie.set_even, Trie.set_even, Trie.set_comm x y r m i (by omega)]

theorem Trie.sing_over (x y : α) : ∀ (a f : Nat), a ≤ f → (Trie.sing f a x).set a y = Trie.sing f a y := by
  intro a
  induction a using Nat.strongRecOn with
  | _ a ih =>
    intro f hf
    rcases three a with rfl | ⟨m, rfl⟩ | ⟨m, rfl⟩
    · rw [Trie.sing_zero, Trie.sing_zero, Trie.set_zero]
    · obtain ⟨f, rfl⟩ : ∃ f', f = f' + 1 := ⟨f - 1, by omega⟩
      rw [Trie.sing_odd, Trie.sing_odd, Trie.set_odd, ih m (by omega) f (by omega)]
    · obtain ⟨f, rfl⟩ : ∃ f', f = f' + 1 := ⟨f - 1, by omega⟩
      rw [Trie.sing_even, Trie.sing_even, Trie.set_even, ih m (by omega) f (by omega)]

theorem Trie.set_over (x y : α) : ∀ (t : Trie α) (a : Nat), (t.set a x).set a y = t.set a y
  | .nil, a => by rw [Trie.set_nil, Trie.set_nil, Trie.sing_over x y a a (Nat.le_refl _)]
  | .node o l r, a => by
    rcases three a with rfl | ⟨m, rfl⟩ | ⟨m, rfl⟩
    · rw [Trie.set_zero, Trie.set_zero, Trie.set_zero]
    · rw [Trie.set_odd, Trie.set_odd, Trie.set_odd, Trie.set_over x y l m]
    · rw [Trie.set_even, Trie.set_even, Trie.set_even, Trie.set_over x y r m]

/-! ## are two alike below a bound? -/

def optSame (f : α → α → Bool) : Option α → Option α → Bool
  | none, none => true
  | some a, some b => f a b
  | _, _ => false

/-- nothing at the keys k with p + s * k below lim -/
def Trie.emptyBelow (lim : Nat) : Trie α → Nat → Nat → Bool
  | .nil, _, _ => true
  | .node v l r, p, s => (!decide (p < lim) || v.isNone) && l.emptyBelow lim (p + s) (2 * s) && r.emptyBelow lim (p + 2 * s) (2 * s)

def Trie.sameBelow (f : α → α → Bool) (lim : Nat) : Trie α → Trie α → Nat → Nat → Bool
  | .nil, u, p, s => u.emptyBelow lim p s
  | .node v l r, .nil, p, s => (Trie.node v l r).emptyBelow lim p s
  | .node v l r, .node v' l' r', p, s => (!decide (p < lim) || optSame f v v') && Trie.sameBelow f lim l l' (p + s) (2 * s) && Trie.sameBelow f lim r r' (p + 2 * s) (2 * s)

theorem arith_odd (p s m : Nat) : p + s * (2 * m + 1) = p + s + 2 * s * m := by
  rw [Nat.mul_add, Nat.mul_one, ← Nat.mul_assoc, Nat.mul_comm s 2]; omega
theorem arith_even (p s m : Nat) : p + s * (2 * m + 2) = p + 2 * s + 2 * s * m := by
  rw [Nat.mul_add, ← Nat.mul_assoc, Nat.mul_comm s 2]; omega

theorem Trie.emptyBelow_spec (lim : Nat) : ∀ (t : Trie α) (p s : Nat), t.emptyBelow lim p s = true → ∀ k, p + s * k < lim → t.get k = none
  | .nil, p, s, _, k, _ => rfl
  | .node v l r, p, s, h, k, hk => by
    simp only [Trie.emptyBelow, Bool.and_eq_true, Bool.or_eq_true, Bool.not_eq_true', decide_eq_false_iff_not] at h
    obtain ⟨⟨h1, h2⟩, h3⟩ := h
    rcases three k with rfl | ⟨m, rfl⟩ | ⟨m, rfl⟩
    · rw [Trie.get_zero]
      rcases h1 with h1 | h1
      · simp at hk; omega
      · simpa using h1
    · rw [Trie.get_odd]; rw [arith_odd] at hk; exact Trie.emptyBelow_spec lim l _ _ h2 m hk
    · rw [Trie.get_even]; rw [arith_even] at hk; exact Trie.emptyBelow_spec lim r _ _ h3 m hk

theorem Trie.emptyBelow_of (lim : Nat) : ∀ (t : Trie α) (p s : Nat), (∀ k, p + s * k < lim → t.get k = none) → t.emptyBelow lim p s = true
  | .nil, p, s, _ => rfl
  | .node v l r, p, s, h => by
    simp only [Trie.emptyBelow, Bool.and_eq_true, Bool.or_eq_true, Bool.not_eq_true', decide_eq_false_iff_not]
    refine ⟨⟨?_, ?_⟩, ?_⟩
    · by_cases hp : p < lim
      · right; have := h 0 (by simpa using hp); rw [Trie.get_zero] at this; simp [this]
      · exact .inl hp
    · exact Trie.emptyBelow_of lim l _ _ fun m hm => by have := h (2 * m + 1) (by rw [arith_odd]; exact hm); rwa [Trie.get_odd] at this
    · exact Trie.emptyBelow_of lim r _ _ fun m hm => by have := h (2 * m + 2) (by rw [arith_even]; exact hm); rwa [Trie.get_even] at this

theorem Trie.sameBelow_spec {f : α → α → Bool} (hf : ∀ a b, f a b = true → a = b) (lim : Nat) : ∀ (t u : Trie α) (p s : Nat), Trie.sameBelow f lim t u p s = true → ∀ k, p + s * k < lim → t.get k = u.get k
  | .nil, u, p, s, h, k, hk => by rw [Trie.get_nil, Trie.emptyBelow_spec lim u p s (by simpa [Trie.sameBelow] using h) k hk]
  | .node v l r, .nil, p, s, h, k, hk => by rw [Trie.get_nil, Trie.emptyBelow_spec lim _ p s (by simpa [Trie.sameBelow] using h) k hk]
  | .node v l r, .node v' l' r', p, s, h, k, hk => by
    simp only [Trie.sameBelow, Bool.and_eq_true, Bool.or_eq_true, Bool.not_eq_true', decide_eq_false_iff_not] at h
    obtain ⟨⟨h1, h2⟩, h3⟩ := h
    rcases three k with rfl | ⟨m, rfl⟩ | ⟨m, rfl⟩
    · rw [Trie.get_zero, Trie.get_zero]
      rcases h1 with h1 | h1
      · simp at hk; omega
      · cases v <;> cases v' <;> simp [optSame] at h1 <;> first | rfl | (rw [hf _ _ h1])
    · rw [Trie.get_odd, Trie.get_odd]; rw [arith_odd] at hk; exact Trie.sameBelow_spec hf lim l l' _ _ h2 m hk
    · rw [Trie.get_even, Trie.get_even]; rw [arith_even] at hk; exact Trie.sameBelow_spec hf lim r r' _ _ h3 m hk

theorem Trie.sameBelow_of {f : α → α → Bool} (hf : ∀ a, f a a = true) (lim : Nat) : ∀ (t u : Trie α) (p s : Nat), (∀ k, p + s * k < lim → t.get k = u.get k) → Trie.sameBelow f lim t u p s = true
  | .nil, u, p, s, h => by
    simp only [Trie.sameBelow]; exact Trie.emptyBelow_of lim u p s fun k hk => by rw [← h k hk, Trie.get_nil]
  | .node v l r, .nil, p, s, h => by
    simp only [Trie.sameBelow]; exact Trie.emptyBelow_of lim _ p s fun k hk => by rw [h k hk, Trie.get_nil]
  | .node v l r, .node v' l' r', p, s, h => by
    simp only [Trie.sameBelow, Bool.and_eq_true, Bool.or_eq_true, Bool.not_eq_true', decide_eq_false_iff_not]
    refine ⟨⟨?_, ?_⟩, ?_⟩
    · by_cases hp : p < lim
      · right
        have := h 0 (by simpa using hp)
        rw [Trie.get_zero, Trie.get_zero] at this; subst this
        cases v <;> simp [optSame, hf]
      · exact .inl hp
    · exact Trie.sameBelow_of hf lim l l' _ _ fun m hm => by have := h (2 * m + 1) (by rw [arith_odd]; exact hm); rwa [Trie.get_odd, Trie.get_odd] at this
    · exact Trie.sameBelow_of hf lim r r' _ _ fun m hm => by have := h (2 * m + 2) (by rw [arith_even]; exact hm); rwa [Trie.get_even, Trie.get_even] at this
end
end Go.Lift
