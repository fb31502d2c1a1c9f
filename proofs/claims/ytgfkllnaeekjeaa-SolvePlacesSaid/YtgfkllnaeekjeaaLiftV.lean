/-
  THE LIFT, PART V: canonical memories; rows forgotten at a loop's head; a call told of a small memory, in every memory; what hints ask, paid.
-/
import Derived.Test.YtgfkllnaeekjeaaLiftT
namespace Go.Lift
noncomputable section
open Go.RowKit
set_option linter.unusedVariables false
set_option linter.unusedSimpArgs false

/-! ## memories written out -/

def AHeap.rows (n : Nat) (l : List (Nat × ABlk)) : AHeap := l.foldl (fun h p => h.set p.1 p.2) ⟨n, .nil⟩

theorem AHeap.foldl_get (l : List (Nat × ABlk)) : ∀ (h : AHeap) (i : Nat) (b : ABlk), (l.foldl (fun h p => h.set p.1 p.2) h).get i = some b → h.get i = some b ∨ (i, b) ∈ l := by
  induction l with
  | nil => intro h i b k; exact .inl k
  | cons p r ih =>
    intro h i b k
    rcases ih _ i b k with k | k
    · rw [AHeap.get_set] at k
      split at k
      · rename_i e; simp only [Option.some.injEq] at k; exact .inr (by rw [← e, ← k]; exact List.mem_cons_self ..)
      · exact .inl k
    · exact .inr (by simp [k])

theorem AHeap.foldl_in (l : List (Nat × ABlk)) : ∀ (h : AHeap) (i : Nat), (In h i ∨ i ∈ l.map (·.1)) → In (l.foldl (fun h p => h.set p.1 p.2) h) i := by
  induction l with
  | nil => intro h i k; rcases k with k | k; exact k; simp at k
  | cons p r ih =>
    intro h i k
    refine ih _ i ?_
    by_cases e : p.1 = i
    · left; unfold In; rw [AHeap.get_set, if_pos e]; rfl
    · rcases k with k | k
      · left; unfold In; rw [AHeap.get_set, if_neg e]; exact k
      · simp only [List.map_cons, List.mem_cons] at k
        rcases k with k | k
        · exact absurd k.symm e
        · exact .inr k

theorem AHeap.foldl_next (l : List (Nat × ABlk)) : ∀ (h : AHeap), (l.foldl (fun h p => h.set p.1 p.2) h).next = h.next := by
  induction l with
  | nil => intro h; rfl
  | cons p r ih => intro h; rw [List.foldl_cons, ih]; rfl

@[simp] theorem AHeap.rows_next (n : Nat) (l : List (Nat × ABlk)) : (AHeap.rows n l).next = n := AHeap.foldl_next _ _
theorem AHeap.rows_get {n : Nat} {l : List (Nat × ABlk)} {i : Nat} {b : ABlk} (h : (AHeap.rows n l).get i = some b) : (i, b) ∈ l := by
  rcases AHeap.foldl_get l _ i b h with k | k
  · cases k
  · exact k
theorem AHeap.rows_in {n : Nat} {l : List (Nat × ABlk)} {i : Nat} (h : i ∈ l.map (·.1)) : In (AHeap.rows n l) i := AHeap.foldl_in l _ i (.inr h)
theorem AHeap.rows_in_of {n : Nat} {l : List (Nat × ABlk)} {i : Nat} (h : In (AHeap.rows n l) i) : i ∈ l.map (·.1) := by
  obtain ⟨b, hb⟩ := Option.isSome_iff_exists.1 h
  exact List.mem_map.2 ⟨_, AHeap.rows_get hb, rfl⟩

/-! ## plain rows -/

mutual
theorem AVal.ren_id : ∀ (v : AVal), v.ren (fun i => i) = v
  | .ptr (some a) => rfl
  | .slice (some a) _ _ => rfl
  | .func fn f c => by simp only [AVal.ren, AVal.rens_id]
  | .iface t v => by simp only [AVal.ren, AVal.ren_id v]
  | .agg cs => by simp only [AVal.ren, AVal.rens_id]
  | .tuple vs => by simp only [AVal.ren, AVal.rens_id]
  | .undef => rfl
  | .bool _ => rfl
  | .int _ _ => rfl
  | .str _ => rfl
  | .ptr none => rfl
  | .slice none _ _ => rfl
  | .nilFunc => rfl
  | .nilIface => rfl
theorem AVal.rens_id : ∀ (l : List AVal), AVal.rens (fun i => i) l = l
  | [] => rfl
  | a :: l => by simp only [AVal.rens, AVal.ren_id a, AVal.rens_id l]
end

theorem ABlk.ren_id (b : ABlk) : b.ren (fun i => i) = b := by
  unfold ABlk.ren
  have : b.elems.map (AVal.ren fun i => i) = b.elems := by
    conv => rhs; rw [← List.map_id b.elems]
    exact List.map_congr_left fun e he => AVal.ren_id e
  rw [this]

/-- no row is named in it -/
def BareB (b : ABlk) : Prop := ∀ e ∈ b.elems, Bare e

theorem BareB.ren {b : ABlk} (h : BareB b) (r : Nat → Nat) : b.ren r = b := by
  unfold ABlk.ren
  have : b.elems.map (AVal.ren r) = b.elems := by
    conv => rhs; rw [← List.map_id b.elems]
    exact List.map_congr_left fun e he => (h e he).1 r
  rw [this]

theorem BareB.clo {b : ABlk} (h : BareB b) (D : Nat → Prop) : ∀ e ∈ b.elems, Clo D e := fun e he => Clo.mono (fun _ k => k.elim) (h e he).2

theorem Bare.ints {α : Type} (l : List α) (k : IntKind) (f : α → Int) : ∀ e ∈ l.map (fun x => AVal.int k (f x)), Bare e := by
  intro e he
  obtain ⟨x, _, rfl⟩ := List.mem_map.1 he
  exact Bare.int k _

theorem Bare.clo {v : AVal} (h : Bare v) (D : Nat → Prop) : Clo D v := Clo.mono (fun _ k => k.elim) h.2

theorem All_nil : All [] ↔ True := ⟨fun _ => trivial, fun _ => All.nil⟩
theorem All_cons {p : Prop} {l : List Prop} : All (p :: l) ↔ p ∧ All l := ⟨fun h => ⟨h.head, h.tail⟩, fun h => All.cons h.1 h.2⟩

/-- rows among which these are -/
def Ids (l : List Nat) : Nat → Prop := fun i => i ∈ l

/-- at a loop's head: rows are forgotten -/
theorem Ent.drop {base n : Nat} {F : Facts} {h : AHeap} {K : Nat} {l : List (Nat × ABlk)} (hl : l.map (fun p => h.get p.1) = l.map (fun p => some p.2)) (hK : l.all (fun p => Nat.blt p.1 K) = true)
    (hb : (List.range base).all (fun i => (l.map (·.1)).contains i) = true) (hn : F.all (fun p => Nat.blt p.1 n) = true) (hF : All (F.map fun p => Clo (Ids (l.map (·.1))) p.2))
    (hc : All (l.map fun p => ∀ e ∈ p.2.elems, Clo (Ids (l.map (·.1))) e)) : Ent base n F h F (AHeap.rows K l) := by
  have hget : ∀ i b, (AHeap.rows K l).get i = some b → i < K ∧ h.get i = some b := by
    intro i b k
    have hm := AHeap.rows_get k
    refine ⟨Nat.blt_eq.mp (List.all_eq_true.1 hK _ hm), ?_⟩
    obtain ⟨j, hj, e⟩ := List.mem_iff_getElem.1 hm
    have h1 := congrArg (fun (x : List (Option ABlk)) => x[j]?) hl
    simp only [List.getElem?_map, List.getElem?_eq_getElem hj, Option.map_some, e, Option.some.injEq] at h1
    exact h1
  have hmono : ∀ {v : AVal}, Clo (Ids (l.map (·.1))) v → Clo (In (AHeap.rows K l)) v := Clo.mono fun i hi => AHeap.rows_in hi
  refine Ent.ren (r := fun i => i) ⟨fun i b k => ⟨by rw [AHeap.rows_next]; exact (hget i b k).1, by rw [ABlk.ren_id]; exact (hget i b k).2⟩, fun i j _ _ e => e, ?_⟩ ?_ ?_ ?_ ?_
  · intro i b k e he
    have hm := AHeap.rows_get k
    exact hmono (hc _ (List.mem_map.2 ⟨_, hm, rfl⟩) e he)
  · intro t v hv
    have hm : (t, v) ∈ F := by
      clear hn hF
      induction F with
      | nil => cases hv
      | cons p r ih =>
        obtain ⟨k, u⟩ := p
        rw [lookF_cons] at hv
        split at hv
        · rename_i e; simp only [Option.some.injEq] at hv; subst e; subst hv; simp
        · exact List.mem_cons_of_mem _ (ih hv)
    exact ⟨Nat.blt_eq.mp (List.all_eq_true.1 hn _ hm), by rw [AVal.ren_id]; exact hv, hmono (hF _ (List.mem_map.2 ⟨_, hm, rfl⟩))⟩
  · intro i hi _
    exact AHeap.rows_in (by simpa using List.all_eq_true.1 hb i (List.mem_range.2 hi))
  · intro i _ _; rfl
  · intro i _ k; exact k

/-- behind a call: rows are forgotten, or get other numbers -/
theorem FDoes.clean {P : Program} {f : FuncId} {args : List AVal} {h h' : AHeap} {v : AVal} (k : FDoes P f args h v h') (r : Nat → Nat) (v2 : AVal) (K : Nat) (l : List (Nat × ABlk))
    (hl : l.map (fun p => h'.get (r p.1)) = l.map (fun p => some (p.2.ren r))) (hv : v = v2.ren r) (hK : l.all (fun p => Nat.blt p.1 K) = true) (hr : ((l.map (·.1)).map r).Nodup)
    (hb : (List.range h.next).all (fun i => (l.map (·.1)).contains i && Nat.beq (r i) i) = true) (hnew : l.all (fun p => Nat.blt p.1 h.next || Nat.ble h.next (r p.1)) = true) (hn : Nat.ble h.next K = true)
    (hvc : Clo (Ids (l.map (·.1))) v2) (hc : All (l.map fun p => ∀ e ∈ p.2.elems, Clo (Ids (l.map (·.1))) e)) : FDoes P f args h v2 (AHeap.rows K l) := by
  have hget : ∀ i b, (AHeap.rows K l).get i = some b → i < K ∧ h'.get (r i) = some (b.ren r) := by
    intro i b k
    have hm := AHeap.rows_get k
    refine ⟨Nat.blt_eq.mp (List.all_eq_true.1 hK _ hm), ?_⟩
    obtain ⟨j, hj, e⟩ := List.mem_iff_getElem.1 hm
    have h1 := congrArg (fun (x : List (Option ABlk)) => x[j]?) hl
    simp only [List.getElem?_map, List.getElem?_eq_getElem hj, Option.map_some, e, Option.some.injEq] at h1
    exact h1
  have hmono : ∀ {v : AVal}, Clo (Ids (l.map (·.1))) v → Clo (In (AHeap.rows K l)) v := Clo.mono fun i hi => AHeap.rows_in hi
  refine k.ren (r := r) ⟨fun i b k => ⟨by rw [AHeap.rows_next]; exact (hget i b k).1, (hget i b k).2⟩, ?_, ?_⟩ hv (hmono hvc) ?_ ?_ ?_ (by rw [AHeap.rows_next]; exact Nat.le_of_ble_eq_true hn)
  · intro i j hi hj e
    have hi := AHeap.rows_in_of hi
    have hj := AHeap.rows_in_of hj
    obtain ⟨a, ha, rfl⟩ := List.mem_iff_getElem.1 hi
    obtain ⟨b, hb', rfl⟩ := List.mem_iff_getElem.1 hj
    have h1 : ((l.map (·.1)).map r)[a]'(by simpa using ha) = ((l.map (·.1)).map r)[b]'(by simpa using hb') := by simpa using e
    have := (List.getElem_inj hr).1 h1
    subst this; rfl
  · intro i b k e he
    have hm := AHeap.rows_get k
    exact hmono (hc _ (List.mem_map.2 ⟨_, hm, rfl⟩) e he)
  · intro i hi _
    have := List.all_eq_true.1 hb i (List.mem_range.2 hi)
    simp only [Bool.and_eq_true] at this
    exact AHeap.rows_in (by simpa using this.1)
  · intro i hi _
    have := List.all_eq_true.1 hb i (List.mem_range.2 hi)
    simp only [Bool.and_eq_true] at this
    exact Nat.eq_of_beq_eq_true this.2
  · intro i hi hlt
    have hi := AHeap.rows_in_of hi
    obtain ⟨p, hm, rfl⟩ := List.mem_map.1 hi
    have := List.all_eq_true.1 hnew p hm
    simp only [Bool.or_eq_true] at this
    rcases this with h1 | h1
    · exact Nat.blt_eq.mp h1
    · have := Nat.le_of_ble_eq_true h1; omega

theorem FDoes.to {P : Program} {f : FuncId} {args : List AVal} {h h' h2 : AHeap} {v : AVal} (k : FDoes P f args h v h') (e : h' = h2) : FDoes P f args h v h2 := e ▸ k

/-! ## a call in every memory -/

/-- rows 0, 1, .. -/
def AHeap.ofFrom : Nat → List ABlk → AHeap → AHeap
  | _, [], h => h
  | i, b :: r, h => AHeap.ofFrom (i + 1) r (h.set i b)
def AHeap.of (l : List ABlk) : AHeap := AHeap.ofFrom 0 l ⟨l.length, .nil⟩

theorem AHeap.ofFrom_get : ∀ (l : List ABlk) (i : Nat) (h : AHeap) (j : Nat), (AHeap.ofFrom i l h).get j = if i ≤ j ∧ j < i + l.length then l[j - i]? else h.get j
  | [], i, h, j => by simp only [AHeap.ofFrom, List.length_nil]; rw [if_neg (by omega)]
  | b :: r, i, h, j => by
    simp only [AHeap.ofFrom, AHeap.ofFrom_get r, List.length_cons, AHeap.get_set]
    by_cases e : i = j
    · subst e
      rw [if_neg (by omega), if_pos rfl, if_pos (by omega)]; simp
    · by_cases c : i + 1 ≤ j ∧ j < i + 1 + r.length
      · rw [if_pos c, if_pos (by omega), show j - i = (j - (i + 1)) + 1 by omega]; simp
      · rw [if_neg c, if_neg e, if_neg (by omega)]
theorem AHeap.ofFrom_next : ∀ (l : List ABlk) (i : Nat) (h : AHeap), (AHeap.ofFrom i l h).next = h.next
  | [], i, h => rfl
  | b :: r, i, h => by simp only [AHeap.ofFrom, AHeap.ofFrom_next r]; rfl
@[simp] theorem AHeap.of_next (l : List ABlk) : (AHeap.of l).next = l.length := AHeap.ofFrom_next _ _ _
theorem AHeap.of_get (l : List ABlk) (j : Nat) : (AHeap.of l).get j = l[j]? := by
  unfold AHeap.of
  rw [AHeap.ofFrom_get]
  split
  · simp
  · rw [List.getElem?_eq_none (by omega)]; rfl
theorem AHeap.of_in {l : List ABlk} {j : Nat} : In (AHeap.of l) j ↔ j < l.length := by
  unfold In; rw [AHeap.of_get]; simp

/-- where the rows of a small memory lie in a great one -/
def toBig (ids : List Nat) (n : Nat) (i : Nat) : Nat :=
  match ids[i]? with
  | some j => j
  | none => n + (i - ids.length)

/-- the great memory behind a call: the rows 'ids' and new ones -/
def AHeap.updFrom : List Nat → List ABlk → AHeap → AHeap
  | j :: ids, b :: r, h => AHeap.updFrom ids r (h.set j b)
  | [], r, h => AHeap.ofFrom h.next r { h with next := h.next + r.length }
  | _ :: _, [], h => h
def AHeap.upd (h : AHeap) (ids : List Nat) (l : List ABlk) : AHeap := AHeap.updFrom ids l h

theorem AHeap.updFrom_next : ∀ (ids : List Nat) (l : List ABlk) (h : AHeap), ids.length ≤ l.length → (AHeap.updFrom ids l h).next = h.next + (l.length - ids.length)
  | [], l, h, _ => by simp [AHeap.updFrom, AHeap.ofFrom_next]
  | j :: ids, [], h, k => by simp at k
  | j :: ids, b :: r, h, k => by
    simp only [AHeap.updFrom]
    rw [AHeap.updFrom_next ids r _ (by simpa using k)]
    simp

theorem AHeap.updFrom_out : ∀ (ids : List Nat) (l : List ABlk) (h : AHeap) (j : Nat), ids.length ≤ l.length → j < h.next → j ∉ ids → (AHeap.updFrom ids l h).get j = h.get j
  | [], l, h, j, _, hj, _ => by simp only [AHeap.updFrom]; rw [AHeap.ofFrom_get, if_neg (by omega)]; rfl
  | i :: ids, [], h, j, k, _, _ => by simp at k
  | i :: ids, b :: r, h, j, k, hj, hm => by
    simp only [List.mem_cons, not_or] at hm
    simp only [AHeap.updFrom]
    rw [AHeap.updFrom_out ids r (h.set i b) j (by simpa using k) hj hm.2, AHeap.get_set_ne _ _ (Ne.symm hm.1)]

theorem AHeap.updFrom_at : ∀ (ids : List Nat) (l : List ABlk) (h : AHeap) (i : Nat), ids.length ≤ l.length → ids.Nodup → (∀ j ∈ ids, j < h.next) → i < l.length → (AHeap.updFrom ids l h).get (toBig ids h.next i) = l[i]?
  | [], l, h, i, _, _, _, hi => by
    simp only [AHeap.updFrom, toBig, List.getElem?_nil, List.length_nil, Nat.sub_zero]
    rw [AHeap.ofFrom_get, if_pos (by omega)]; congr 1; omega
  | j :: ids, [], h, i, k, _, _, _ => by simp at k
  | j :: ids, b :: r, h, i, k, hnd, hlt, hi => by
    simp only [List.nodup_cons] at hnd
    simp only [AHeap.updFrom]
    cases i with
    | zero =>
      simp only [toBig, List.getElem?_cons_zero]
      rw [AHeap.updFrom_out ids r (h.set j b) j (by simpa using k) (hlt j (by simp)) hnd.1, AHeap.get_set_self]
    | succ i =>
      have e : toBig (j :: ids) h.next (i + 1) = toBig ids (h.set j b).next i := by
        simp only [toBig, List.getElem?_cons_succ, List.length_cons, AHeap.next_set]
        cases ids[i]? with
        | some x => rfl
        | none => simp only; omega
      rw [e, AHeap.updFrom_at ids r (h.set j b) i (by simpa using k) hnd.2 (fun x hx => hlt x (by simp [hx])) (by simpa using hi)]
      simp

theorem FDoes.up {P : Program} {f : FuncId} {args : List AVal} {v : AVal} {l l' : List ABlk} (k : FDoes P f args (AHeap.of l) v (AHeap.of l')) (hb : ∀ b ∈ l, BareB b) (hb' : ∀ b ∈ l', BareB b) (hll : l.length ≤ l'.length) (ha : Clos (fun i => i < l.length) args)
    {H H' : AHeap} (ids : List Nat) (hn : ids.Nodup) (hlt : ∀ j ∈ ids, j < H.next) (hl : ids.map H.get = l.map some) (hnext : H'.next = H.next + (l'.length - l.length)) (hat : ∀ i, i < l'.length → H'.get (toBig ids H.next i) = l'[i]?)
    (hout : ∀ j, j < H.next → j ∉ ids → H'.get j = H.get j) : FDoes P f (args.map (AVal.ren (toBig ids H.next))) H (v.ren (toBig ids H.next)) H' := by
  have hlen : ids.length = l.length := by have := congrArg List.length hl; simpa using this
  have hbig : ∀ i (hi : i < ids.length), toBig ids H.next i = ids[i] := fun i hi => by simp [toBig, List.getElem?_eq_getElem hi]
  refine k.frame (r := toBig ids H.next) ⟨?_, ?_, ?_⟩ ?_ ?_ ?_ ?_ ?_
  · intro i b hg
    rw [AHeap.of_get] at hg
    have hi := (List.getElem?_eq_some_iff.1 hg).1
    refine ⟨by rw [AHeap.of_next]; exact hi, ?_⟩
    rw [(hb b (List.mem_of_getElem? hg)).ren, hbig i (by omega)]
    have h1 := congrArg (fun (x : List (Option ABlk)) => x[i]?) hl
    simp only [List.getElem?_map, List.getElem?_eq_getElem (show i < ids.length by omega), Option.map_some, hg, Option.some.injEq] at h1
    exact h1
  · intro i j hi hj e
    rw [AHeap.of_in] at hi hj
    rw [hbig i (by omega), hbig j (by omega)] at e
    exact (List.getElem_inj hn).1 e
  · intro i b hg e he
    rw [AHeap.of_get] at hg
    exact (hb b (List.mem_of_getElem? hg) e he).clo _
  · exact Clos.mono (fun i hi => AHeap.of_in.2 hi) ha
  · intro i hi
    rw [AHeap.of_next] at hi
    simp only [toBig, List.getElem?_eq_none (show ids.length ≤ i by omega), AHeap.of_next, hlen]
  · intro i b hg _
    rw [AHeap.of_get] at hg
    rw [(hb' b (List.mem_of_getElem? hg)).ren, hat i (List.getElem?_eq_some_iff.1 hg).1, hg]
  · rw [hnext]; simp
  · intro j hj hne
    refine hout j hj fun hm => ?_
    obtain ⟨i, hi, e⟩ := List.mem_iff_getElem.1 hm
    exact hne i (AHeap.of_in.2 (by omega)) (by rw [hbig i hi]; exact e)

/-- nothing is written and nothing comes -/
theorem FDoes.upR {P : Program} {f : FuncId} {args : List AVal} {v : AVal} {l : List ABlk} (k : FDoes P f args (AHeap.of l) v (AHeap.of l)) (hb : ∀ b ∈ l, BareB b) (ha : Clos (fun i => i < l.length) args)
    {H : AHeap} (ids : List Nat) (hn : ids.Nodup) (hlt : ∀ j ∈ ids, j < H.next) (hl : ids.map H.get = l.map some) : FDoes P f (args.map (AVal.ren (toBig ids H.next))) H (v.ren (toBig ids H.next)) H := by
  have hlen : ids.length = l.length := by have := congrArg List.length hl; simpa using this
  refine k.up hb hb (Nat.le_refl _) ha ids hn hlt hl (by simp) (fun i hi => ?_) fun _ _ _ => rfl
  have h1 := congrArg (fun (x : List (Option ABlk)) => x[i]?) hl
  simp only [List.getElem?_map, List.getElem?_eq_getElem (show i < ids.length by omega), List.getElem?_eq_getElem hi, Option.map_some, Option.some.injEq] at h1
  simp only [toBig, List.getElem?_eq_getElem (show i < ids.length by omega), h1, List.getElem?_eq_getElem hi]

/-- rows are written, and new ones come -/
theorem FDoes.upW {P : Program} {f : FuncId} {args : List AVal} {v : AVal} {l l' : List ABlk} (k : FDoes P f args (AHeap.of l) v (AHeap.of l')) (hb : ∀ b ∈ l, BareB b) (hb' : ∀ b ∈ l', BareB b) (hll : l.length ≤ l'.length) (ha : Clos (fun i => i < l.length) args)
    {H : AHeap} (ids : List Nat) (hn : ids.Nodup) (hlt : ∀ j ∈ ids, j < H.next) (hl : ids.map H.get = l.map some) : FDoes P f (args.map (AVal.ren (toBig ids H.next))) H (v.ren (toBig ids H.next)) (H.upd ids l') := by
  have hlen : ids.length = l.length := by have := congrArg List.length hl; simpa using this
  refine k.up hb hb' hll ha ids hn hlt hl ?_ ?_ ?_
  · rw [← hlen]; exact AHeap.updFrom_next ids l' H (by omega)
  · intro i hi; exact AHeap.updFrom_at ids l' H i (by omega) hn hlt hi
  · intro j hj hm; exact AHeap.updFrom_out ids l' H j (by omega) hj hm

/-- only new rows come -/
theorem FDoes.upN {P : Program} {f : FuncId} {args : List AVal} {v : AVal} {l l2 : List ABlk} (k : FDoes P f args (AHeap.of l) v (AHeap.of (l ++ l2))) (hb : ∀ b ∈ l, BareB b) (hb' : ∀ b ∈ l2, BareB b) (ha : Clos (fun i => i < l.length) args)
    {H : AHeap} (ids : List Nat) (hn : ids.Nodup) (hlt : ∀ j ∈ ids, j < H.next) (hl : ids.map H.get = l.map some) : FDoes P f (args.map (AVal.ren (toBig ids H.next))) H (v.ren (toBig ids H.next)) (H.upd [] l2) := by
  have hlen : ids.length = l.length := by have := congrArg List.length hl; simpa using this
  refine k.up hb (fun b hm => (List.mem_append.1 hm).elim (hb b) (hb' b)) (by simp) ha ids hn hlt hl ?_ ?_ ?_
  · show (AHeap.updFrom [] l2 H).next = _
    rw [AHeap.updFrom_next [] l2 H (by simp)]; simp
  · intro i hi
    show (AHeap.updFrom [] l2 H).get _ = _
    by_cases c : i < ids.length
    · have h1 := congrArg (fun (x : List (Option ABlk)) => x[i]?) hl
      simp only [List.getElem?_map, List.getElem?_eq_getElem c, List.getElem?_eq_getElem (show i < l.length by omega), Option.map_some, Option.some.injEq] at h1
      simp only [toBig, List.getElem?_eq_getElem c]
      rw [AHeap.updFrom_out [] l2 H _ (by simp) (hlt _ (List.getElem_mem c)) (by simp), h1, List.getElem?_append_left (by omega), List.getElem?_eq_getElem (show i < l.length by omega)]
    · have e : toBig ids H.next i = toBig [] H.next (i - ids.length) := by simp [toBig, List.getElem?_eq_none (show ids.length ≤ i by omega)]
      rw [List.length_append] at hi
      rw [e, AHeap.updFrom_at [] l2 H (i - ids.length) (by simp) (by simp) (by simp) (by omega), List.getElem?_append_right (by omega), hlen]
  · intro j hj hm
    exact AHeap.updFrom_out [] l2 H j (by simp) hj (by simp)

/-! ## from the end of a path to a call in every memory -/

def idxd : Nat → List ABlk → List (Nat × ABlk)
  | _, [] => []
  | i, b :: r => (i, b) :: idxd (i + 1) r

theorem AHeap.ofFrom_eq : ∀ (l : List ABlk) (i : Nat) (h : AHeap), AHeap.ofFrom i l h = (idxd i l).foldl (fun h p => h.set p.1 p.2) h
  | [], i, h => rfl
  | b :: r, i, h => by simp only [AHeap.ofFrom, idxd, List.foldl_cons]; exact AHeap.ofFrom_eq r _ _
theorem AHeap.of_rows (l : List ABlk) : AHeap.of l = AHeap.rows l.length (idxd 0 l) := AHeap.ofFrom_eq _ _ _
theorem idxd_fst : ∀ (l : List ABlk) (i : Nat), (idxd i l).map (·.1) = List.range' i l.length
  | [], i => rfl
  | b :: r, i => by simp only [idxd, List.map_cons, idxd_fst r, List.length_cons, List.range'_succ]
theorem idxd_snd : ∀ (l : List ABlk) (i : Nat), (idxd i l).map (·.2) = l
  | [], i => rfl
  | b :: r, i => by simp only [idxd, List.map_cons, idxd_snd r]

theorem List.Nodup.map_on' {f : Nat → Nat} {n : Nat} (h : ∀ a ∈ List.range n, ∀ b ∈ List.range n, f a = f b → a = b) : ((List.range n).map f).Nodup := by
  rw [List.nodup_iff_pairwise_ne, List.pairwise_map]
  refine List.Pairwise.imp_of_mem ?_ (List.nodup_range (n := n))
  intro a b ha hb hne e
  exact hne (h a ha b hb e)

/-- where the rows lie at a path's end: the old ones where they lay, the new ones at 'js' -/
def finR (k : Nat) (js : List Nat) (i : Nat) : Nat := if i < k then i else (js[i - k]?).getD 0

theorem FDoes.fin {P : Program} {f : FuncId} {args : List AVal} {h' : AHeap} {v : AVal} {l : List ABlk} (k : FDoes P f args (AHeap.of l) v h') (js : List Nat) (l' : List ABlk) (v2 : AVal) (hb' : ∀ b ∈ l', BareB b)
    (hlen : l'.length = l.length + js.length) (hget : (List.range l'.length).map (fun i => h'.get (finR l.length js i)) = l'.map some) (hv : v = v2.ren (finR l.length js)) (hvc : Clo (fun i => i < l'.length) v2)
    (hjs : js.all (fun j => Nat.ble l.length j) = true) (hnd : js.Nodup) : FDoes P f args (AHeap.of l) v2 (AHeap.of l') := by
  have hfst : (idxd 0 l').map (·.1) = List.range l'.length := by rw [idxd_fst, List.range_eq_range']
  have hge : ∀ j ∈ js, l.length ≤ j := fun j hj => Nat.le_of_ble_eq_true (List.all_eq_true.1 hjs j hj)
  have hhi : ∀ i, l.length ≤ i → i < l'.length → ∃ (h : i - l.length < js.length), finR l.length js i = js[i - l.length] := by
    intro i h1 h2
    have h3 : i - l.length < js.length := by omega
    exact ⟨h3, by simp only [finR, if_neg (show ¬ i < l.length by omega), List.getElem?_eq_getElem h3, Option.getD_some]⟩
  rw [AHeap.of_rows l']
  refine k.clean (finR l.length js) v2 l'.length (idxd 0 l') ?_ hv ?_ ?_ ?_ ?_ (Nat.ble_eq.mpr ?_) ?_ ?_
  · have h1 : (idxd 0 l').map (fun p => h'.get (finR l.length js p.1)) = ((idxd 0 l').map (·.1)).map (fun i => h'.get (finR l.length js i)) := by rw [List.map_map]; rfl
    have h2 : (idxd 0 l').map (fun p => some (p.2.ren (finR l.length js))) = ((idxd 0 l').map (·.2)).map (fun b => some (b.ren (finR l.length js))) := by rw [List.map_map]; rfl
    rw [h1, h2, hfst, idxd_snd, hget]
    exact List.map_congr_left fun b hm => by rw [(hb' b hm).ren]
  · rw [List.all_eq_true]
    intro p hp
    have : p.1 ∈ (idxd 0 l').map (·.1) := List.mem_map.2 ⟨p, hp, rfl⟩
    rw [hfst] at this
    exact Nat.blt_eq.mpr (List.mem_range.1 this)
  · rw [hfst]
    refine List.Nodup.map_on' ?_
    intro a ha b hb e
    have ha := List.mem_range.1 ha
    have hb := List.mem_range.1 hb
    by_cases c1 : a < l.length <;> by_cases c2 : b < l.length
    · simpa [finR, c1, c2] using e
    · obtain ⟨h3, h4⟩ := hhi b (by omega) hb
      rw [h4, show finR l.length js a = a by simp [finR, c1]] at e
      have := hge _ (List.getElem_mem h3); omega
    · obtain ⟨h3, h4⟩ := hhi a (by omega) ha
      rw [h4, show finR l.length js b = b by simp [finR, c2]] at e
      have := hge _ (List.getElem_mem h3); omega
    · obtain ⟨h3, h4⟩ := hhi a (by omega) ha
      obtain ⟨h5, h6⟩ := hhi b (by omega) hb
      rw [h4, h6] at e
      have := (List.getElem_inj hnd).1 e; omega
  · rw [List.all_eq_true, AHeap.of_next]
    intro i hi
    have hi := List.mem_range.1 hi
    rw [hfst, Bool.and_eq_true]
    exact ⟨by simp; omega, beq_true (by simp [finR, hi])⟩
  · rw [List.all_eq_true, AHeap.of_next]
    intro p hp
    have : p.1 ∈ (idxd 0 l').map (·.1) := List.mem_map.2 ⟨p, hp, rfl⟩
    rw [hfst] at this
    have hlt := List.mem_range.1 this
    rw [Bool.or_eq_true]
    by_cases c : p.1 < l.length
    · exact .inl (Nat.blt_eq.mpr c)
    · obtain ⟨h3, h4⟩ := hhi p.1 (by omega) hlt
      exact .inr (Nat.ble_eq.mpr (by rw [h4]; exact hge _ (List.getElem_mem h3)))
  · rw [AHeap.of_next]; omega
  · rw [hfst]; exact Clo.mono (fun i hi => List.mem_range.2 hi) hvc
  · intro p hp
    obtain ⟨q, hq, rfl⟩ := List.mem_map.1 hp
    intro e he
    exact (hb' q.2 (by have : q.2 ∈ (idxd 0 l').map (·.2) := List.mem_map.2 ⟨q, hq, rfl⟩; rwa [idxd_snd] at this) e he).clo _

/-- nothing is written, and a plain value comes: in every memory -/
theorem FDoes.pure {P : Program} {f : FuncId} {args : List AVal} {h' : AHeap} {v : AVal} {l : List ABlk} (k : FDoes P f args (AHeap.of l) v h') (hb : ∀ b ∈ l, BareB b) (hget : (List.range l.length).map h'.get = l.map some) (hv : Bare v)
    (ha : Clos (fun i => i < l.length) args) {H : AHeap} (ids : List Nat) (hn : ids.Nodup) (hlt : ∀ j ∈ ids, j < H.next) (hl : ids.map H.get = l.map some) : FDoes P f (args.map (AVal.ren (toBig ids H.next))) H v H := by
  have k1 := k.fin [] l v hb (by simp) (by
    rw [← hget]
    exact List.map_congr_left fun i hi => by rw [show finR l.length [] i = i by simp [finR, List.mem_range.1 hi]]) (hv.1 _).symm (hv.clo _) rfl (by simp)
  have k2 := k1.upR hb ha ids hn hlt hl
  rwa [hv.1] at k2

/-- nothing is written, and one new row comes: in every memory -/
theorem FDoes.new1 {P : Program} {f : FuncId} {args : List AVal} {h' : AHeap} {j es n c ver : Nat} {l : List ABlk} {bn : ABlk} (k : FDoes P f args (AHeap.of l) (.slice (some ⟨j, ver, 0, 0, es⟩) n c) h') (hb : ∀ b ∈ l, BareB b) (hbn : BareB bn)
    (hget : (List.range l.length).map h'.get = l.map some) (hnew : h'.get j = some bn) (hj : l.length ≤ j) (ha : Clos (fun i => i < l.length) args) {H : AHeap} (ids : List Nat) (hn : ids.Nodup) (hlt : ∀ j ∈ ids, j < H.next) (hl : ids.map H.get = l.map some) :
    FDoes P f (args.map (AVal.ren (toBig ids H.next))) H (.slice (some ⟨H.next, ver, 0, 0, es⟩) n c) (H.upd [] [bn]) := by
  have hlen : ids.length = l.length := by have := congrArg List.length hl; simpa using this
  have k1 := k.fin [j] (l ++ [bn]) (.slice (some ⟨l.length, ver, 0, 0, es⟩) n c) (fun b hm => (List.mem_append.1 hm).elim (hb b) (fun h => by rw [List.mem_singleton.1 h]; exact hbn)) (by simp) (by
    rw [List.length_append, List.length_singleton, List.range_succ, List.map_append, List.map_append]
    congr 1
    · rw [← hget]
      exact List.map_congr_left fun i hi => by rw [show finR l.length [j] i = i by simp [finR, List.mem_range.1 hi]]
    · simp [finR, hnew]) (by simp [AVal.ren, AAddr.ren, finR]) (by simp [Clo]) (by simp [hj]) (by simp)
  have k2 := k1.upN hb (fun b hm => by rw [List.mem_singleton.1 hm]; exact hbn) ha ids hn hlt hl
  have e : (AVal.slice (some ⟨l.length, ver, 0, 0, es⟩) n c).ren (toBig ids H.next) = .slice (some ⟨H.next, ver, 0, 0, es⟩) n c := by
    simp only [AVal.ren, AAddr.ren, toBig, List.getElem?_eq_none (show ids.length ≤ l.length by omega), hlen, Nat.sub_self, Nat.add_zero]
  rwa [e] at k2

/-! ## rows that nobody names -/

theorem HRel.more {φ : Map} {S : Nat → Prop} {h h2 : AHeap} {w : World} (r : HRel φ S h w) (hn : h.next ≤ h2.next) (hg : ∀ i, i < h.next → h2.get i = h.get i) : HRel φ S h2 w where
  dom i v p hp := by
    obtain ⟨h1, b, k1, k2⟩ := r.dom i v p hp
    exact ⟨Nat.lt_of_lt_of_le h1 hn, b, by rw [hg i h1]; exact k1, k2⟩
  apart := r.apart
  same := r.same

theorem FDoes.pad {P : Program} {f : FuncId} {args : List AVal} {h h' h2 : AHeap} {v : AVal} (k : FDoes P f args h v h') (hn : h'.next ≤ h2.next) (hg : ∀ i, i < h'.next → h2.get i = h'.get i) : FDoes P f args h v h2 :=
  fun S w0 hS φ w args' hH hB hA => by
    obtain ⟨g1, g2⟩ := k S w0 hS φ w args' hH hB hA
    exact ⟨g1, g2.mono fun e w' ⟨v', φ', a1, a2, a3, a4, a5, a6⟩ => ⟨v', φ', a1, a2, a3, a4.more hn hg, a5, Nat.le_trans a6 hn⟩⟩

theorem FDoes.pad1 {P : Program} {f : FuncId} {args : List AVal} {h h' : AHeap} {v : AVal} (k : FDoes P f args h v h') (l : List ABlk) : FDoes P f args h v (h'.upd [] l) :=
  k.pad (by show h'.next ≤ (AHeap.updFrom [] l h').next; rw [AHeap.updFrom_next [] l h' (by simp)]; omega) fun i hi => AHeap.updFrom_out [] l h' i (by simp) hi (by simp)

theorem Ent.pad {base n : Nat} {F : Facts} {h h2 : AHeap} (hn : h.next ≤ h2.next) (hg : ∀ i, i < h.next → h2.get i = h.get i) : Ent base n F h F h2 :=
  fun S w0 φ0 φ a w h0 hk ⟨s, hl, hF, r⟩ => ⟨φ, hk, s, hl, hF, r.slots, r.heap.more hn hg, r.below, r.defers⟩

/-! ## what hints ask -/

theorem sameOld_refl (n : Nat) (h : AHeap) : sameOld n h h = true := Trie.sameBelow_of ABlk.same_refl n h.blks h.blks 0 1 fun _ _ => rfl
theorem sameOld_new {n : Nat} (h : AHeap) (l : List ABlk) (hn : n ≤ h.next) : sameOld n h (h.upd [] l) = true :=
  Trie.sameBelow_of ABlk.same_refl n (h.upd [] l).blks h.blks 0 1 fun i hi => AHeap.updFrom_out [] l h i (by simp) (by omega) (by simp)

theorem elem_made {l : List AVal} {es k : Nat} {ex : Bool} {v : AVal} (h : l[k]? = some v) : (ABlk.made l es ex).elem? 0 k = some v := by
  have := (List.getElem?_eq_some_iff.1 h).1
  simp only [ABlk.elem?, ABlk.lim_made, if_true]
  rw [if_pos this]; exact h

/-- a slice that came in: nil, or a stretch of the row 'id' -/
def SlArg (o : Option AAddr) (n c id ver off es : Nat) : Prop := o = some ⟨id, ver, off, 0, es⟩ ∨ (o = none ∧ n = 0 ∧ c = 0)

theorem SlArg.index {o : Option AAddr} {n c id ver off es : Nat} (h : SlArg o n c id ver off es) {D : Tys} {t e : TypeId} {d xd : TyD} (hd : D t = some d) (hk : d.kind = .slice e) (hx : D e = some xd) (hes : es = xd.size) {k : IntKind} {i : Int} (h0 : 0 ≤ i) (hi : i < n) :
    aindexAddr D t (.slice o n c) (.int k i) = some (.ptr (some ⟨id, ver, off + i.toNat, 0, es⟩)) := by
  rcases h with rfl | ⟨_, rfl, _⟩
  · simp only [aindexAddr, hd, hk, hx]
    rw [if_pos ⟨h0, hi, hes⟩]
  · omega

theorem SlArg.ren {o : Option AAddr} {n c id ver off es : Nat} (h : SlArg o n c id ver off es) {r : Nat → Nat} {o' : Option AAddr} (h' : (o' = none ∧ o = none) ∨ (∃ x, o = some x ∧ o' = some { x with id := r x.id })) :
    (AVal.slice o n c).ren r = .slice o' n c := by
  rcases h' with ⟨rfl, rfl⟩ | ⟨x, rfl, rfl⟩
  · rfl
  · rfl

/-- the same stretch, of row 0 -/
def AddrZ (o : Option AAddr) : Option AAddr := o.map fun a => { a with id := 0 }
theorem SlArg.zero {o : Option AAddr} {n c id ver off es : Nat} (h : SlArg o n c id ver off es) : SlArg (AddrZ o) n c 0 ver off es := by
  rcases h with rfl | ⟨rfl, h1, h2⟩
  · exact .inl rfl
  · exact .inr ⟨rfl, h1, h2⟩
theorem SlArg.at {o : Option AAddr} {n c id ver off es : Nat} (h : SlArg o n c id ver off es) (id' : Nat) : SlArg (o.map fun a => { a with id := id' }) n c id' ver off es := by
  rcases h with rfl | ⟨rfl, h1, h2⟩
  · exact .inl rfl
  · exact .inr ⟨rfl, h1, h2⟩
theorem SlArg.back {o : Option AAddr} {n c id ver off es : Nat} (h : SlArg o n c id ver off es) {id' : Nat} {r : Nat → Nat} (hr : r id' = id) : (AVal.slice (o.map fun a => { a with id := id' }) n c).ren r = .slice o n c := by
  rcases h with rfl | ⟨rfl, h1, h2⟩
  · simp [AVal.ren, AAddr.ren, hr]
  · rfl

theorem SlArg.clo {o : Option AAddr} {n c id ver off es : Nat} (h : SlArg o n c id ver off es) {D : Nat → Prop} (hD : D id) : Clo D (.slice o n c) := by
  rcases h with rfl | ⟨rfl, _, _⟩
  · exact hD
  · simp [Clo]

theorem aslice_to {D : Tys} {t e : TypeId} {d xd : TyD} (hd : D t = some d) (hk : d.kind = .slice e) (hx : D e = some xd) {id ver off es len cap m : Nat} (hes : es = xd.size) {k : IntKind} (hm : m ≤ cap) :
    aslice D t (.slice (some ⟨id, ver, off, 0, es⟩) len cap) none (some (.int k m)) none = some (.slice (some ⟨id, ver, off, 0, es⟩) m cap) := by
  simp only [aslice, hd, hk, hx, abound]
  rw [if_pos ⟨by omega, by omega⟩]
  simp [hes]

/-! appends -/

/-- a type of slices: of elements of so many cells and bytes -/
structure SlTy (D : Tys) (t e : TypeId) (sz by' : Nat) : Prop where
  ty : ∃ d xd, D t = some d ∧ d.kind = .slice e ∧ D e = some xd ∧ xd.size = sz ∧ xd.bytes = by' ∧ 0 < sz ∧ xd.zeroFits = true

section
variable {E : AEnv} {t e : TypeId} {sz by' nid : Nat} {h : AHeap} {x : AVal} {new : List AVal}

theorem app_start (hs : SlTy E.D t e sz by') (s : AVal) : abuiltin E .append #[t, t] [s, x] nid h = aappend E.D t s x nid h := by
  obtain ⟨d, xd, h1, h2, h3, rfl, rfl, h4, h5⟩ := hs.ty
  simp only [abuiltin, List.getElem?_toArray, List.getElem?_cons_zero, List.getElem?_cons_succ, h1, h2]

theorem app_new (hs : SlTy E.D t e sz by') (hx : elemsOf sz x h = some new) (hne : new ≠ []) (hb : (new.length + new.length / 4 + 512) * by' ≤ 2 ^ 48) (hl : new.length < 2 ^ 62) :
    abuiltin E .append #[t, t] [.slice none 0 0, x] nid h = some (newSlice nid sz new.length new.length, h.set nid (.made new sz false)) := by
  rw [app_start hs]
  obtain ⟨d, xd, h1, h2, h3, rfl, rfl, h4, h5⟩ := hs.ty
  have hn : ¬ 0 + new.length = 0 := by rw [Nat.zero_add]; intro c; exact hne (List.eq_nil_of_length_eq_zero c)
  simp only [aappend, h1, h2, h3, hx]
  rw [if_pos ⟨h4, by simpa using hb, by simpa using hl, h5⟩]
  rw [if_neg hn, if_pos ⟨trivial, trivial⟩, Nat.zero_add]

theorem app_grow (hs : SlTy E.D t e sz by') (hx : elemsOf sz x h = some new) (hne : new ≠ []) {a : AAddr} {len cap : Nat} {b : ABlk} (hb : ((len + new.length) + (len + new.length) / 4 + 512) * by' ≤ 2 ^ 48) (hl : len + new.length < 2 ^ 62)
    (hg : h.get a.id = some b) (hes : a.es = sz) (hcap : ¬ len + new.length ≤ cap) (h6 : b.exact = false) (h7 : b.ro = false) (h8 : a.ver = b.ver) (h9 : a.idx + len = b.elems.length) :
    abuiltin E .append #[t, t] [.slice (some a) len cap, x] nid h = some (.slice (some { a with ver := a.ver + 1 }) (len + new.length) (len + new.length), h.set a.id (b.grow new)) := by
  rw [app_start hs]
  obtain ⟨d, xd, h1, h2, h3, rfl, rfl, h4, h5⟩ := hs.ty
  simp only [aappend, h1, h2, h3, hx]
  rw [if_pos ⟨h4, hb, hl, h5⟩]
  rw [if_pos hes]
  simp only [hg]
  rw [if_neg hcap, if_neg (by rw [h6]; simp), if_pos ⟨h7, h8, h9, hne⟩]

theorem app_copy (hs : SlTy E.D t e sz by') (hx : elemsOf sz x h = some new) {a : AAddr} {len cap : Nat} {b : ABlk} {old : List AVal} (hb : ((len + new.length) + (len + new.length) / 4 + 512) * by' ≤ 2 ^ 48) (hl : len + new.length < 2 ^ 62)
    (hg : h.get a.id = some b) (hes : a.es = sz) (hcap : ¬ len + new.length ≤ cap) (h6 : b.exact = true) (ho : elemsOf sz (.slice (some a) len cap) h = some old) :
    abuiltin E .append #[t, t] [.slice (some a) len cap, x] nid h = some (newSlice nid sz (len + new.length) (len + new.length), h.set nid (.made (old ++ new) sz false)) := by
  rw [app_start hs]
  obtain ⟨d, xd, h1, h2, h3, rfl, rfl, h4, h5⟩ := hs.ty
  simp only [aappend, h1, h2, h3, hx]
  rw [if_pos ⟨h4, hb, hl, h5⟩]
  rw [if_pos hes]
  simp only [hg]
  rw [if_neg hcap, if_pos h6]
  simp only [ho]

theorem app_put (hs : SlTy E.D t e sz by') (hx : elemsOf sz x h = some new) (hne : new ≠ []) {a : AAddr} {len cap : Nat} {b : ABlk} (hb : ((len + new.length) + (len + new.length) / 4 + 512) * by' ≤ 2 ^ 48) (hl : len + new.length < 2 ^ 62)
    (hg : h.get a.id = some b) (hes : a.es = sz) (hcap : len + new.length ≤ cap) (h7 : b.ro = false) (h8 : a.ver = b.ver) (h9 : a.idx + (len + new.length) ≤ b.elems.length) :
    abuiltin E .append #[t, t] [.slice (some a) len cap, x] nid h = some (.slice (some a) (len + new.length) cap, h.set a.id (b.put (a.idx + len) new)) := by
  rw [app_start hs]
  obtain ⟨d, xd, h1, h2, h3, rfl, rfl, h4, h5⟩ := hs.ty
  simp only [aappend, h1, h2, h3, hx]
  rw [if_pos ⟨h4, hb, hl, h5⟩]
  rw [if_pos hes]
  simp only [hg]
  rw [if_pos hcap, if_neg hne, if_pos ⟨h7, h8, h9⟩]

/-- nothing is appended -/
theorem app_none (hs : SlTy E.D t e sz by') (hx : elemsOf sz x h = some []) {o : Option AAddr} {len cap : Nat} {b : ABlk} (hb : (len + len / 4 + 512) * by' ≤ 2 ^ 48) (hl : len < 2 ^ 62)
    (hg : ∀ a, o = some a → h.get a.id = some b ∧ a.es = sz) (hcap : len ≤ cap) (hn : o = none → len = 0) : abuiltin E .append #[t, t] [.slice o len cap, x] nid h = some (.slice o len cap, h) := by
  rw [app_start hs]
  obtain ⟨d, xd, h1, h2, h3, rfl, rfl, h4, h5⟩ := hs.ty
  simp only [aappend, h1, h2, h3, hx]
  rw [if_pos ⟨h4, by simpa using hb, by simpa using hl, h5⟩]
  cases o with
  | none => have := hn rfl; subst this; simp
  | some a =>
    obtain ⟨k1, k2⟩ := hg a rfl
    simp only
    rw [if_pos k2]
    simp only [k1]
    rw [if_pos (by simpa using hcap), if_pos trivial]
    simp
end

/-- the elements of a slice that is read -/
theorem elemsOf_slice {h : AHeap} {o : Option AAddr} {n c id ver off sz : Nat} (hs : SlArg o n c id ver off sz) {b : ABlk} (hg : h.get id = some b) {f : Nat → AVal} (hx : ∀ j, j < n → b.elem? ver (off + j) = some (f j)) :
    elemsOf sz (.slice o n c) h = some ((List.range n).map f) := by
  rcases hs with rfl | ⟨rfl, rfl, rfl⟩
  · simp only [elemsOf, if_true, hg]
    by_cases hn : n = 0
    · subst hn; simp
    · rw [if_neg hn]
      have key : ∀ j, j < n → off + j < b.lim ver ∧ b.elems[off + j]? = some (f j) := by
        intro j hj
        have := hx j hj
        unfold ABlk.elem? at this
        split at this
        · exact ⟨‹_›, this⟩
        · cases this
      have hlast := key (n - 1) (by omega)
      have hlen := (List.getElem?_eq_some_iff.1 hlast.2).1
      rw [if_pos ⟨by omega, by omega⟩]
      congr 1
      apply List.ext_getElem?
      intro j
      by_cases hj : j < n
      · rw [List.getElem?_take, if_pos hj, List.getElem?_drop, (key j hj).2]; simp [hj]
      · rw [List.getElem?_take, if_neg hj, List.getElem?_eq_none (by simp; omega)]
  · simp [elemsOf]

/-- loops are taken round by round -/
theorem Loops.round {P : Program} {base n : Nat} {c : Code} {F F1 F2 : Facts} {h h1 h1' h2 : AHeap} {e : AExit} (k1 : Runs P base n c F h .normal F1 h1) (i : Ent base n F1 h1 F1 h1') (k2 : Loops P base n c F1 h1' e F2 h2) : Loops P base n c F h e F2 h2 :=
  Loops.step (k1.post i) k2

end
end Go.Lift
