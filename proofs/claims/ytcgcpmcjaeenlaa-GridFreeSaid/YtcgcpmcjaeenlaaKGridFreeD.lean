/-
  Parts of the proof, one behind the other:
  grid.Flow: its call.
  THE LIFT, PART X: at a loop's head or end rows get other numbers; rows that nobody names are added.
  grid.Flow: what it answers.
  grid.Flow: its second loop, and what it answers in every memory.
  grid.Flow in every memory: what it answers.
  THE LIFT, PART R: the abstract machine once more, so written that the kernel runs it with every value worked out at once. What it answers the abstract machine answers.
  'frescolaw09.alive' answers true, wherever it is called (a closed run).
  Have two spans a cell in common: the walk.
  frescolaw09.GridFree: the walk.
  SPANS THAT SAY NOTHING OF THEIR PLACE (plain law), and rows of pairs of numbers.
  'frescolaw09.GridFree' answers true, for every list of sizes and number of columns.
-/
import Derived.Test.YtcgcpmcjaeenlaaKGridFreeC

namespace Go.Proofs.Ytcgcpmcjaeenlaa
open Go.Lift
set_option maxRecDepth 1000000
set_option linter.unusedSimpArgs false
set_option linter.unusedVariables false
set_option linter.unusedSectionVars false

theorem fl_nil (o : Option AAddr) (n c C : Nat) (b rT : ABlk) (l l2 : List AVal) (cols : Int) (sT sU : AVal) (hc_0 : (n : Int) > 4096) :
    FDoes Try.prog 13 [.slice o n c, .int .i64 cols] (AHeap.of [b]) (.slice none 0 0) (AHeap.rows 6 [(0, b)]) :=
  pcall_does env_ok mixed (hs := [.val 1002 (.bool true)]) (rs := []) (by kernel_rfl) (All.cons (okT hc_0) (All.nil))

theorem fl_call (o : Option AAddr) (n c C : Nat) (b rT : ABlk) (l l2 : List AVal) (cols : Int) (sT sU : AVal) (hc_0 : ¬ ((n : Int) > 4096)) (hc_1 : FDoes Try.prog 30 [.int .i64 cols, .int .i64 1, .int .i64 64] (AHeap.rows 10 [(0, b)]) (.int .i64 (C : Int)) (AHeap.rows 10 [(0, b)])) (hc_2 : 0 ≤ (n : Int) ∧ (n : Int) ≤ (n : Int) ∧ (n : Int) < 4611686018427387904 ∧ (32 : Int) * (n : Int) ≤ 281474976710656) (hc_3 : Runs Try.prog 1 135 (.loop (loopAt Try.prog 13 0)) [(5, .ptr (some ⟨8, 0, 0, 0, 2⟩)), (6, .slice (some ⟨12, 0, 0, 0, 4⟩) n n), (23, .slice o n c), (24, .int .i64 (n : Int)), (25, .int .i64 0)] (AHeap.rows 17 [(0, b), (8, .made [.agg [.int .i64 (C : Int), .slice none 0 0]] 2 true), (12, .made (List.replicate n (.agg [.int .i64 0, .int .i64 0, .int .i64 0, .int .i64 0])) 4 true)]) (.exit 0) [(5, .ptr (some ⟨8, 0, 0, 0, 2⟩)), (6, .slice (some ⟨12, 0, 0, 0, 4⟩) n n)] (AHeap.rows 15 [(0, b), (8, (.made ([.agg [.int .i64 (C : Int), sT]]) 2 true)), (12, .made l 4 true), (13, rT)])) (hc_4 : Runs Try.prog 1 135 (.loop (loopAt Try.prog 13 1)) [(5, .ptr (some ⟨8, 0, 0, 0, 2⟩)), (6, .slice (some ⟨12, 0, 0, 0, 4⟩) n n), (9, .int .i64 0), (10, .int .i64 0), (80, .slice (some ⟨12, 0, 0, 0, 4⟩) n n), (81, .int .i64 (n : Int)), (82, .int .i64 0)] (AHeap.rows 20 [(0, b), (8, (.made ([.agg [.int .i64 (C : Int), sT]]) 2 true)), (12, .made l 4 true), (13, rT)]) (.exit 2) [(6, .slice (some ⟨12, 0, 0, 0, 4⟩) n n)] (AHeap.rows 15 [(0, b), (12, .made l2 4 true)])) :
    FDoes Try.prog 13 [.slice o n c, .int .i64 cols] (AHeap.of [b]) (.slice (some ⟨12, 0, 0, 0, 4⟩) n n) (AHeap.rows 17 [(0, b), (12, .made l2 4 true)]) :=
  pcall_does env_ok mixed (hs := [.val 1002 (.bool false), .val 3001 (.int .i64 C), .go 4002, .keep [5, 6, 23, 24, 25], .loop [(5, .ptr (some ⟨8, 0, 0, 0, 2⟩)), (6, .slice (some ⟨12, 0, 0, 0, 4⟩) n n)] (AHeap.rows 15 [(0, b), (8, .made [.agg [.int .i64 C, sT]] 2 true), (12, .made l 4 true), (13, rT)]) (.exit 0), .keep [5, 6, 9, 10, 80, 81, 82], .loop [(6, .slice (some ⟨12, 0, 0, 0, 4⟩) n n)] (AHeap.rows 15 [(0, b), (12, .made l2 4 true)]) (.exit 2)]) (rs := []) (by kernel_rfl) (All.cons (okF hc_0) (All.cons (CallT.mk hc_1) (All.cons hc_2 (All.cons hc_3 (All.cons hc_4 (All.nil))))))

end Go.Proofs.Ytcgcpmcjaeenlaa

namespace Go.Lift
noncomputable section
open Go.RowKit
set_option linter.unusedVariables false
set_option linter.unusedSimpArgs false

theorem lookF_mem {F : Facts} {t : Nat} {v : AVal} (hv : lookF F t = some v) : (t, v) ∈ F := by
  induction F with
  | nil => cases hv
  | cons p r ih =>
    obtain ⟨k, u⟩ := p
    rw [lookF_cons] at hv
    split at hv
    · rename_i e; simp only [Option.some.injEq] at hv; subst e; subst hv; simp
    · exact List.mem_cons_of_mem _ (ih hv)

theorem lookF_map {F : Facts} {g : AVal → AVal} {t : Nat} {v : AVal} (hv : lookF F t = some v) : lookF (F.map fun p => (p.1, g p.2)) t = some (g v) := by
  induction F with
  | nil => cases hv
  | cons p r ih =>
    obtain ⟨k, u⟩ := p
    rw [List.map_cons, lookF_cons]
    rw [lookF_cons] at hv
    split at hv
    · rename_i e; simp only [Option.some.injEq] at hv; subst hv; rw [if_pos e]
    · rename_i e; rw [if_neg e]; exact ih hv

/-- rows are forgotten, or get other numbers: the row p.1 was the row r p.1 -/
theorem Ent.move {base n : Nat} {F F1 : Facts} {h : AHeap} {K : Nat} {l : List (Nat × ABlk)} (r : Nat → Nat) (hl : l.map (fun p => h.get (r p.1)) = l.map (fun p => some (p.2.ren r))) (hK : l.all (fun p => Nat.blt p.1 K) = true)
    (hr : ((l.map (·.1)).map r).Nodup) (hb : (List.range base).all (fun i => (l.map (·.1)).contains i && Nat.beq (r i) i) = true) (hnew : l.all (fun p => Nat.blt p.1 base || Nat.ble base (r p.1)) = true)
    (hFF : F = F1.map fun p => (p.1, p.2.ren r)) (hn : F1.all (fun p => Nat.blt p.1 n) = true) (hF : All (F1.map fun p => Clo (Ids (l.map (·.1))) p.2))
    (hc : All (l.map fun p => ∀ e ∈ p.2.elems, Clo (Ids (l.map (·.1))) e)) : Ent base n F h F1 (AHeap.rows K l) := by
  have hget : ∀ i b, (AHeap.rows K l).get i = some b → i < K ∧ h.get (r i) = some (b.ren r) := by
    intro i b k
    have hm := AHeap.rows_get k
    refine ⟨Nat.blt_eq.mp (List.all_eq_true.1 hK _ hm), ?_⟩
    obtain ⟨j, hj, e⟩ := List.mem_iff_getElem.1 hm
    have h1 := congrArg (fun (x : List (Option ABlk)) => x[j]?) hl
    simp only [List.getElem?_map, List.getElem?_eq_getElem hj, Option.map_some, e, Option.some.injEq] at h1
    exact h1
  have hmono : ∀ {v : AVal}, Clo (Ids (l.map (·.1))) v → Clo (In (AHeap.rows K l)) v := Clo.mono fun i hi => AHeap.rows_in hi
  subst hFF
  refine Ent.ren (r := r) ⟨fun i b k => ⟨by rw [AHeap.rows_next]; exact (hget i b k).1, (hget i b k).2⟩, ?_, ?_⟩ ?_ ?_ ?_ ?_
  · intro i j hi hj e
    have hi := AHeap.rows_in_of hi
    have hj := AHeap.rows_in_of hj
    obtain ⟨a, ha, rfl⟩ := List.mem_iff_getElem.1 hi
    obtain ⟨b, hb', rfl⟩ := List.mem_iff_getElem.1 hj
    have h1 : ((l.map (·.1)).map r)[a]'(by simpa using ha) = ((l.map (·.1)).map r)[b]'(by simpa using hb') := by simpa using e
    have := (List.getElem_inj hr).1 h1
    subst this; rfl
  · intro i b k e he
    have hm := AHeap.rows_get k
    exact hmono (hc _ (List.mem_map.2 ⟨_, hm, rfl⟩) e he)
  · intro t v hv
    have hm := lookF_mem hv
    exact ⟨Nat.blt_eq.mp (List.all_eq_true.1 hn _ hm), lookF_map hv, hmono (hF _ (List.mem_map.2 ⟨_, hm, rfl⟩))⟩
  · intro i hi _
    have := List.all_eq_true.1 hb i (List.mem_range.2 hi)
    simp only [Bool.and_eq_true] at this
    exact AHeap.rows_in (by simpa using this.1)
  · intro i hi _
    have := List.all_eq_true.1 hb i (List.mem_range.2 hi)
    simp only [Bool.and_eq_true] at this
    exact Nat.eq_of_beq_eq_true this.2
  · intro i hi hlt
    have hi := AHeap.rows_in_of hi
    obtain ⟨p, hm, rfl⟩ := List.mem_map.1 hi
    have := List.all_eq_true.1 hnew p hm
    simp only [Bool.or_eq_true] at this
    rcases this with h1 | h1
    · exact Nat.blt_eq.mp h1
    · have := Nat.le_of_ble_eq_true h1; omega

theorem AHeap.foldl_get_eq (l : List (Nat × ABlk)) : ∀ (h g : AHeap) (i : Nat), h.get i = g.get i → (l.foldl (fun h p => h.set p.1 p.2) h).get i = (l.foldl (fun h p => h.set p.1 p.2) g).get i := by
  induction l with
  | nil => intro h g i e; exact e
  | cons p r ih =>
    intro h g i e
    refine ih _ _ i ?_
    rw [AHeap.get_set, AHeap.get_set, e]

theorem AHeap.foldl_out (l : List (Nat × ABlk)) : ∀ (h : AHeap) (i : Nat), i ∉ l.map (·.1) → (l.foldl (fun h p => h.set p.1 p.2) h).get i = h.get i := by
  induction l with
  | nil => intro h i _; rfl
  | cons p r ih =>
    intro h i hi
    simp only [List.map_cons, List.mem_cons, not_or] at hi
    rw [List.foldl_cons, ih _ i hi.2, AHeap.get_set_ne _ _ (Ne.symm hi.1)]

/-- rows that nobody names -/
theorem Ent.more {base n : Nat} {F : Facts} {K K2 : Nat} {l l2 : List (Nat × ABlk)} (hK : Nat.ble K K2 = true) (h2 : l2.all (fun p => Nat.ble K p.1) = true) : Ent base n F (AHeap.rows K l) F (AHeap.rows K2 (l ++ l2)) := by
  refine Ent.pad (by rw [AHeap.rows_next, AHeap.rows_next]; exact Nat.le_of_ble_eq_true hK) fun i hi => ?_
  rw [AHeap.rows_next] at hi
  unfold AHeap.rows
  rw [List.foldl_append, AHeap.foldl_out l2 _ i fun hm => ?_]
  · exact AHeap.foldl_get_eq l _ _ i rfl
  · obtain ⟨p, hp, rfl⟩ := List.mem_map.1 hm
    have := Nat.le_of_ble_eq_true (List.all_eq_true.1 h2 p hp)
    omega

/-- a row of nothing -/
def noRow0 : ABlk := .made [] 1 true
theorem noRow0_bare : BareB noRow0 := by intro e he; cases he
end
end Go.Lift

namespace Go.Proofs.Ytcgcpmcjaeenlaa
open Go.Lift
set_option maxRecDepth 1000000
set_option linter.unusedSimpArgs false
set_option linter.unusedVariables false
set_option linter.unusedSectionVars false

def tSlN : Nat → Option AAddr
  | 0 => none
  | k + 1 => some ⟨13, k, 0, 0, 4⟩
def tRow (T : List Qd) : ABlk := gRowQ (fun j => T.getD j Qd0) 1 (T.length - 1)
def to13 (N i : Nat) : Nat := if i = 13 then N else i
theorem slFix2 {o : Option AAddr} {n c id ver off es : Nat} (h : SlArg o n c id ver off es) {r : Nat → Nat} (hr : r id = id) : (AVal.slice o n c).ren r = .slice o n c := by
  rcases h with rfl | ⟨rfl, _, _⟩
  · simp [AVal.ren, AAddr.ren, hr]
  · rfl
theorem gRowQ_congr {f g : Nat → Qd} {n1 v : Nat} (h : ∀ j, j < n1 + v → f j = g j) : gRowQ f n1 v = gRowQ g n1 v := by
  unfold gRowQ; rw [qrows_congr h]

theorem tApp1 (r : Qd) (t N : Nat) (hp : AHeap) (hx : elemsOf 4 (.slice (some ⟨t, 0, 0, 0, 4⟩) 1 1) hp = some [r.val]) :
    abuiltin env .append #[22, 22] [.slice none 0 0, .slice (some ⟨t, 0, 0, 0, 4⟩) 1 1] N hp = some (.slice (some ⟨N, 0, 0, 0, 4⟩) 1 1, hp.set N (tRow [r])) :=
  app_quad1 slSpan (f := fun j => [r].getD j Qd0) r rfl t hp hx
theorem tAppG {T : List Qd} {k : Nat} (hk : T.length = k + 1) (hb : k ≤ 2 ^ 40) (r : Qd) (t K : Nat) (hp : AHeap) (hg : hp.get 13 = some (tRow T)) (hx : elemsOf 4 (.slice (some ⟨t, 0, 0, 0, 4⟩) 1 1) hp = some [r.val]) :
    abuiltin env .append #[22, 22] [.slice (some ⟨13, k, 0, 0, 4⟩) (k + 1) (k + 1), .slice (some ⟨t, 0, 0, 0, 4⟩) 1 1] K hp = some (.slice (some ⟨13, k + 1, 0, 0, 4⟩) (k + 1 + 1) (k + 1 + 1), hp.set 13 (tRow (T ++ [r]))) := by
  have e1 : tRow T = gRowQ (fun j => (T ++ [r]).getD j Qd0) 1 k := by
    unfold tRow
    rw [hk, show k + 1 - 1 = k by omega]
    exact gRowQ_congr fun j hj => by simp [List.getD_eq_getElem?_getD, List.getElem?_append_left (show j < T.length by omega)]
  have e2 : tRow (T ++ [r]) = gRowQ (fun j => (T ++ [r]).getD j Qd0) 1 (k + 1) := by
    unfold tRow
    rw [show (T ++ [r]).length - 1 = k + 1 by simp; omega]
  rw [e1] at hg
  have a := app_quad slSpan (f := fun j => (T ++ [r]).getD j Qd0) (n1 := 1) (v := k) (id := 13) (by omega) (by omega) r (by simp [List.getD_eq_getElem?_getD, show 1 + k = T.length by omega]) t K hp hg hx
  rw [show 1 + k = k + 1 by omega] at a
  rw [e2]; exact a

/-- the memory of grid.Flow's loops -/
noncomputable def stH (K : Nat) (b : ABlk) (C : Nat) (T : List Qd) (k : Nat) (l : List AVal) : AHeap := AHeap.rows K [(0, b), (8, brdRow C (tSlN k) k k), (12, .made l 4 true), (13, tRow T)]

theorem tSl_clo {k : Nat} {D : Nat → Prop} (h : D 13) : Clo D (.slice (tSlN k) k k) := by
  cases k with
  | zero => simp [tSlN, Clo]
  | succ k => simpa [tSlN, Clo] using h
theorem tRow_bare (T : List Qd) : BareB (tRow T) := gRowQ_bare _ _ _

section
variable {n C : Nat} (hn : n ≤ 4096) (hC : 1 ≤ C ∧ C ≤ 64) {o : Option AAddr} {c ver off : Nat} {b : ABlk} (hs : SlArg o n c 0 ver off 4) (hb : BareB b) {src : Nat → Qd} (hel : ∀ j, j < n → b.elem? ver (off + j) = some (src j).val)
include hn hC hs hb hel

theorem fl_loop : ∀ (f i : Nat) (T : List Qd), i + f = n → T = fixedL (fun j => normZ C (src j)) i → T.length ≤ i →
    ∃ k, (fixedL (fun j => normZ C (src j)) n).length = k ∧ Loops Try.prog 1 135 (loopAt Try.prog 13 0) [(5, .ptr (some ⟨8, 0, 0, 0, 2⟩)), (6, .slice (some ⟨12, 0, 0, 0, 4⟩) n n), (23, .slice o n c), (24, .int .i64 n), (25, .int .i64 i)]
      (stH 14 b C T T.length (qrows n fun j => if j < i then normZ C (src j) else Qd0)) (.exit 0) [(5, .ptr (some ⟨8, 0, 0, 0, 2⟩)), (6, .slice (some ⟨12, 0, 0, 0, 4⟩) n n)] (stH 15 b C (fixedL (fun j => normZ C (src j)) n) k (qrows n fun j => normZ C (src j)))
  | 0, i, T, e, hT, hl => by
    obtain rfl : i = n := by omega
    subst hT
    refine ⟨_, rfl, ?_⟩
    rw [show (qrows i fun j => if j < i then normZ C (src j) else Qd0) = (qrows i fun j => normZ C (src j)) from qrows_congr fun j hj => by rw [if_pos hj]]
    exact Loops.last (by simp) (fl_end o i c 0 0 0 0 i C b _ b _ 0 0 0 0 _ (by omega))
  | f + 1, i, T, e, hT, hl => by
    have hi : i < n := by omega
    have dc : Clo (Ids [0, 8, 12, 13]) (.slice o n c) := hs.clo (by simp [Ids])
    have dc2 : Clo (Ids [0, 8, 12]) (.slice o n c) := hs.clo (by simp [Ids])
    have nz := normZ_ok (cols := C) (by omega) (src i)
    have c1 : (i : Int) < n := by omega
    have c2 := ix_spS (k := .i64) hs hi
    have c3 := hel i hi
    have c4 : -9223372036854775808 ≤ (C : Int) - inZ2 (src i).c 1 C ∧ (C : Int) - inZ2 (src i).c 1 C ≤ 9223372036854775807 := by unfold inZ2; omega
    have c5 : 0 ≤ (i : Int) ∧ (i : Int) < (n : Int) ∧ 4 = 4 := ⟨by omega, by omega, rfl⟩
    have c6 : 0 = 0 ∧ (qrows n fun j => if j < i then normZ C (src j) else Qd0)[0 + Int.toNat (i : Int)]? = some Qd0.val := ⟨rfl, by rw [show 0 + Int.toNat (i : Int) = i by simp, qrows_get hi]; simp⟩
    have f5 : -9223372036854775808 ≤ (i : Int) + 1 ∧ (i : Int) + (1 : Int) ≤ 9223372036854775807 := by omega
    have es : List.set (qrows n fun j => if j < i then normZ C (src j) else Qd0) (0 + Int.toNat (i : Int)) (normZ C (src i)).val = qrows n fun j => if j < i + 1 then normZ C (src j) else Qd0 := by
      rw [show 0 + Int.toNat (i : Int) = i by simp]
      exact qrows_step (y := fun j => normZ C (src j)) (z := fun _ => Qd0) (i := i)
    have e2 : List.set (qrows n fun j => if j < i then normZ C (src j) else Qd0) (0 + Int.toNat (i : Int)) (.agg [.int .i64 (inZ2 (src i).a (-1) (C - inZ2 (src i).c 1 C)), .int .i64 (inZ2 (src i).b (-1) 4096), .int .i64 (inZ2 (src i).c 1 C), .int .i64 (inZ2 (src i).d 1 4096)]) = qrows n fun j => if j < i + 1 then normZ C (src j) else Qd0 := es
    have back : ∀ {h0 : AHeap} (T2 : List Qd) (k2 : Nat), [h0.get 0, h0.get 8, h0.get 12, h0.get 13] = [some b, some (brdRow C (tSlN k2) k2 k2), some (.made (qrows n fun j => if j < i + 1 then normZ C (src j) else Qd0) 4 true), some (tRow T2)] →
        Ent 1 135 [(5, .ptr (some ⟨8, 0, 0, 0, 2⟩)), (6, .slice (some ⟨12, 0, 0, 0, 4⟩) n n), (23, .slice o n c), (24, .int .i64 n), (25, .int .i64 (i + 1 : Nat))] h0
          [(5, .ptr (some ⟨8, 0, 0, 0, 2⟩)), (6, .slice (some ⟨12, 0, 0, 0, 4⟩) n n), (23, .slice o n c), (24, .int .i64 n), (25, .int .i64 (i + 1 : Nat))] (stH 14 b C T2 k2 (qrows n fun j => if j < i + 1 then normZ C (src j) else Qd0)) := fun T2 k2 e1 =>
      Ent.drop e1 (by kernel_rfl) (by kernel_rfl) (by kernel_rfl) (by simp [All_cons, All_nil, Clo, dc]; simp [Ids]) (by
        simp only [List.map, All_cons, All_nil, and_true]
        exact ⟨hb.clo _, brd_cloI (tSl_clo (by simp [Ids])), (qrows_bare _ _).clo _, (tRow_bare _).clo _⟩)
    by_cases ha : (normZ C (src i)).a ≥ 0
    · by_cases hbb : (normZ C (src i)).b ≥ 0
      · have fx : fixedZ (normZ C (src i)) = true := (fixedZ_iff _).2 ⟨ha, hbb⟩
        have eT : T ++ [normZ C (src i)] = fixedL (fun j => normZ C (src j)) (i + 1) := by
          simp only [fixedL, fx, if_true, hT]
        have el : (T ++ [normZ C (src i)]).length = T.length + 1 := by simp
        obtain ⟨k, hk, ih⟩ := fl_loop f (i + 1) (T ++ [normZ C (src i)]) (by omega) eT (by omega)
        rw [el] at ih
        refine ⟨k, hk, ?_⟩
        cases hc : T.length with
        | zero =>
          have : T = [] := List.eq_nil_of_length_eq_zero hc
          subst this
          have st := fl_new o n c ver off 0 0 i C b b (tRow [normZ C (src i)]) _ (src i).a (src i).b (src i).c (src i).d c1 c2 c3 c4 c5 c6 ha hbb ((tApp1 (normZ C (src i)) _ _ _ (by kernel_rfl)).trans (by kernel_rfl)) f5
          rw [e2] at st
          have pre : Ent 1 135 [(5, .ptr (some ⟨8, 0, 0, 0, 2⟩)), (6, .slice (some ⟨12, 0, 0, 0, 4⟩) n n), (23, .slice o n c), (24, .int .i64 n), (25, .int .i64 i)] (stH 14 b C [] 0 (qrows n fun j => if j < i then normZ C (src j) else Qd0))
              [(5, .ptr (some ⟨8, 0, 0, 0, 2⟩)), (6, .slice (some ⟨12, 0, 0, 0, 4⟩) n n), (23, .slice o n c), (24, .int .i64 n), (25, .int .i64 i)] (AHeap.rows 13 [(0, b), (8, brdRow C none 0 0), (12, .made (qrows n fun j => if j < i then normZ C (src j) else Qd0) 4 true)]) :=
            Ent.drop (by kernel_rfl) (by kernel_rfl) (by kernel_rfl) (by kernel_rfl) (by simp [All_cons, All_nil, Clo, dc2]; simp [Ids]) (by
              simp only [List.map, All_cons, All_nil, and_true]
              exact ⟨hb.clo _, brd_cloI (by simp [Clo]), (qrows_bare _ _).clo _⟩)
          refine Tri.pre (Loops.step (st.post ?_) ih) pre
          refine Ent.move (to13 71) ?_ (by kernel_rfl) (by simp [to13]) (by kernel_rfl) (by kernel_rfl) ?_ (by kernel_rfl) (by simp [All_cons, All_nil, Clo, dc]; simp [Ids]) (by
            simp only [List.map, All_cons, All_nil, and_true]
            exact ⟨hb.clo _, brd_cloI (tSl_clo (by simp [Ids])), (qrows_bare _ _).clo _, (tRow_bare _).clo _⟩)
          · simp only [List.map]
            rw [hb.ren, (qrows_bare _ _).ren, (tRow_bare _).ren]
            kernel_rfl
          · simp only [List.map, slFix2 hs (r := to13 71) rfl]
            rfl
        | succ k0 =>
          rw [hc] at ih
          have st := fl_grow o n c ver off k0 (k0 + 1) i C b (tRow T) (tRow (T ++ [normZ C (src i)])) _ (src i).a (src i).b (src i).c (src i).d c1 c2 c3 c4 c5 c6 ha hbb ((tAppG hc (by omega) (normZ C (src i)) _ _ _ (by kernel_rfl) (by kernel_rfl)).trans (by kernel_rfl)) f5
          rw [e2] at st
          exact Loops.step (st.post (i := back (T ++ [normZ C (src i)]) (k0 + 1 + 1) (by kernel_rfl))) ih
      · have fx : ¬ fixedZ (normZ C (src i)) = true := fun h => hbb ((fixedZ_iff _).1 h).2
        have eT : T = fixedL (fun j => normZ C (src j)) (i + 1) := by simp only [fixedL, fx]; exact hT
        obtain ⟨k, hk, ih⟩ := fl_loop f (i + 1) T (by omega) eT (by omega)
        have st := fl_no2 o n c ver off 0 0 i C b (tRow T) b _ (src i).a (src i).b (src i).c (src i).d (.slice (tSlN T.length) T.length T.length) c1 c2 c3 c4 c5 c6 ha hbb f5
        rw [e2] at st
        exact ⟨k, hk, Loops.step (st.post (i := back T T.length (by kernel_rfl))) ih⟩
    · have fx : ¬ fixedZ (normZ C (src i)) = true := fun h => ha ((fixedZ_iff _).1 h).1
      have eT : T = fixedL (fun j => normZ C (src j)) (i + 1) := by simp only [fixedL, fx]; exact hT
      obtain ⟨k, hk, ih⟩ := fl_loop f (i + 1) T (by omega) eT (by omega)
      have st := fl_no1 o n c ver off 0 0 i C b (tRow T) b _ (src i).a (src i).b (src i).c (src i).d (.slice (tSlN T.length) T.length T.length) c1 c2 c3 c4 c5 c6 ha f5
      rw [e2] at st
      exact ⟨k, hk, Loops.step (st.post (i := back T T.length (by kernel_rfl))) ih⟩
end

end Go.Proofs.Ytcgcpmcjaeenlaa

namespace Go.Proofs.Ytcgcpmcjaeenlaa
open Go.Lift
set_option maxRecDepth 1000000
set_option linter.unusedSimpArgs false
set_option linter.unusedVariables false
set_option linter.unusedSectionVars false

theorem prefix_good {cols : Int} {n m : Nat} {w out : Nat → Qd} (hm : m ≤ n) (hw : ∀ j, j < n → NormZ cols (w j)) (h : ∀ j, j < m → PlaceZ cols (takenL w out n j) (curZ w out j) (w j) (out j)) : ∀ i, i ≤ m → GoodT cols (downM i) (takenL w out n i) ∧ (0 ≤ (curZ w out i).1 ∧ (curZ w out i).1 ≤ downM i) ∧ (0 ≤ (curZ w out i).2 ∧ (curZ w out i).2 ≤ cols ∨ (curZ w out i).2 = 0)
  | 0, _ => ⟨by show GoodT cols (downM 0) (fixedL w n); rw [show downM 0 = 8192 by simp [downM]]; exact fixedL_good hw, by simp [curZ, downM], .inr rfl⟩
  | i + 1, hi => by
    obtain ⟨g1, g2, g3⟩ := prefix_good hm hw h i (by omega)
    have e : downM (i + 1) = downM i + 4097 := by simp only [downM]; push_cast; omega
    have hM : 8192 ≤ downM i := by simp only [downM]; omega
    have pg := place_good g1 hM g2 (hw i (by omega)) (h i (by omega))
    have k := hw i (by omega)
    have k3 := k.c; have k4 := k.d
    have up : GoodT cols (downM (i + 1)) (takenL w out n i) := fun t ht => by have := g1 t ht; omega
    refine ⟨?_, ?_, ?_⟩
    · simp only [takenL]
      split
      · exact up
      · intro t ht
        rcases List.mem_append.1 ht with ht | ht
        · exact up t ht
        · obtain rfl := List.mem_singleton.1 ht
          omega
    · simp only [curZ]
      split
      · simp only; omega
      · omega
    · simp only [curZ]
      split
      · simp only; omega
      · omega
theorem fixedL_len (w : Nat → Qd) : ∀ n, (fixedL w n).length ≤ n
  | 0 => Nat.le_refl _
  | n + 1 => by
    have := fixedL_len w n
    simp only [fixedL]
    split
    · simp; omega
    · omega
theorem takenL_len (w out : Nat → Qd) (n : Nat) : ∀ i, (takenL w out n i).length ≤ n + i
  | 0 => fixedL_len w n
  | i + 1 => by
    have := takenL_len w out n i
    simp only [takenL]
    split
    · omega
    · simp; omega
theorem tRow_el {T : List Qd} {k : Nat} (h : T.length = k + 1) : ElT (tRow T) k T := fun j t ht => by
  have hj := (List.getElem?_eq_some_iff.1 ht).1
  have e := gRowQ_el (f := fun j => T.getD j Qd0) (n1 := 1) (v := k) (j := j) (by omega)
  unfold tRow
  rw [show T.length - 1 = k by omega, e]
  simp [List.getD_eq_getElem?_getD, ht]
theorem norm_small {C : Nat} (hC : C ≤ 64) {s : Qd} (h : NormZ C s) : Small s := by
  have h1 := h.a; have h2 := h.b; have h3 := h.c; have h4 := h.d
  unfold Small; omega
theorem row_step {n i : Nat} {out w : Nat → Qd} {r : Qd} : (qrows n fun j => if j < i then out j else w j).set i r.val = qrows n fun j => if j < i + 1 then (if j = i then r else out j) else w j := by
  apply List.ext_getElem (by simp)
  intro j h1 h2
  rw [List.getElem_set]
  simp only [qrows, List.getElem_map, List.getElem_range]
  by_cases e : i = j
  · subst e; simp
  · rw [if_neg e]
    by_cases c : j < i
    · rw [if_pos c, if_pos (by omega), if_neg (Ne.symm e)]
    · rw [if_neg c, if_neg (by omega)]

section
variable {n C : Nat} (hn : n ≤ 4096) (hC : 1 ≤ C ∧ C ≤ 64) {b : ABlk} (hb : BareB b) {w : Nat → Qd} (hw : ∀ j, j < n → NormZ C (w j))
include hn hC hb hw

theorem fx_mv {N : Nat} (hN : N = 49 ∨ N = 53 ∨ N = 61) (y x : Int) (i : Nat) (r : Qd) (g : Nat → Qd) {h0 : AHeap} (e : [h0.get 0, h0.get 8, h0.get 12, h0.get N] = [some b, some (brdRow C (some ⟨N, 0, 0, 0, 4⟩) 1 1), some (.made (qrows n g) 4 true), some (tRow [r])]) :
    Ent 1 135 [(5, .ptr (some ⟨8, 0, 0, 0, 2⟩)), (6, .slice (some ⟨12, 0, 0, 0, 4⟩) n n), (9, .int .i64 y), (10, .int .i64 x), (80, .slice (some ⟨12, 0, 0, 0, 4⟩) n n), (81, .int .i64 n), (82, .int .i64 i)] h0
      [(5, .ptr (some ⟨8, 0, 0, 0, 2⟩)), (6, .slice (some ⟨12, 0, 0, 0, 4⟩) n n), (9, .int .i64 y), (10, .int .i64 x), (80, .slice (some ⟨12, 0, 0, 0, 4⟩) n n), (81, .int .i64 n), (82, .int .i64 i)] (stH 14 b C [r] 1 (qrows n g)) := by
  rcases hN with rfl | rfl | rfl
  · refine Ent.move (to13 49) ?_ (by kernel_rfl) (by simp [to13]) (by kernel_rfl) (by kernel_rfl) rfl (by kernel_rfl) (by simp [All_cons, All_nil, Clo]; simp [Ids]) (by
      simp only [List.map, All_cons, All_nil, and_true]
      exact ⟨hb.clo _, brd_cloI (tSl_clo (by simp [Ids])), (qrows_bare _ _).clo _, (tRow_bare _).clo _⟩)
    simp only [List.map]
    rw [hb.ren, (qrows_bare _ _).ren, (tRow_bare _).ren]
    exact e
  · refine Ent.move (to13 53) ?_ (by kernel_rfl) (by simp [to13]) (by kernel_rfl) (by kernel_rfl) rfl (by kernel_rfl) (by simp [All_cons, All_nil, Clo]; simp [Ids]) (by
      simp only [List.map, All_cons, All_nil, and_true]
      exact ⟨hb.clo _, brd_cloI (tSl_clo (by simp [Ids])), (qrows_bare _ _).clo _, (tRow_bare _).clo _⟩)
    simp only [List.map]
    rw [hb.ren, (qrows_bare _ _).ren, (tRow_bare _).ren]
    exact e
  · refine Ent.move (to13 61) ?_ (by kernel_rfl) (by simp [to13]) (by kernel_rfl) (by kernel_rfl) rfl (by kernel_rfl) (by simp [All_cons, All_nil, Clo]; simp [Ids]) (by
      simp only [List.map, All_cons, All_nil, and_true]
      exact ⟨hb.clo _, brd_cloI (tSl_clo (by simp [Ids])), (qrows_bare _ _).clo _, (tRow_bare _).clo _⟩)
    simp only [List.map]
    rw [hb.ren, (qrows_bare _ _).ren, (tRow_bare _).ren]
    exact e

theorem fx_loop : ∀ (f i : Nat) (out : Nat → Qd) (T : List Qd) (y x : Int), i + f = n → (∀ j, j < i → PlaceZ C (takenL w out n j) (curZ w out j) (w j) (out j)) → T = takenL w out n i → (y, x) = curZ w out i →
    ∃ out2, FlowZ C n w out2 ∧ Loops Try.prog 1 135 (loopAt Try.prog 13 1) [(5, .ptr (some ⟨8, 0, 0, 0, 2⟩)), (6, .slice (some ⟨12, 0, 0, 0, 4⟩) n n), (9, .int .i64 y), (10, .int .i64 x), (80, .slice (some ⟨12, 0, 0, 0, 4⟩) n n), (81, .int .i64 n), (82, .int .i64 i)]
      (stH 14 b C T T.length (qrows n fun j => if j < i then out j else w j)) (.exit 2) [(6, .slice (some ⟨12, 0, 0, 0, 4⟩) n n)] (AHeap.rows 15 [(0, b), (12, .made (qrows n out2) 4 true)])
  | 0, i, out, T, y, x, e, hp, hT, hyx => by
    obtain rfl : i = n := by omega
    refine ⟨out, hp, ?_⟩
    rw [show (qrows i fun j => if j < i then out j else w j) = qrows i out from qrows_congr fun j hj => by rw [if_pos hj]]
    refine (Loops.last (by simp) (fx_end i 0 0 i C b (tRow T) b _ y x 0 0 0 0 0 0 0 0 (.slice (tSlN T.length) T.length T.length) (by omega))).post ?_
    exact Ent.drop (by kernel_rfl) (by kernel_rfl) (by kernel_rfl) (by kernel_rfl) (by simp [All_cons, All_nil, Clo, Ids]) (by
      simp only [List.map, All_cons, All_nil, and_true]
      exact ⟨hb.clo _, (qrows_bare _ _).clo _⟩)
  | f + 1, i, out, T, y, x, e, hp, hT, hyx => by
    have hi : i < n := by omega
    obtain ⟨g1, g2, g3⟩ := prefix_good (m := i) (by omega) hw hp i (Nat.le_refl _)
    have g3x : 0 ≤ x ∧ x ≤ 2 ^ 40 := by
      have e3 : x = (curZ w out i).2 := by rw [← hyx]
      rw [e3]; omega
    rw [← hyx] at g2
    rw [← hT] at g1
    simp only at g2
    have nw := hw i hi
    have n1 := nw.a; have n2 := nw.b; have n3 := nw.c; have n4 := nw.d
    have sw := norm_small hC.2 nw
    have hM : 0 ≤ downM i ∧ downM i ≤ 2 ^ 39 := by unfold downM; omega
    have hlen : T.length ≤ 2 ^ 40 := by have := takenL_len w out n i; rw [← hT] at this; omega
    have c1 : (i : Int) < n := by omega
    have c5 : 0 ≤ (i : Int) ∧ (i : Int) < (n : Int) ∧ 4 = 4 := ⟨by omega, by omega, rfl⟩
    have rg : (qrows n fun j => if j < i then out j else w j)[0 + Int.toNat (i : Int)]? = some (w i).val := by rw [show 0 + Int.toNat (i : Int) = i by simp, qrows_get hi]; simp
    have c6 : (ABlk.made (qrows n fun j => if j < i then out j else w j) 4 true).elem? 0 (0 + Int.toNat (i : Int)) = some (w i).val := elem_made rg
    have f5 : -9223372036854775808 ≤ (i : Int) + 1 ∧ (i : Int) + (1 : Int) ≤ 9223372036854775807 := by omega
    have es : ∀ r : Qd, List.set (qrows n fun j => if j < i then out j else w j) (0 + Int.toNat (i : Int)) (.agg [.int .i64 r.a, .int .i64 r.b, .int .i64 r.c, .int .i64 r.d]) = qrows n fun j => if j < i + 1 then (if j = i then r else out j) else w j := fun r => by
      rw [show 0 + Int.toNat (i : Int) = i by simp]; exact row_step
    have back : ∀ {h0 : AHeap} (T2 : List Qd) (k2 : Nat) (y2 x2 : Int) (g : Nat → Qd), [h0.get 0, h0.get 8, h0.get 12, h0.get 13] = [some b, some (brdRow C (tSlN k2) k2 k2), some (.made (qrows n g) 4 true), some (tRow T2)] →
        Ent 1 135 [(5, .ptr (some ⟨8, 0, 0, 0, 2⟩)), (6, .slice (some ⟨12, 0, 0, 0, 4⟩) n n), (9, .int .i64 y2), (10, .int .i64 x2), (80, .slice (some ⟨12, 0, 0, 0, 4⟩) n n), (81, .int .i64 n), (82, .int .i64 (i + 1 : Nat))] h0
          [(5, .ptr (some ⟨8, 0, 0, 0, 2⟩)), (6, .slice (some ⟨12, 0, 0, 0, 4⟩) n n), (9, .int .i64 y2), (10, .int .i64 x2), (80, .slice (some ⟨12, 0, 0, 0, 4⟩) n n), (81, .int .i64 n), (82, .int .i64 (i + 1 : Nat))] (stH 14 b C T2 k2 (qrows n g)) := fun T2 k2 y2 x2 g e1 =>
      Ent.drop e1 (by kernel_rfl) (by kernel_rfl) (by kernel_rfl) (by simp [All_cons, All_nil, Clo]; simp [Ids]) (by
        simp only [List.map, All_cons, All_nil, and_true]
        exact ⟨hb.clo _, brd_cloI (tSl_clo (by simp [Ids])), (qrows_bare _ _).clo _, (tRow_bare _).clo _⟩)
    -- what is known once a place is found
    have nxt : ∀ r : Qd, PlaceZ C T (y, x) (w i) r → (∀ j, j < i + 1 → PlaceZ C (takenL w (fun j => if j = i then r else out j) n j) (curZ w (fun j => if j = i then r else out j) j) (w j) (if j = i then r else out j)) ∧ takenL w (fun j => if j = i then r else out j) n i = T ∧ curZ w (fun j => if j = i then r else out j) i = (y, x) := fun r hr => by
      have cg : ∀ j, j ≤ i → takenL w (fun j => if j = i then r else out j) n j = takenL w out n j ∧ curZ w (fun j => if j = i then r else out j) j = curZ w out j := fun j hj => takenL_congr fun k hk => by rw [if_neg (by omega)]
      refine ⟨fun j hj => ?_, by rw [(cg i (Nat.le_refl _)).1, hT], by rw [(cg i (Nat.le_refl _)).2, hyx]⟩
      by_cases c : j = i
      · subst c
        rw [(cg j (Nat.le_refl _)).1, (cg j (Nat.le_refl _)).2, if_pos rfl, ← hT, ← hyx]; exact hr
      · rw [(cg j (by omega)).1, (cg j (by omega)).2, if_neg c]; exact hp j (by omega)
    by_cases ha : (w i).a ≥ 0
    · by_cases hbb : (w i).b ≥ 0
      · -- it has its place
        have fx : fixedZ (w i) = true := (fixedZ_iff _).2 ⟨ha, hbb⟩
        obtain ⟨m1, m2, m3⟩ := nxt (w i) (by unfold PlaceZ; rw [if_pos fx])
        obtain ⟨o2, q1, l⟩ := fx_loop f (i + 1) (fun j => if j = i then w i else out j) T y x (by omega) m1 (by simp only [takenL, fx, if_true]; exact m2.symm) (by simp only [curZ]; rw [if_neg (by omega)]; exact m3.symm)
        rw [show (qrows n fun j => if j < i + 1 then (if j = i then w i else out j) else w j) = (qrows n fun j => if j < i then out j else w j) from qrows_congr fun j _ => by
          by_cases c : j = i
          · subst c; simp
          · by_cases c2 : j < i
            · rw [if_pos c2, if_pos (by omega), if_neg c]
            · rw [if_neg c2, if_neg (by omega)]] at l
        exact ⟨o2, q1, Loops.step ((fx_fixed n 0 0 i C b (tRow T) b _ y x (w i).a (w i).b (w i).c (w i).d 0 0 0 0 (.slice (tSlN T.length) T.length T.length) c1 c5 c6 ha hbb f5).post (i := back T T.length y x _ (by kernel_rfl))) l⟩
      · -- down
        have fx : ¬ fixedZ (w i) = true := fun h => hbb ((fixedZ_iff _).1 h).2
        have fin : ∀ r : Qd, DownZ T (w i) r → PlaceZ C T (y, x) (w i) r ∧ True := fun r hr => ⟨by unfold PlaceZ; rw [if_neg fx, if_neg hbb, if_pos (by omega)]; exact hr, trivial⟩
        have ih : ∀ r : Qd, DownZ T (w i) r → ∃ o2, FlowZ C n w o2 ∧ Loops Try.prog 1 135 (loopAt Try.prog 13 1) [(5, .ptr (some ⟨8, 0, 0, 0, 2⟩)), (6, .slice (some ⟨12, 0, 0, 0, 4⟩) n n), (9, .int .i64 y), (10, .int .i64 x), (80, .slice (some ⟨12, 0, 0, 0, 4⟩) n n), (81, .int .i64 n), (82, .int .i64 (i + 1 : Nat))]
            (stH 14 b C (T ++ [r]) (T.length + 1) (qrows n fun j => if j < i + 1 then (if j = i then r else out j) else w j)) (.exit 2) [(6, .slice (some ⟨12, 0, 0, 0, 4⟩) n n)] (AHeap.rows 15 [(0, b), (12, .made (qrows n o2) 4 true)]) := fun r hr => by
          obtain ⟨m1, m2, m3⟩ := nxt r (fin r hr).1
          have := fx_loop f (i + 1) (fun j => if j = i then r else out j) (T ++ [r]) y x (by omega) m1 (by simp only [takenL]; rw [if_neg fx, m2, if_pos trivial]) (by simp only [curZ]; rw [if_neg (by omega)]; exact m3.symm)
          rwa [show (T ++ [r]).length = T.length + 1 by simp] at this
        cases hc : T.length with
        | zero =>
          have t0 : T = [] := List.eq_nil_of_length_eq_zero hc
          have bd : BoardAt (AHeap.rows 41 [(0, b), (8, brdRow C none 0 0), (12, .made (qrows n fun j => if j < i then out j else w j) 4 true), (17, .made [(w i).val] 4 true)]) 8 0 C none 0 0 0 b T := ⟨by kernel_rfl, by kernel_rfl, .inr ⟨rfl, rfl, rfl⟩, by decide, by rw [AHeap.rows_next]; omega, by rw [AHeap.rows_next]; omega, hb, hc, fun j t h => by rw [t0] at h; simp at h⟩
          obtain ⟨r, r1, r2⟩ := down_does bd g1 hC.2 hM (by omega) sw
          obtain ⟨o2, q1, l⟩ := ih r r1
          subst t0
          refine ⟨o2, q1, ?_⟩
          have st := fx_dn_new n 0 0 i C b b (tRow [r]) _ y x (w i).a (w i).b (w i).c (w i).d r.a r.b r.c r.d c1 c5 c6 ha hbb hbb ha r2 c5 ⟨rfl, rg⟩ ((tApp1 r _ _ _ (by kernel_rfl)).trans (by kernel_rfl)) f5
          rw [es r] at st
          have pre : Ent 1 135 [(5, .ptr (some ⟨8, 0, 0, 0, 2⟩)), (6, .slice (some ⟨12, 0, 0, 0, 4⟩) n n), (9, .int .i64 y), (10, .int .i64 x), (80, .slice (some ⟨12, 0, 0, 0, 4⟩) n n), (81, .int .i64 n), (82, .int .i64 i)] (stH 14 b C [] 0 (qrows n fun j => if j < i then out j else w j))
              [(5, .ptr (some ⟨8, 0, 0, 0, 2⟩)), (6, .slice (some ⟨12, 0, 0, 0, 4⟩) n n), (9, .int .i64 y), (10, .int .i64 x), (80, .slice (some ⟨12, 0, 0, 0, 4⟩) n n), (81, .int .i64 n), (82, .int .i64 i)] (AHeap.rows 13 [(0, b), (8, brdRow C none 0 0), (12, .made (qrows n fun j => if j < i then out j else w j) 4 true)]) :=
            Ent.drop (by kernel_rfl) (by kernel_rfl) (by kernel_rfl) (by kernel_rfl) (by simp [All_cons, All_nil, Clo]; simp [Ids]) (by
              simp only [List.map, All_cons, All_nil, and_true]
              exact ⟨hb.clo _, brd_cloI (by simp [Clo]), (qrows_bare _ _).clo _⟩)
          exact Tri.pre (Loops.step (st.post (i := fx_mv hn hC hb hw (N := 53) (by omega) y x (i + 1) r _ (by kernel_rfl))) l) pre
        | succ k0 =>
          have bd : BoardAt (AHeap.rows 42 [(0, b), (8, brdRow C (some ⟨13, k0, 0, 0, 4⟩) (k0 + 1) (k0 + 1)), (12, .made (qrows n fun j => if j < i then out j else w j) 4 true), (13, tRow T), (18, .made [(w i).val] 4 true)]) 8 13 C (some ⟨13, k0, 0, 0, 4⟩) (k0 + 1) (k0 + 1) k0 (tRow T) T := ⟨by kernel_rfl, by kernel_rfl, .inl rfl, by decide, by rw [AHeap.rows_next]; omega, by rw [AHeap.rows_next]; omega, tRow_bare _, hc, tRow_el hc⟩
          obtain ⟨r, r1, r2⟩ := down_does bd g1 hC.2 hM (by omega) sw
          obtain ⟨o2, q1, l⟩ := ih r r1
          rw [hc] at l
          refine ⟨o2, q1, ?_⟩
          have st := fx_dn_grow n k0 (k0 + 1) i C b (tRow T) (tRow (T ++ [r])) _ y x (w i).a (w i).b (w i).c (w i).d r.a r.b r.c r.d c1 c5 c6 ha hbb hbb ha r2 c5 ⟨rfl, rg⟩ ((tAppG hc (by omega) r _ _ _ (by kernel_rfl) (by kernel_rfl)).trans (by kernel_rfl)) f5
          rw [es r] at st
          exact Loops.step (st.post (i := back (T ++ [r]) (k0 + 1 + 1) y x _ (by kernel_rfl))) l
    · by_cases hbb : (w i).b ≥ 0
      · -- across
        have fx : ¬ fixedZ (w i) = true := fun h => ha ((fixedZ_iff _).1 h).1
        have ih : ∀ r : Qd, AcrossZ T C (w i) r → ∃ o2, FlowZ C n w o2 ∧ Loops Try.prog 1 135 (loopAt Try.prog 13 1) [(5, .ptr (some ⟨8, 0, 0, 0, 2⟩)), (6, .slice (some ⟨12, 0, 0, 0, 4⟩) n n), (9, .int .i64 y), (10, .int .i64 x), (80, .slice (some ⟨12, 0, 0, 0, 4⟩) n n), (81, .int .i64 n), (82, .int .i64 (i + 1 : Nat))]
            (stH 14 b C (T ++ [r]) (T.length + 1) (qrows n fun j => if j < i + 1 then (if j = i then r else out j) else w j)) (.exit 2) [(6, .slice (some ⟨12, 0, 0, 0, 4⟩) n n)] (AHeap.rows 15 [(0, b), (12, .made (qrows n o2) 4 true)]) := fun r hr => by
          obtain ⟨m1, m2, m3⟩ := nxt r (by unfold PlaceZ; rw [if_neg fx, if_pos (by omega)]; exact hr)
          have := fx_loop f (i + 1) (fun j => if j = i then r else out j) (T ++ [r]) y x (by omega) m1 (by simp only [takenL]; rw [if_neg fx, m2, if_pos trivial]) (by simp only [curZ]; rw [if_neg (by omega)]; exact m3.symm)
          rwa [show (T ++ [r]).length = T.length + 1 by simp] at this
        cases hc : T.length with
        | zero =>
          have t0 : T = [] := List.eq_nil_of_length_eq_zero hc
          have bd : BoardAt (AHeap.rows 37 [(0, b), (8, brdRow C none 0 0), (12, .made (qrows n fun j => if j < i then out j else w j) 4 true), (17, .made [(w i).val] 4 true)]) 8 0 C none 0 0 0 b T := ⟨by kernel_rfl, by kernel_rfl, .inr ⟨rfl, rfl, rfl⟩, by decide, by rw [AHeap.rows_next]; omega, by rw [AHeap.rows_next]; omega, hb, hc, fun j t h => by rw [t0] at h; simp at h⟩
          obtain ⟨r, r1, r2⟩ := across_does bd g1 hC.2 hM (by omega) sw n3.1
          obtain ⟨o2, q1, l⟩ := ih r r1
          subst t0
          refine ⟨o2, q1, ?_⟩
          have st := fx_ac_new n 0 0 i C b b (tRow [r]) _ y x (w i).a (w i).b (w i).c (w i).d r.a r.b r.c r.d c1 c5 c6 ha hbb r2 c5 ⟨rfl, rg⟩ ((tApp1 r _ _ _ (by kernel_rfl)).trans (by kernel_rfl)) f5
          rw [es r] at st
          have pre : Ent 1 135 [(5, .ptr (some ⟨8, 0, 0, 0, 2⟩)), (6, .slice (some ⟨12, 0, 0, 0, 4⟩) n n), (9, .int .i64 y), (10, .int .i64 x), (80, .slice (some ⟨12, 0, 0, 0, 4⟩) n n), (81, .int .i64 n), (82, .int .i64 i)] (stH 14 b C [] 0 (qrows n fun j => if j < i then out j else w j))
              [(5, .ptr (some ⟨8, 0, 0, 0, 2⟩)), (6, .slice (some ⟨12, 0, 0, 0, 4⟩) n n), (9, .int .i64 y), (10, .int .i64 x), (80, .slice (some ⟨12, 0, 0, 0, 4⟩) n n), (81, .int .i64 n), (82, .int .i64 i)] (AHeap.rows 13 [(0, b), (8, brdRow C none 0 0), (12, .made (qrows n fun j => if j < i then out j else w j) 4 true)]) :=
            Ent.drop (by kernel_rfl) (by kernel_rfl) (by kernel_rfl) (by kernel_rfl) (by simp [All_cons, All_nil, Clo]; simp [Ids]) (by
              simp only [List.map, All_cons, All_nil, and_true]
              exact ⟨hb.clo _, brd_cloI (by simp [Clo]), (qrows_bare _ _).clo _⟩)
          exact Tri.pre (Loops.step (st.post (i := fx_mv hn hC hb hw (N := 49) (by omega) y x (i + 1) r _ (by kernel_rfl))) l) pre
        | succ k0 =>
          have bd : BoardAt (AHeap.rows 38 [(0, b), (8, brdRow C (some ⟨13, k0, 0, 0, 4⟩) (k0 + 1) (k0 + 1)), (12, .made (qrows n fun j => if j < i then out j else w j) 4 true), (13, tRow T), (18, .made [(w i).val] 4 true)]) 8 13 C (some ⟨13, k0, 0, 0, 4⟩) (k0 + 1) (k0 + 1) k0 (tRow T) T := ⟨by kernel_rfl, by kernel_rfl, .inl rfl, by decide, by rw [AHeap.rows_next]; omega, by rw [AHeap.rows_next]; omega, tRow_bare _, hc, tRow_el hc⟩
          obtain ⟨r, r1, r2⟩ := across_does bd g1 hC.2 hM (by omega) sw n3.1
          obtain ⟨o2, q1, l⟩ := ih r r1
          rw [hc] at l
          refine ⟨o2, q1, ?_⟩
          have st := fx_ac_grow n k0 (k0 + 1) i C b (tRow T) (tRow (T ++ [r])) _ y x (w i).a (w i).b (w i).c (w i).d r.a r.b r.c r.d c1 c5 c6 ha hbb r2 c5 ⟨rfl, rg⟩ ((tAppG hc (by omega) r _ _ _ (by kernel_rfl) (by kernel_rfl)).trans (by kernel_rfl)) f5
          rw [es r] at st
          exact Loops.step (st.post (i := back (T ++ [r]) (k0 + 1 + 1) y x _ (by kernel_rfl))) l
      · -- behind
        have fx : ¬ fixedZ (w i) = true := fun h => ha ((fixedZ_iff _).1 h).1
        have ih : ∀ r : Qd, BehindZ T C (w i) y x r → ∃ o2, FlowZ C n w o2 ∧ Loops Try.prog 1 135 (loopAt Try.prog 13 1) [(5, .ptr (some ⟨8, 0, 0, 0, 2⟩)), (6, .slice (some ⟨12, 0, 0, 0, 4⟩) n n), (9, .int .i64 r.b), (10, .int .i64 r.a), (80, .slice (some ⟨12, 0, 0, 0, 4⟩) n n), (81, .int .i64 n), (82, .int .i64 (i + 1 : Nat))]
            (stH 14 b C (T ++ [r]) (T.length + 1) (qrows n fun j => if j < i + 1 then (if j = i then r else out j) else w j)) (.exit 2) [(6, .slice (some ⟨12, 0, 0, 0, 4⟩) n n)] (AHeap.rows 15 [(0, b), (12, .made (qrows n o2) 4 true)]) := fun r hr => by
          obtain ⟨m1, m2, m3⟩ := nxt r (by unfold PlaceZ; rw [if_neg fx, if_neg hbb, if_neg ha]; exact hr)
          have := fx_loop f (i + 1) (fun j => if j = i then r else out j) (T ++ [r]) r.b r.a (by omega) m1 (by simp only [takenL]; rw [if_neg fx, m2, if_pos trivial]) (by simp only [curZ]; rw [if_pos ⟨by omega, by omega⟩, if_pos trivial])
          rwa [show (T ++ [r]).length = T.length + 1 by simp] at this
        cases hc : T.length with
        | zero =>
          have t0 : T = [] := List.eq_nil_of_length_eq_zero hc
          have bd : BoardAt (AHeap.rows 43 [(0, b), (8, brdRow C none 0 0), (12, .made (qrows n fun j => if j < i then out j else w j) 4 true), (17, .made [(w i).val] 4 true)]) 8 0 C none 0 0 0 b T := ⟨by kernel_rfl, by kernel_rfl, .inr ⟨rfl, rfl, rfl⟩, by decide, by rw [AHeap.rows_next]; omega, by rw [AHeap.rows_next]; omega, hb, hc, fun j t h => by rw [t0] at h; simp at h⟩
          obtain ⟨r, r1, r2⟩ := behind_does bd g1 hC.2 hM (by omega) sw n3 g2 g3x
          obtain ⟨o2, q1, l⟩ := ih r r1
          subst t0
          refine ⟨o2, q1, ?_⟩
          have st := fx_bh_new n 0 0 i C b b (tRow [r]) _ y x (w i).a (w i).b (w i).c (w i).d r.a r.b r.c r.d c1 c5 c6 ha hbb ha r2 c5 ⟨rfl, rg⟩ ((tApp1 r _ _ _ (by kernel_rfl)).trans (by kernel_rfl)) f5
          rw [es r] at st
          have pre : Ent 1 135 [(5, .ptr (some ⟨8, 0, 0, 0, 2⟩)), (6, .slice (some ⟨12, 0, 0, 0, 4⟩) n n), (9, .int .i64 y), (10, .int .i64 x), (80, .slice (some ⟨12, 0, 0, 0, 4⟩) n n), (81, .int .i64 n), (82, .int .i64 i)] (stH 14 b C [] 0 (qrows n fun j => if j < i then out j else w j))
              [(5, .ptr (some ⟨8, 0, 0, 0, 2⟩)), (6, .slice (some ⟨12, 0, 0, 0, 4⟩) n n), (9, .int .i64 y), (10, .int .i64 x), (80, .slice (some ⟨12, 0, 0, 0, 4⟩) n n), (81, .int .i64 n), (82, .int .i64 i)] (AHeap.rows 13 [(0, b), (8, brdRow C none 0 0), (12, .made (qrows n fun j => if j < i then out j else w j) 4 true)]) :=
            Ent.drop (by kernel_rfl) (by kernel_rfl) (by kernel_rfl) (by kernel_rfl) (by simp [All_cons, All_nil, Clo]; simp [Ids]) (by
              simp only [List.map, All_cons, All_nil, and_true]
              exact ⟨hb.clo _, brd_cloI (by simp [Clo]), (qrows_bare _ _).clo _⟩)
          exact Tri.pre (Loops.step (st.post (i := fx_mv hn hC hb hw (N := 61) (by omega) r.b r.a (i + 1) r _ (by kernel_rfl))) l) pre
        | succ k0 =>
          have bd : BoardAt (AHeap.rows 44 [(0, b), (8, brdRow C (some ⟨13, k0, 0, 0, 4⟩) (k0 + 1) (k0 + 1)), (12, .made (qrows n fun j => if j < i then out j else w j) 4 true), (13, tRow T), (18, .made [(w i).val] 4 true)]) 8 13 C (some ⟨13, k0, 0, 0, 4⟩) (k0 + 1) (k0 + 1) k0 (tRow T) T := ⟨by kernel_rfl, by kernel_rfl, .inl rfl, by decide, by rw [AHeap.rows_next]; omega, by rw [AHeap.rows_next]; omega, tRow_bare _, hc, tRow_el hc⟩
          obtain ⟨r, r1, r2⟩ := behind_does bd g1 hC.2 hM (by omega) sw n3 g2 g3x
          obtain ⟨o2, q1, l⟩ := ih r r1
          rw [hc] at l
          refine ⟨o2, q1, ?_⟩
          have st := fx_bh_grow n k0 (k0 + 1) i C b (tRow T) (tRow (T ++ [r])) _ y x (w i).a (w i).b (w i).c (w i).d r.a r.b r.c r.d c1 c5 c6 ha hbb ha r2 c5 ⟨rfl, rg⟩ ((tAppG hc (by omega) r _ _ _ (by kernel_rfl) (by kernel_rfl)).trans (by kernel_rfl)) f5
          rw [es r] at st
          exact Loops.step (st.post (i := back (T ++ [r]) (k0 + 1 + 1) r.b r.a _ (by kernel_rfl))) l
end

end Go.Proofs.Ytcgcpmcjaeenlaa

namespace Go.Proofs.Ytcgcpmcjaeenlaa
open Go.Lift
set_option maxRecDepth 1000000
set_option linter.unusedSimpArgs false
set_option linter.unusedVariables false
set_option linter.unusedSectionVars false

/-- how many spans are told -/
def flen (n : Nat) : Nat := if 4096 < n then 0 else n
theorem colsZ_range (cols : Int) : 1 ≤ colsZ cols ∧ colsZ cols ≤ 64 := by unfold colsZ; omega

/-- what grid.Flow tells of a list -/
def FlowsTo (n : Nat) (src : Nat → Qd) (cols : Int) (out : Nat → Qd) : Prop := FlowZ (colsZ cols) (flen n) (fun j => normZ (colsZ cols) (src j)) out

theorem flow_does {H : AHeap} {o : Option AAddr} {n c id ver off : Nat} {b : ABlk} {src : Nat → Qd} (h : QdsAt H o n c id ver off b src) (cols : Int) (hn : n ≤ 4096) :
    ∃ out, FlowZ (colsZ cols) n (fun j => normZ (colsZ cols) (src j)) out ∧ FDoes Try.prog 13 [.slice o n c, .int .i64 cols] H (.slice (some ⟨H.next, 0, 0, 0, 4⟩) n n) (H.upd [] [.made (qrows n out) 4 true]) := by
  have s1 := h.sl.at 0
  have cr := colsZ_range cols
  obtain ⟨C, hC⟩ : ∃ C : Nat, (C : Int) = colsZ cols := ⟨(colsZ cols).toNat, by omega⟩
  rw [← hC]
  have hC2 : 1 ≤ C ∧ C ≤ 64 := by omega
  obtain ⟨k, hk, l1⟩ := fl_loop hn hC2 s1 h.bare h.el n 0 [] (by omega) rfl (Nat.le_refl _)
  obtain ⟨out, fo, l2⟩ := fx_loop hn hC2 h.bare (w := fun j => normZ C (src j)) (fun j _ => normZ_ok (by omega) _) n 0 (fun _ => Qd0) (fixedL (fun j => normZ C (src j)) n) 0 0 (by omega) (fun j hj => by omega) rfl rfl
  refine ⟨out, fo, ?_⟩
  rw [hk] at l2
  rw [show (qrows n fun j => if j < 0 then normZ C (src j) else Qd0) = List.replicate n Qd0.val from (qrows_zero2 _ _).symm] at l1
  rw [show (qrows n fun j => if j < 0 then Qd0 else normZ C (src j)) = (qrows n fun j => normZ C (src j)) from qrows_congr fun j _ => by rw [if_neg (by omega)]] at l2
  have d0 : Clo (Ids [0, 8, 12]) (.slice (o.map fun a => { a with id := 0 }) n c) := s1.clo (by simp [Ids])
  have p1 : Ent 1 135 [(5, .ptr (some ⟨8, 0, 0, 0, 2⟩)), (6, .slice (some ⟨12, 0, 0, 0, 4⟩) n n), (23, .slice (o.map fun a => { a with id := 0 }) n c), (24, .int .i64 n), (25, .int .i64 (0 : Nat))] (AHeap.rows 17 [(0, b), (8, brdRow C none 0 0), (12, .made (List.replicate n Qd0.val) 4 true)])
      [(5, .ptr (some ⟨8, 0, 0, 0, 2⟩)), (6, .slice (some ⟨12, 0, 0, 0, 4⟩) n n), (23, .slice (o.map fun a => { a with id := 0 }) n c), (24, .int .i64 n), (25, .int .i64 (0 : Nat))] (AHeap.rows 13 [(0, b), (8, brdRow C none 0 0), (12, .made (List.replicate n Qd0.val) 4 true)]) :=
    Ent.drop (by kernel_rfl) (by kernel_rfl) (by kernel_rfl) (by kernel_rfl) (by simp [All_cons, All_nil, Clo, d0]; simp [Ids]) (by
      simp only [List.map, All_cons, All_nil, and_true]
      exact ⟨h.bare.clo _, brd_cloI (by simp [Clo]), by rw [qrows_zero]; exact (qrows_bare _ _).clo _⟩)
  have p2 : Ent 1 135 [(5, .ptr (some ⟨8, 0, 0, 0, 2⟩)), (6, .slice (some ⟨12, 0, 0, 0, 4⟩) n n), (23, .slice (o.map fun a => { a with id := 0 }) n c), (24, .int .i64 n), (25, .int .i64 (0 : Nat))] (AHeap.rows 13 [(0, b), (8, brdRow C none 0 0), (12, .made (List.replicate n Qd0.val) 4 true)])
      [(5, .ptr (some ⟨8, 0, 0, 0, 2⟩)), (6, .slice (some ⟨12, 0, 0, 0, 4⟩) n n), (23, .slice (o.map fun a => { a with id := 0 }) n c), (24, .int .i64 n), (25, .int .i64 (0 : Nat))] (stH 14 b C [] 0 (List.replicate n Qd0.val)) :=
    Ent.more (l2 := [(13, tRow [])]) (by kernel_rfl) (by kernel_rfl)
  have p3 : Ent 1 135 [(5, .ptr (some ⟨8, 0, 0, 0, 2⟩)), (6, .slice (some ⟨12, 0, 0, 0, 4⟩) n n), (9, .int .i64 0), (10, .int .i64 0), (80, .slice (some ⟨12, 0, 0, 0, 4⟩) n n), (81, .int .i64 n), (82, .int .i64 (0 : Nat))] (stH 20 b C (fixedL (fun j => normZ C (src j)) n) k (qrows n fun j => normZ C (src j)))
      [(5, .ptr (some ⟨8, 0, 0, 0, 2⟩)), (6, .slice (some ⟨12, 0, 0, 0, 4⟩) n n), (9, .int .i64 0), (10, .int .i64 0), (80, .slice (some ⟨12, 0, 0, 0, 4⟩) n n), (81, .int .i64 n), (82, .int .i64 (0 : Nat))] (stH 14 b C (fixedL (fun j => normZ C (src j)) n) k (qrows n fun j => normZ C (src j))) :=
    Ent.drop (by kernel_rfl) (by kernel_rfl) (by kernel_rfl) (by kernel_rfl) (by simp [All_cons, All_nil, Clo]; simp [Ids]) (by
      simp only [List.map, All_cons, All_nil, and_true]
      exact ⟨h.bare.clo _, brd_cloI (tSl_clo (by simp [Ids])), (qrows_bare _ _).clo _, (tRow_bare _).clo _⟩)
  have wi := gwithin_does cols 1 64 (AHeap.rows 10 [(0, b)])
  rw [show min (max cols 1) 64 = (C : Int) from hC.symm] at wi
  have kk := (fl_call _ n c C b (tRow (fixedL (fun j => normZ C (src j)) n)) _ _ cols (.slice (tSlN k) k k) (.slice (tSlN k) k k) (by omega) wi ⟨by omega, by omega, by omega, by omega⟩ (Runs.of_loops (Tri.pre l1 (p1.trans p2))) (Runs.of_loops (Tri.pre l2 p3))).new1 (bn := .made (qrows n out) 4 true)
    (by simp [h.bare]) (qrows_bare _ _) (by kernel_rfl) (by kernel_rfl) (by simp) (by simp [Clos, Clo, s1.clo]) (H := H) [id] (by simp) (by simp [h.lt]) (by simp [h.get])
  simpa [h.sl.back (id' := 0) (r := toBig [id] H.next) rfl, AVal.ren] using kk

theorem flow_any {H : AHeap} {o : Option AAddr} {n c id ver off : Nat} {b : ABlk} {src : Nat → Qd} (h : QdsAt H o n c id ver off b src) (cols : Int) {N : Nat} (hN : H.next = N) :
    ∃ (o' : Option AAddr) (c' : Nat) (out : Nat → Qd), SlArg o' (flen n) c' N 0 0 4 ∧ c' = flen n ∧ FlowsTo n src cols out ∧ FDoes Try.prog 13 [.slice o n c, .int .i64 cols] H (.slice o' (flen n) c') (H.upd [] [.made (qrows (flen n) out) 4 true]) := by
  subst hN
  unfold FlowsTo
  by_cases hn : 4096 < n
  · have e : flen n = 0 := by unfold flen; rw [if_pos hn]
    rw [e]
    have s1 := h.sl.at 0
    have kk := (fl_nil (o.map fun a => { a with id := 0 }) n c 0 b b [] [] cols (.int .i64 0) (.int .i64 0) (by omega)).pure (by simp [h.bare]) (by kernel_rfl) ⟨fun r => rfl, trivial⟩ (by simp [Clos, Clo, s1.clo]) (H := H) [id] (by simp) (by simp [h.lt]) (by simp [h.get])
    have k2 : FDoes Try.prog 13 [.slice o n c, .int .i64 cols] H (.slice none 0 0) H := by
      simpa [h.sl.back (id' := 0) (r := toBig [id] H.next) rfl, AVal.ren] using kk
    exact ⟨none, 0, fun _ => Qd0, .inr ⟨rfl, rfl, rfl⟩, rfl, fun i hi => by omega, k2.pad1 _⟩
  · have e : flen n = n := by unfold flen; rw [if_neg hn]
    rw [e]
    obtain ⟨out, fo, k⟩ := flow_does h cols (by omega)
    exact ⟨some ⟨H.next, 0, 0, 0, 4⟩, n, out, .inl rfl, rfl, fo, k⟩

end Go.Proofs.Ytcgcpmcjaeenlaa

namespace Go.Lift
noncomputable section
set_option linter.unusedVariables false
set_option linter.unusedSimpArgs false

section
variable {β : Type}

def fNat (n : Nat) (k : Nat → β) : β := Nat.rec (motive := fun _ => β) (k 0) (fun m _ => k (Nat.succ m)) n
theorem fNat_eq (n : Nat) (k : Nat → β) : fNat n k = k n := by cases n <;> rfl

def fInt (n : Int) (k : Int → β) : β :=
  match n with
  | .ofNat m => fNat m fun m => k (.ofNat m)
  | .negSucc m => fNat m fun m => k (.negSucc m)
theorem fInt_eq (n : Int) (k : Int → β) : fInt n k = k n := by cases n <;> simp [fInt, fNat_eq]

def fKind (d : IntKind) (k : IntKind → β) : β :=
  match d with
  | .i8 => k .i8 | .i16 => k .i16 | .i32 => k .i32 | .i64 => k .i64 | .u8 => k .u8 | .u16 => k .u16 | .u32 => k .u32 | .u64 => k .u64
theorem fKind_eq (d : IntKind) (k : IntKind → β) : fKind d k = k d := by cases d <;> rfl

def fBool (b : Bool) (k : Bool → β) : β :=
  match b with
  | true => k true
  | false => k false
theorem fBool_eq (b : Bool) (k : Bool → β) : fBool b k = k b := by cases b <;> rfl

def fAddr (a : AAddr) (k : AAddr → β) : β :=
  match a with
  | ⟨a, b, c, d, e⟩ => fNat a fun a => fNat b fun b => fNat c fun c => fNat d fun d => fNat e fun e => k ⟨a, b, c, d, e⟩
theorem fAddr_eq (a : AAddr) (k : AAddr → β) : fAddr a k = k a := by cases a; simp [fAddr, fNat_eq]

def fByte (b : UInt8) (k : UInt8 → β) : β :=
  match b with
  | ⟨⟨⟨n, h⟩⟩⟩ => fNat n fun m => k (UInt8.ofNat m)
theorem fByte_eq (b : UInt8) (k : UInt8 → β) : fByte b k = k b := by
  obtain ⟨⟨⟨n, h⟩⟩⟩ := b
  simp only [fByte, fNat_eq]
  congr 1
  apply UInt8.toNat_inj.1
  simp [UInt8.toNat, UInt8.ofNat]
  omega

def fBytes : List UInt8 → (List UInt8 → β) → β
  | [], k => k []
  | b :: r, k => fByte b fun b => fBytes r fun r => k (b :: r)
theorem fBytes_eq : ∀ (l : List UInt8) (k : List UInt8 → β), fBytes l k = k l
  | [], k => rfl
  | b :: r, k => by simp only [fBytes, fByte_eq, fBytes_eq r]

/-- a value without parts -/
def fS (v : AVal) (k : AVal → β) : β :=
  match v with
  | .undef => k .undef
  | .bool b => fBool b fun b => k (.bool b)
  | .int d n => fKind d fun d => fInt n fun n => k (.int d n)
  | .str s => fBytes s fun s => k (.str s)
  | .ptr none => k (.ptr none)
  | .ptr (some a) => fAddr a fun a => k (.ptr (some a))
  | .slice none n c => fNat n fun n => fNat c fun c => k (.slice none n c)
  | .slice (some a) n c => fAddr a fun a => fNat n fun n => fNat c fun c => k (.slice (some a) n c)
  | .nilFunc => k .nilFunc
  | .nilIface => k .nilIface
  | .func a b c => k (.func a b c)
  | .iface t v => k (.iface t v)
  | .agg l => k (.agg l)
  | .tuple l => k (.tuple l)
theorem fS_eq (v : AVal) (k : AVal → β) : fS v k = k v := by
  cases v with
  | ptr o => cases o <;> simp [fS, fAddr_eq]
  | slice o n c => cases o <;> simp [fS, fAddr_eq, fNat_eq]
  | _ => simp [fS, fBool_eq, fKind_eq, fInt_eq, fBytes_eq]

def fSs : List AVal → (List AVal → β) → β
  | [], k => k []
  | a :: r, k => fS a fun a => fSs r fun r => k (a :: r)
theorem fSs_eq : ∀ (l : List AVal) (k : List AVal → β), fSs l k = k l
  | [], k => rfl
  | a :: r, k => by simp only [fSs, fS_eq, fSs_eq r]

/-- parts of one layer -/
def fV1 (v : AVal) (k : AVal → β) : β :=
  match v with
  | .agg l => fSs l fun l => k (.agg l)
  | .iface t v => fNat t fun t => fS v fun v => k (.iface t v)
  | .func a b c => fSs b fun b => fSs c fun c => k (.func a b c)
  | .tuple l => fSs l fun l => k (.tuple l)
  | v => fS v k
theorem fV1_eq (v : AVal) (k : AVal → β) : fV1 v k = k v := by
  unfold fV1; split <;> simp [fS_eq, fSs_eq, fNat_eq]

def fV1s : List AVal → (List AVal → β) → β
  | [], k => k []
  | a :: r, k => fV1 a fun a => fV1s r fun r => k (a :: r)
theorem fV1s_eq : ∀ (l : List AVal) (k : List AVal → β), fV1s l k = k l
  | [], k => rfl
  | a :: r, k => by simp only [fV1s, fV1_eq, fV1s_eq r]

def fV (v : AVal) (k : AVal → β) : β :=
  match v with
  | .tuple l => fV1s l fun l => k (.tuple l)
  | .iface t v => fNat t fun t => fV1 v fun v => k (.iface t v)
  | v => fV1 v k
theorem fV_eq (v : AVal) (k : AVal → β) : fV v k = k v := by
  unfold fV; split <;> simp [fV1_eq, fV1s_eq, fNat_eq]

def fVs : List AVal → (List AVal → β) → β
  | [], k => k []
  | a :: r, k => fV a fun a => fVs r fun r => k (a :: r)
def fBlk (b : ABlk) (k : ABlk → β) : β :=
  match b with
  | ⟨l, es, ex, ro, v, m, f⟩ => fV1s l fun l => fNat es fun es => fBool ex fun ex => fBool ro fun ro => fNat v fun v => fNat m fun m => fNat f fun f => k ⟨l, es, ex, ro, v, m, f⟩
theorem fBlk_eq (b : ABlk) (k : ABlk → β) : fBlk b k = k b := by cases b; simp [fBlk, fV1s_eq, fNat_eq, fBool_eq]


/-! slots: a tree -/

def toL (n : Nat) (t : Trie AVal) : List AVal := (List.range n).map fun i => (t.get i).getD skipped

theorem toL_get (n : Nat) (t : Trie AVal) (i : Nat) : (toL n t)[i]? = if i < n then some ((t.get i).getD skipped) else none := by
  simp only [toL, List.getElem?_map]
  by_cases h : i < n
  · rw [List.getElem?_range h, if_pos h]; rfl
  · rw [List.getElem?_eq_none (by simpa using h), if_neg h]; rfl

def tget (n : Nat) (t : Trie AVal) (i : Nat) : Option AVal := cond (Nat.blt i n) (some (Option.rec (motive := fun _ => AVal) skipped (fun v => v) (t.get i))) none
theorem tget_eq (n : Nat) (t : Trie AVal) (i : Nat) : tget n t i = (toL n t)[i]? := by
  rw [toL_get]; unfold tget
  by_cases h : i < n
  · rw [show Nat.blt i n = true by simpa [Nat.blt_eq] using h, if_pos h]; cases t.get i <;> rfl
  · rw [show Nat.blt i n = false by cases hb : Nat.blt i n with | false => rfl | true => exact absurd (Nat.blt_eq.mp hb) h, if_neg h]; rfl

def agetT (n : Nat) (t : Trie AVal) (o : Operand) : AVal :=
  match o with
  | .tmp i => cond (Nat.blt i n) (Option.rec (motive := fun _ => AVal) skipped (fun v => v) (t.get i)) .undef
  | .const v => ofConst v
  | .global _ => .undef
  | .func f => .func (.func f) [] []
theorem agetT_eq (n : Nat) (t : Trie AVal) : agetT n t = agetOp (toL n t) := by
  funext o
  cases o with
  | tmp i =>
    have := tget_eq n t i
    simp only [agetOp, List.getD_eq_getElem?_getD, ← this]
    unfold tget
    show cond (Nat.blt i n) (Option.rec (motive := fun _ => AVal) skipped (fun v => v) (t.get i)) .undef = _
    cases Nat.blt i n <;> rfl
  | const v => rfl
  | global g => rfl
  | func f => rfl

theorem toL_set (n : Nat) (t : Trie AVal) (d : Nat) (v : AVal) : toL n (t.set d v) = (toL n t).set d v := by
  apply List.ext_getElem?
  intro i
  rw [toL_get, List.getElem?_set, toL_get]
  by_cases h : i < n
  · simp only [h, if_true, Trie.get_set]
    by_cases hd : d = i
    · subst hd; simp [toL, h]
    · simp [hd]
  · simp only [h, if_false]
    by_cases hd : d = i
    · subst hd; simp [toL, h]
    · simp [hd]

section
variable {α : Type}
def fSing (f : Nat) : Nat → α → (Trie α → β) → β :=
  Nat.rec (motive := fun _ => Nat → α → (Trie α → β) → β) (fun _ v c => c (.node (some v) .nil .nil))
    (fun _ ih k v c => cond (Nat.beq k 0) (c (.node (some v) .nil .nil)) (cond (Nat.beq (Nat.mod k 2) 1) (ih (Nat.div k 2) v fun u => c (.node none u .nil)) (ih (Nat.sub (Nat.div k 2) 1) v fun u => c (.node none .nil u)))) f
theorem fSing_eq : ∀ (f k : Nat) (v : α) (c : Trie α → β), fSing f k v c = c (Trie.sing f k v)
  | 0, k, v, c => rfl
  | f + 1, k, v, c => by
    show cond (Nat.beq k 0) (c (.node (some v) .nil .nil)) (cond (Nat.beq (k % 2) 1) (fSing f (k / 2) v fun u => c (.node none u .nil)) (fSing f (k / 2 - 1) v fun u => c (.node none .nil u))) =
      c (cond (Nat.beq k 0) (.node (some v) .nil .nil) (cond (Nat.beq (k % 2) 1) (.node none (Trie.sing f (k / 2) v) .nil) (.node none .nil (Trie.sing f (k / 2 - 1) v))))
    rw [fSing_eq f, fSing_eq f]
    cases Nat.beq k 0 <;> cases Nat.beq (k % 2) 1 <;> rfl

def fSetT (t : Trie α) : Nat → α → (Trie α → β) → β :=
  Trie.rec (motive := fun _ => Nat → α → (Trie α → β) → β) (fun k v c => fSing k k v c)
    (fun o l r sl sr k v c => cond (Nat.beq k 0) (c (.node (some v) l r)) (cond (Nat.beq (Nat.mod k 2) 1) (sl (Nat.div k 2) v fun u => c (.node o u r)) (sr (Nat.sub (Nat.div k 2) 1) v fun u => c (.node o l u)))) t
theorem fSetT_eq : ∀ (t : Trie α) (k : Nat) (v : α) (c : Trie α → β), fSetT t k v c = c (t.set k v)
  | .nil, k, v, c => fSing_eq k k v c
  | .node o l r, k, v, c => by
    show cond (Nat.beq k 0) (c (.node (some v) l r)) (cond (Nat.beq (k % 2) 1) (fSetT l (k / 2) v fun u => c (.node o u r)) (fSetT r (k / 2 - 1) v fun u => c (.node o l u))) =
      c (cond (Nat.beq k 0) (.node (some v) l r) (cond (Nat.beq (k % 2) 1) (.node o (l.set (k / 2) v) r) (.node o l (r.set (k / 2 - 1) v))))
    rw [fSetT_eq l, fSetT_eq r]
    cases Nat.beq k 0 <;> cases Nat.beq (k % 2) 1 <;> rfl

/-- the way down to a key, and what lies there, worked out -/
def fAt (f : α → (α → β) → β) (t : Trie α) : Nat → (Trie α → β) → β :=
  Trie.rec (motive := fun _ => Nat → (Trie α → β) → β) (fun _ c => c .nil)
    (fun o l r fl fr k c => cond (Nat.beq k 0) (Option.rec (motive := fun _ => β) (c (.node none l r)) (fun b => f b fun b => c (.node (some b) l r)) o) (cond (Nat.beq (Nat.mod k 2) 1) (fl (Nat.div k 2) fun u => c (.node o u r)) (fr (Nat.sub (Nat.div k 2) 1) fun u => c (.node o l u)))) t
theorem fAt_eq {f : α → (α → β) → β} (hf : ∀ a k, f a k = k a) : ∀ (t : Trie α) (k : Nat) (c : Trie α → β), fAt f t k c = c t
  | .nil, k, c => rfl
  | .node o l r, k, c => by
    show cond (Nat.beq k 0) (Option.rec (motive := fun _ => β) (c (.node none l r)) (fun b => f b fun b => c (.node (some b) l r)) o) (cond (Nat.beq (k % 2) 1) (fAt f l (k / 2) fun u => c (.node o u r)) (fAt f r (k / 2 - 1) fun u => c (.node o l u))) = _
    rw [fAt_eq hf l, fAt_eq hf r]
    cases o <;> cases Nat.beq k 0 <;> cases Nat.beq (k % 2) 1 <;> simp [hf]
end

def fPut (s : Trie AVal) (d : Option Tmp) (v : AVal) (k : Trie AVal → β) : β := Option.rec (motive := fun _ => β) (k s) (fun d => fSetT s d v k) d
theorem fPut_eq (n : Nat) (s : Trie AVal) (d : Option Tmp) (v : AVal) (k : Trie AVal → β) : fPut s d v k = k (Option.rec (motive := fun _ => Trie AVal) s (fun d => s.set d v) d) := by cases d <;> simp [fPut, fSetT_eq]
theorem toL_put (n : Nat) (s : Trie AVal) (d : Option Tmp) (v : AVal) : toL n (Option.rec (motive := fun _ => Trie AVal) s (fun d => s.set d v) d) = aput (toL n s) d v := by cases d <;> simp [aput, toL_set]

def fHeapTo (id : Nat) (h : AHeap) (k : AHeap → β) : β :=
  match h with
  | ⟨n, l⟩ => fAt fBlk l id fun l => k ⟨n, l⟩
theorem fHeapTo_eq (id : Nat) (h : AHeap) (k : AHeap → β) : fHeapTo id h k = k h := by cases h; simp [fHeapTo, fAt_eq fBlk_eq]

def fHeap (h : AHeap) (k : AHeap → β) : β :=
  match h with
  | ⟨n, l⟩ => fNat n fun n => k ⟨n, l⟩
theorem fHeap_eq (h : AHeap) (k : AHeap → β) : fHeap h k = k h := by cases h; simp [fHeap, fNat_eq]

/-- a part of memory worked out -/
inductive Turns where
  | no | at (id : Nat) | all

def fTurn (t : Turns) (h : AHeap) (k : AHeap → β) : β :=
  match t with
  | .no => k h
  | .at id => fHeapTo id h k
  | .all => fHeap h k
theorem fTurn_eq (t : Turns) (h : AHeap) (k : AHeap → β) : fTurn t h k = k h := by cases t <;> simp [fTurn, fHeapTo_eq, fHeap_eq]

/-- the head alone -/
def fW (v : AVal) (k : AVal → β) : β :=
  match v with
  | .undef => k .undef
  | .bool b => k (.bool b)
  | .int d n => k (.int d n)
  | .str s => k (.str s)
  | .ptr a => k (.ptr a)
  | .slice a n c => k (.slice a n c)
  | .nilFunc => k .nilFunc
  | .nilIface => k .nilIface
  | .func a b c => k (.func a b c)
  | .iface t v => k (.iface t v)
  | .agg l => k (.agg l)
  | .tuple l => k (.tuple l)
theorem fW_eq (v : AVal) (k : AVal → β) : fW v k = k v := by cases v <;> rfl

/-- is what it answers in some slot or row already, worked out? -/
def shallow (o : Op) : Bool :=
  match o with
  | .move (.tmp _) | .assign (.tmp _) | .pick _ (.tmp _) (.tmp _) | .extract _ _ | .load _ _ => true
  | .call c => match c.callee with | .value _ => true | _ => false
  | _ => false

def fRes (o : Op) (v : AVal) (k : AVal → β) : β := cond (shallow o) (fW v k) (fV v k)
theorem fRes_eq (o : Op) (v : AVal) (k : AVal → β) : fRes o v k = k v := by unfold fRes; cases shallow o <;> simp [fW_eq, fV_eq]
end

/-- which row an operation turns -/
def turnsOf (nid : Nat) (ρ : Operand → AVal) (o : Op) (v : AVal) : Turns :=
  match o with
  | .alloc _ | .box _ _ | .buildSlice _ _ _ | .makeSlice _ _ _ => .at nid
  | .store _ a _ => match ρ a with | .ptr (some a) => .at a.id | _ => .no
  | .call c =>
    match c.callee with
    | .value _ => .all
    | .builtin .append => match v with | .slice (some a) _ _ => .at a.id | _ => .no
    | _ => .no
  | _ => .no

section
variable {E : AEnv}

def wantedT (ops : Array Oper) (n : Nat) (s : Trie AVal) (o : Oper) : Option Bool :=
  match o.guard with
  | none => some true
  | some (j, want) =>
    match (ops[j]?).bind (·.dst) with
    | some d =>
      match tget n s d with
      | some (.bool b) => some (b == want)
      | some (.tuple []) => some false
      | _ => none
    | none => none
theorem wantedT_eq (ops : Array Oper) (n : Nat) (s : Trie AVal) (o : Oper) : wantedT ops n s o = awanted ops (toL n s) o := by
  unfold wantedT awanted
  simp only [tget_eq]
  rfl

structure FSt where
  slots : Trie AVal
  heap : AHeap

def FSt.to (n : Nat) (s : FSt) : ASt := ⟨toL n s.slots, s.heap⟩

/-- the operations of a region, one behind the other; 'draw': with the looks that a region asks that draws -/
def frun (E : AEnv) (call : ACall) (ops : Array Oper) (draw : Bool) (n n0 : Nat) (l : List Oper) : Nat → Trie AVal → AHeap → Option FSt :=
  List.rec (motive := fun _ => Nat → Trie AVal → AHeap → Option FSt) (fun _ s h => some ⟨s, h⟩)
    (fun o _ ih i s h =>
      match wantedT ops n s o with
      | some true =>
        match (cond draw (dop E call ops n0 i (agetT n s) h o.op) (aop E call (Nat.add n0 i) (agetT n s) h o.op)) with
        | some (v, h') => fRes o.op v fun v => fTurn (turnsOf (Nat.add n0 i) (agetT n s) o.op v) h' fun h' => fPut s o.dst v fun s' => ih (Nat.succ i) s' h'
        | none => none
      | some false => fPut s o.dst skipped fun s' => ih (Nat.succ i) s' h
      | none => none) l

theorem frun_cons (call : ACall) (ops : Array Oper) (draw : Bool) (n n0 i : Nat) (s : Trie AVal) (h : AHeap) (o : Oper) (r : List Oper) : frun E call ops draw n n0 (o :: r) i s h =
      match wantedT ops n s o with
      | some true =>
        match (cond draw (dop E call ops n0 i (agetT n s) h o.op) (aop E call (n0 + i) (agetT n s) h o.op)) with
        | some (v, h') => frun E call ops draw n n0 r (i + 1) (Option.rec (motive := fun _ => Trie AVal) s (fun d => s.set d v) o.dst) h'
        | none => none
      | some false => frun E call ops draw n n0 r (i + 1) (Option.rec (motive := fun _ => Trie AVal) s (fun d => s.set d skipped) o.dst) h
      | none => none := by
  show (match wantedT ops n s o with
      | some true =>
        match (cond draw (dop E call ops n0 i (agetT n s) h o.op) (aop E call (n0 + i) (agetT n s) h o.op)) with
        | some (v, h') => fRes o.op v fun v => fTurn (turnsOf (n0 + i) (agetT n s) o.op v) h' fun h' => fPut s o.dst v fun s' => frun E call ops draw n n0 r (i + 1) s' h'
        | none => none
      | some false => fPut s o.dst skipped fun s' => frun E call ops draw n n0 r (i + 1) s' h
      | none => none) = _
  simp only [fRes_eq, fTurn_eq, fPut_eq n]

theorem frun_arun {call : ACall} {ops : Array Oper} {n n0 : Nat} : ∀ (l : List Oper) (i : Nat) (s : Trie AVal) (h : AHeap), (∀ j, l[j]? = ops[i + j]?) →
    (frun E call ops false n n0 l i s h).map (FSt.to n) = arun E call ops n0 (List.range' i l.length) ⟨toL n s, h⟩
  | [], i, s, h, _ => rfl
  | o :: r, i, s, h, hl => by
    have ho : ops[i]? = some o := by have := hl 0; simpa using this.symm
    have hr : ∀ j, r[j]? = ops[i + 1 + j]? := fun j => by have := hl (j + 1); simp at this; rw [this]; congr 1; omega
    rw [frun_cons]
    simp only [List.length_cons, List.range'_succ, arun, astep, ho, wantedT_eq, agetT_eq, cond_false]
    cases hw : awanted ops (toL n s) o with
    | none => rfl
    | some b =>
      cases b with
      | true =>
        simp only
        cases ha : aop E call (n0 + i) (agetOp (toL n s)) h o.op with
        | none => rfl
        | some p =>
          obtain ⟨v, h'⟩ := p
          simp only
          rw [frun_arun r (i + 1) _ _ hr, toL_put]
      | false =>
        simp only
        rw [frun_arun r (i + 1) _ _ hr, toL_put]

theorem frun_drun {call : ACall} {ops : Array Oper} {n n0 : Nat} : ∀ (l : List Oper) (i : Nat) (s : Trie AVal) (h : AHeap), (∀ j, l[j]? = ops[i + j]?) →
    (frun E call ops true n n0 l i s h).map (FSt.to n) = drun E call ops n0 (List.range' i l.length) ⟨toL n s, h⟩
  | [], i, s, h, _ => rfl
  | o :: r, i, s, h, hl => by
    have ho : ops[i]? = some o := by have := hl 0; simpa using this.symm
    have hr : ∀ j, r[j]? = ops[i + 1 + j]? := fun j => by have := hl (j + 1); simp at this; rw [this]; congr 1; omega
    rw [frun_cons]
    simp only [List.length_cons, List.range'_succ, drun, dstep, ho, wantedT_eq, agetT_eq, cond_true]
    cases hw : awanted ops (toL n s) o with
    | none => rfl
    | some b =>
      cases b with
      | true =>
        simp only
        cases ha : dop E call ops n0 i (agetOp (toL n s)) h o.op with
        | none => rfl
        | some p =>
          obtain ⟨v, h'⟩ := p
          simp only
          rw [frun_drun r (i + 1) _ _ hr, toL_put]
      | false =>
        simp only
        rw [frun_drun r (i + 1) _ _ hr, toL_put]

def fregion (E : AEnv) (call : ACall) (ops : Array Oper) (draw : Bool) (n : Nat) (s : FSt) : Option FSt :=
  match s with
  | ⟨s, ⟨n0, l⟩⟩ => cond (!draw || drawOk ops) (fNat (Nat.add n0 ops.size) fun m => frun E call ops draw n n0 ops.toList 0 s ⟨m, l⟩) none

theorem fregion_eq (call : ACall) (ops : Array Oper) (draw : Bool) (n : Nat) (s : FSt) : (fregion E call ops draw n s).map (FSt.to n) = aregion E call ops draw (s.to n) := by
  obtain ⟨s, n0, l⟩ := s
  have hl : ∀ j : Nat, ops.toList[j]? = ops[0 + j]? := fun j => by simp
  have hr : List.range ops.size = List.range' 0 ops.toList.length := by rw [List.range_eq_range', Array.length_toList]
  unfold fregion aregion
  cases draw with
  | false => simp only [Bool.not_false, Bool.true_or, cond_true, fNat_eq, Bool.false_eq_true, if_false, frun_arun _ _ _ _ hl, hr, FSt.to, Nat.add_eq]
  | true =>
    cases hd : drawOk ops with
    | false => simp
    | true => simp only [Bool.not_true, Bool.false_or, hd, cond_true, if_true, fNat_eq, frun_drun _ _ _ _ hl, hr, FSt.to, Nat.add_eq]

def fexec (E : AEnv) (call : ACall) (n : Nat) (fuel : Nat) : Option Code → Code → FSt → Option (AExit × FSt) :=
  Nat.rec (motive := fun _ => Option Code → Code → FSt → Option (AExit × FSt)) (fun _ _ _ => none)
  (fun m ih b c s =>
  match b with
  | some body =>
    match ih none c s with
    | some (.goto l, s') =>
      match findLabel body l with
      | some rest => ih (some body) rest s'
      | none => some (.goto l, s')
    | r => r
  | none =>
    match c with
    | .skip => some (.normal, s)
    | .label _ => some (.normal, s)
    | .region _ ops draw =>
      match fregion E call ops draw n s with
      | some s' => some (.normal, s')
      | none => none
    | .seq a b =>
      match ih none a s with
      | some (.normal, s') => ih none b s'
      | r => r
    | .cond x a b =>
      match agetT n s.slots x with
      | .bool true => ih none a s
      | .bool false => ih none b s
      | _ => none
    | .block id c =>
      match ih none c s with
      | some (.exit j, s') => some (if j = id then .normal else .exit j, s')
      | r => r
    | .loop c =>
      match ih none c s with
      | some (.normal, s') => ih none (.loop c) s'
      | r => r
    | .scope c => ih (some c) c s
    | .goto l => some (.goto l, s)
    | .exit id => some (.exit id, s)
    | .ret => some (.ret, s)
    | _ => none) fuel

def toP (n : Nat) (p : AExit × FSt) : AExit × ASt := (p.1, p.2.to n)

theorem fexec_eq (call : ACall) (k : Nat) : ∀ (n : Nat) (b : Option Code) (c : Code) (s : FSt), (fexec E call k n b c s).map (toP k) = aexec E call n b c (s.to k) := by
  intro n
  induction n with
  | zero => intro b c s; rfl
  | succ n ih =>
    intro b c s
    cases b with
    | some body =>
      show Option.map (toP k) (match fexec E call k n none c s with
        | some (.goto l, s') =>
          match findLabel body l with
          | some rest => fexec E call k n (some body) rest s'
          | none => some (.goto l, s')
        | r => r) = _
      simp only [aexec, ← ih]
      cases hx : fexec E call k n none c s with
      | none => rfl
      | some p =>
        obtain ⟨e, s'⟩ := p
        cases e with
        | goto l =>
          simp only [Option.map_some, toP]
          cases hf : findLabel body l with
          | none => rfl
          | some rest => simp only [hf]; exact ih (some body) rest s'
        | _ => rfl
    | none =>
      cases c
      case region id ops draw =>
        show Option.map (toP k) (match fregion E call ops draw k s with
          | some s' => some (.normal, s')
          | none => none) = _
        simp only [aexec, ← fregion_eq]
        cases fregion E call ops draw k s <;> rfl
      case seq a b =>
        show Option.map (toP k) (match fexec E call k n none a s with
          | some (.normal, s') => fexec E call k n none b s'
          | r => r) = _
        simp only [aexec, ← ih]
        cases hx : fexec E call k n none a s with
        | none => rfl
        | some p => obtain ⟨e, s'⟩ := p; cases e <;> first | exact ih none b s' | rfl
      case cond x a b =>
        show Option.map (toP k) (match agetT k s.slots x with
          | .bool true => fexec E call k n none a s
          | .bool false => fexec E call k n none b s
          | _ => none) = _
        simp only [aexec, ← ih, agetT_eq]
        have he : agetOp (s.to k).slots x = agetOp (toL k s.slots) x := rfl
        rw [he]
        cases agetOp (toL k s.slots) x with
        | bool t => cases t <;> rfl
        | _ => rfl
      case block id c =>
        show Option.map (toP k) (match fexec E call k n none c s with
          | some (.exit j, s') => some (if j = id then .normal else .exit j, s')
          | r => r) = _
        simp only [aexec, ← ih]
        cases hx : fexec E call k n none c s with
        | none => rfl
        | some p => obtain ⟨e, s'⟩ := p; cases e <;> rfl
      case loop c =>
        show Option.map (toP k) (match fexec E call k n none c s with
          | some (.normal, s') => fexec E call k n none (.loop c) s'
          | r => r) = _
        simp only [aexec, ← ih]
        cases hx : fexec E call k n none c s with
        | none => rfl
        | some p => obtain ⟨e, s'⟩ := p; cases e <;> first | exact ih none (.loop c) s' | rfl
      case scope c => exact ih (some c) c s
      all_goals rfl

def fArgs : List AVal → Nat → Trie AVal → (Trie AVal → Option (AVal × AHeap)) → Option (AVal × AHeap)
  | [], _, t, k => k t
  | v :: r, i, t, k => fV v fun v => fSetT t i v fun t => fArgs r (Nat.succ i) t k

theorem fArgs_eq : ∀ (l : List AVal) (i : Nat) (t : Trie AVal) (k : Trie AVal → Option (AVal × AHeap)),
    ∃ t', fArgs l i t k = k t' ∧ ∀ j, t'.get j = if j < i then t.get j else if h : j - i < l.length then some l[j - i] else t.get j
  | [], i, t, k => ⟨t, rfl, fun j => by simp⟩
  | v :: r, i, t, k => by
    obtain ⟨t', h1, h2⟩ := fArgs_eq r (i + 1) (t.set i v) k
    refine ⟨t', by simp only [fArgs, fV_eq, fSetT_eq]; exact h1, fun j => ?_⟩
    rw [h2 j, Trie.get_set]
    by_cases hj : j < i
    · rw [if_pos (by omega), if_neg (by omega), if_pos hj]
    · rw [if_neg hj]
      by_cases he : i = j
      · subst he; rw [if_pos (by omega), if_pos rfl]; simp
      · rw [if_neg (by omega), if_neg he]
        by_cases hl : j - (i + 1) < r.length
        · rw [dif_pos hl, dif_pos (by simp; omega)]
          obtain ⟨m, hm⟩ : ∃ m, j - i = m + 1 := ⟨j - i - 1, by omega⟩
          have hm' : j - (i + 1) = m := by omega
          simp only [hm, hm', List.getElem_cons_succ]
        · rw [dif_neg hl, dif_neg (by simp; omega)]

theorem fArgs_toL {l : List AVal} {m : Nat} {t : Trie AVal} (h : ∀ j, t.get j = if j < 0 then (Trie.nil : Trie AVal).get j else if h : j - 0 < l.length then some l[j - 0] else (Trie.nil : Trie AVal).get j) :
    toL (l.length + (m - l.length)) t = l ++ List.replicate (m - l.length) skipped := by
  apply List.ext_getElem?
  intro i
  rw [toL_get, h i, if_neg (Nat.not_lt_zero i)]
  simp only [Nat.sub_zero, Trie.get_nil]
  by_cases hi : i < l.length
  · rw [if_pos (by omega), dif_pos hi, List.getElem?_append_left hi, List.getElem?_eq_getElem hi]; rfl
  · rw [dif_neg hi, List.getElem?_append_right (by omega), List.getElem?_replicate]
    by_cases hn : i < l.length + (m - l.length)
    · rw [if_pos hn, if_pos (by omega)]; rfl
    · rw [if_neg hn, if_neg (by omega)]

def fresults (D : Tys) (n : Nat) (rs : List ResultVar) (s : FSt) : Option (List AVal) :=
  match rs with
  | [] => some []
  | .tmp t :: r => (fresults D n r s).map fun l => agetT n s.slots (.tmp t) :: l
  | .cell a t :: r =>
    match agetT n s.slots (.tmp a) with
    | .ptr (some p) =>
      match aload D t p s.heap, fresults D n r s with
      | some v, some l => some (v :: l)
      | _, _ => none
    | _ => none
theorem fresults_eq (D : Tys) (n : Nat) (s : FSt) : ∀ (rs : List ResultVar), fresults D n rs s = aresults D rs (s.to n)
  | [] => rfl
  | .tmp t :: r => by simp only [fresults, aresults, fresults_eq D n s r, agetT_eq]; rfl
  | .cell a t :: r => by simp only [fresults, aresults, fresults_eq D n s r, agetT_eq]; rfl

def fOut (r : Option (AVal × AHeap)) : Option (AVal × AHeap) :=
  match r with
  | some (v, ⟨n, l⟩) => fNat n fun n => fV v fun v => some (v, ⟨n, l⟩)
  | none => none
theorem fOut_eq (r : Option (AVal × AHeap)) : fOut r = r := by
  cases r with
  | none => rfl
  | some p => obtain ⟨v, n, l⟩ := p; simp [fOut, fNat_eq, fV_eq]

def fcall (P : Program) (E : AEnv) (fuel : Nat) : ACall :=
  Nat.rec (motive := fun _ => ACall) (fun _ _ _ => none)
  (fun n ih f args h =>
    match E.prim f with
    | some g => g args h
    | none =>
    match P.funcs[f]? with
    | some fn =>
      match fn.body with
      | some c =>
        fNat (args.length + (fn.ntmps - args.length)) fun k => fArgs args 0 .nil fun sl =>
        match fexec E ih k n none c ⟨sl, h⟩ with
        | some (.exit _, _) => none
        | some (.goto _, _) => none
        | some (_, s) =>
          match fresults E.D k fn.results.toList s with
          | some l => fOut (some (aresult l, s.heap))
          | none => none
        | none => none
      | none => none
    | none => none) fuel

theorem fcall_eq (P : Program) (E : AEnv) : ∀ (n : Nat), fcall P E n = acall P E n := by
  intro n
  induction n with
  | zero => rfl
  | succ n ih =>
    funext f args h
    show (match E.prim f with
    | some g => g args h
    | none =>
    match P.funcs[f]? with
    | some fn =>
      match fn.body with
      | some c =>
        fNat (args.length + (fn.ntmps - args.length)) fun k => fArgs args 0 .nil fun sl =>
        match fexec E (fcall P E n) k n none c ⟨sl, h⟩ with
        | some (.exit _, _) => none
        | some (.goto _, _) => none
        | some (_, s) =>
          match fresults E.D k fn.results.toList s with
          | some l => fOut (some (aresult l, s.heap))
          | none => none
        | none => none
      | none => none
    | none => none) = _
    simp only [acall, ih, fNat_eq, fOut_eq]
    cases E.prim f with
    | some g => rfl
    | none =>
    simp only
    cases hf : P.funcs[f]? with
    | none => rfl
    | some fn =>
      simp only
      cases fn.body with
      | none => rfl
      | some c =>
        simp only
        obtain ⟨t, h1, h2⟩ := fArgs_eq args 0 .nil fun sl =>
          match fexec E (acall P E n) (args.length + (fn.ntmps - args.length)) n none c ⟨sl, h⟩ with
          | some (.exit _, _) => none
          | some (.goto _, _) => none
          | some (_, s) =>
            match fresults E.D (args.length + (fn.ntmps - args.length)) fn.results.toList s with
            | some l => some (aresult l, s.heap)
            | none => none
          | none => none
        rw [h1]
        have hs : (FSt.mk t h).to (args.length + (fn.ntmps - args.length)) = ⟨args ++ List.replicate (fn.ntmps - args.length) skipped, h⟩ := by
          simp only [FSt.to, fArgs_toL h2]
        have hx := fexec_eq (E := E) (acall P E n) (args.length + (fn.ntmps - args.length)) n none c ⟨t, h⟩
        rw [hs] at hx
        rw [← hx]
        cases hy : fexec E (acall P E n) (args.length + (fn.ntmps - args.length)) n none c ⟨t, h⟩ with
        | none => rfl
        | some p =>
          obtain ⟨e, s⟩ := p
          simp only [Option.map_some, toP]
          cases e with
          | exit id => rfl
          | goto l => rfl
          | normal => simp only [fresults_eq]; cases aresults E.D fn.results.toList (s.to (args.length + (fn.ntmps - args.length))) <;> rfl
          | ret => simp only [fresults_eq]; cases aresults E.D fn.results.toList (s.to (args.length + (fn.ntmps - args.length))) <;> rfl

theorem fcall_true {P : Program} {E : AEnv} {n : Nat} {f : FuncId} {args : List AVal} {h : AHeap} (k : saysTrue (fcall P E n f args h) = true) : ∃ h', acall P E n f args h = some (.bool true, h') := by
  rw [fcall_eq] at k; exact saysTrue_spec k
end
end
end Go.Lift

namespace Go.Proofs.Ytcgcpmcjaeenlaa
open Go.Lift
set_option maxRecDepth 1000000
theorem alive_run : saysTrue (fcall Try.prog env 300 16 [] ⟨0, .nil⟩) = true := by decide +kernel
theorem alive_does (H : AHeap) : FDoes Try.prog 16 [] H (.bool true) H := by
  obtain ⟨h', hc⟩ := fcall_true alive_run
  exact (FDoes.of_acall env_ok mixed hc).bare (by simp) (Bare.bool _) H
end Go.Proofs.Ytcgcpmcjaeenlaa

namespace Go.Proofs.Ytcgcpmcjaeenlaa
open Go.Lift
set_option maxRecDepth 1000000
set_option linter.unusedSimpArgs false
set_option linter.unusedVariables false
set_option linter.unusedSectionVars false

theorem lm_0 (ta tb tc td sa sb sc sd : Int) (hc_0 : -9223372036854775808 ≤ sa + sc ∧ sa + sc ≤ 9223372036854775807) (hc_1 : ¬ (ta < sa + sc)) :
    FDoes Try.prog 23 [.agg [.int .i64 ta, .int .i64 tb, .int .i64 tc, .int .i64 td], .agg [.int .i64 sa, .int .i64 sb, .int .i64 sc, .int .i64 sd]] (⟨0, .nil⟩) (AVal.bool false) (AHeap.rows 42 [(0, .made [.agg [.int .i64 ta, .int .i64 tb, .int .i64 tc, .int .i64 td]] 4 true), (1, .made [.agg [.int .i64 sa, .int .i64 sb, .int .i64 sc, .int .i64 sd]] 4 true)]) :=
  pcall_does env_ok mixed (hs := [.go 1006, .val 1007 (.bool false)]) (rs := []) (by kernel_rfl) (All.cons hc_0 (All.cons (okF hc_1) (All.nil)))

theorem lm_1 (ta tb tc td sa sb sc sd : Int) (hc_0 : -9223372036854775808 ≤ sa + sc ∧ sa + sc ≤ 9223372036854775807) (hc_1 : ta < sa + sc) (hc_2 : -9223372036854775808 ≤ ta + tc ∧ ta + tc ≤ 9223372036854775807) (hc_3 : ¬ (sa < ta + tc)) :
    FDoes Try.prog 23 [.agg [.int .i64 ta, .int .i64 tb, .int .i64 tc, .int .i64 td], .agg [.int .i64 sa, .int .i64 sb, .int .i64 sc, .int .i64 sd]] (⟨0, .nil⟩) (AVal.bool false) (AHeap.rows 42 [(0, .made [.agg [.int .i64 ta, .int .i64 tb, .int .i64 tc, .int .i64 td]] 4 true), (1, .made [.agg [.int .i64 sa, .int .i64 sb, .int .i64 sc, .int .i64 sd]] 4 true)]) :=
  pcall_does env_ok mixed (hs := [.go 1006, .val 1007 (.bool true), .go 1015, .val 1016 (.bool false)]) (rs := []) (by kernel_rfl) (All.cons hc_0 (All.cons (okT hc_1) (All.cons hc_2 (All.cons (okF hc_3) (All.nil)))))

theorem lm_2 (ta tb tc td sa sb sc sd : Int) (hc_0 : -9223372036854775808 ≤ sa + sc ∧ sa + sc ≤ 9223372036854775807) (hc_1 : ta < sa + sc) (hc_2 : -9223372036854775808 ≤ ta + tc ∧ ta + tc ≤ 9223372036854775807) (hc_3 : sa < ta + tc) (hc_4 : -9223372036854775808 ≤ sb + sd ∧ sb + sd ≤ 9223372036854775807) (hc_5 : ¬ (tb < sb + sd)) :
    FDoes Try.prog 23 [.agg [.int .i64 ta, .int .i64 tb, .int .i64 tc, .int .i64 td], .agg [.int .i64 sa, .int .i64 sb, .int .i64 sc, .int .i64 sd]] (⟨0, .nil⟩) (AVal.bool false) (AHeap.rows 42 [(0, .made [.agg [.int .i64 ta, .int .i64 tb, .int .i64 tc, .int .i64 td]] 4 true), (1, .made [.agg [.int .i64 sa, .int .i64 sb, .int .i64 sc, .int .i64 sd]] 4 true)]) :=
  pcall_does env_ok mixed (hs := [.go 1006, .val 1007 (.bool true), .go 1015, .val 1016 (.bool true), .go 1025, .val 1026 (.bool false)]) (rs := []) (by kernel_rfl) (All.cons hc_0 (All.cons (okT hc_1) (All.cons hc_2 (All.cons (okT hc_3) (All.cons hc_4 (All.cons (okF hc_5) (All.nil)))))))

theorem lm_3 (ta tb tc td sa sb sc sd : Int) (hc_0 : -9223372036854775808 ≤ sa + sc ∧ sa + sc ≤ 9223372036854775807) (hc_1 : ta < sa + sc) (hc_2 : -9223372036854775808 ≤ ta + tc ∧ ta + tc ≤ 9223372036854775807) (hc_3 : sa < ta + tc) (hc_4 : -9223372036854775808 ≤ sb + sd ∧ sb + sd ≤ 9223372036854775807) (hc_5 : tb < sb + sd) (hc_6 : -9223372036854775808 ≤ tb + td ∧ tb + td ≤ 9223372036854775807) (hc_7 : ¬ (sb < tb + td)) :
    FDoes Try.prog 23 [.agg [.int .i64 ta, .int .i64 tb, .int .i64 tc, .int .i64 td], .agg [.int .i64 sa, .int .i64 sb, .int .i64 sc, .int .i64 sd]] (⟨0, .nil⟩) (AVal.bool false) (AHeap.rows 42 [(0, .made [.agg [.int .i64 ta, .int .i64 tb, .int .i64 tc, .int .i64 td]] 4 true), (1, .made [.agg [.int .i64 sa, .int .i64 sb, .int .i64 sc, .int .i64 sd]] 4 true)]) :=
  pcall_does env_ok mixed (hs := [.go 1006, .val 1007 (.bool true), .go 1015, .val 1016 (.bool true), .go 1025, .val 1026 (.bool true), .go 1035, .val 1036 (.bool false)]) (rs := []) (by kernel_rfl) (All.cons hc_0 (All.cons (okT hc_1) (All.cons hc_2 (All.cons (okT hc_3) (All.cons hc_4 (All.cons (okT hc_5) (All.cons hc_6 (All.cons (okF hc_7) (All.nil)))))))))

theorem lm_y (ta tb tc td sa sb sc sd : Int) (hc_0 : -9223372036854775808 ≤ sa + sc ∧ sa + sc ≤ 9223372036854775807) (hc_1 : ta < sa + sc) (hc_2 : -9223372036854775808 ≤ ta + tc ∧ ta + tc ≤ 9223372036854775807) (hc_3 : sa < ta + tc) (hc_4 : -9223372036854775808 ≤ sb + sd ∧ sb + sd ≤ 9223372036854775807) (hc_5 : tb < sb + sd) (hc_6 : -9223372036854775808 ≤ tb + td ∧ tb + td ≤ 9223372036854775807) (hc_7 : sb < tb + td) :
    FDoes Try.prog 23 [.agg [.int .i64 ta, .int .i64 tb, .int .i64 tc, .int .i64 td], .agg [.int .i64 sa, .int .i64 sb, .int .i64 sc, .int .i64 sd]] (⟨0, .nil⟩) (AVal.bool true) (AHeap.rows 42 [(0, .made [.agg [.int .i64 ta, .int .i64 tb, .int .i64 tc, .int .i64 td]] 4 true), (1, .made [.agg [.int .i64 sa, .int .i64 sb, .int .i64 sc, .int .i64 sd]] 4 true)]) :=
  pcall_does env_ok mixed (hs := [.go 1006, .val 1007 (.bool true), .go 1015, .val 1016 (.bool true), .go 1025, .val 1026 (.bool true), .go 1035, .val 1036 (.bool true)]) (rs := []) (by kernel_rfl) (All.cons hc_0 (All.cons (okT hc_1) (All.cons hc_2 (All.cons (okT hc_3) (All.cons hc_4 (All.cons (okT hc_5) (All.cons hc_6 (All.cons (okT hc_7) (All.nil)))))))))

theorem lmeets_does {t s : Qd} (ht : Small t) (hs : Small s) (H : AHeap) : FDoes Try.prog 23 [t.val, s.val] H (.bool (decide (MeetsZ t s))) H := by
  have f1 := fit_add hs.1 hs.2.2.1
  have f2 := fit_add ht.1 ht.2.2.1
  have f3 := fit_add hs.2.1 hs.2.2.2
  have f4 := fit_add ht.2.1 ht.2.2.2
  have hb : ∀ a, a ∈ [t.val, s.val] → Bare a := by simp [Qd.bare]
  by_cases m1 : t.a < s.a + s.c
  · by_cases m2 : s.a < t.a + t.c
    · by_cases m3 : t.b < s.b + s.d
      · by_cases m4 : s.b < t.b + t.d
        · rw [decide_eq_true (show MeetsZ t s from ⟨m1, m2, m3, m4⟩)]
          exact (lm_y t.a t.b t.c t.d s.a s.b s.c s.d f1 m1 f2 m2 f3 m3 f4 m4).bare hb (Bare.bool _) H
        · rw [decide_eq_false (show ¬ MeetsZ t s from fun h => m4 h.2.2.2)]
          exact (lm_3 t.a t.b t.c t.d s.a s.b s.c s.d f1 m1 f2 m2 f3 m3 f4 m4).bare hb (Bare.bool _) H
      · rw [decide_eq_false (show ¬ MeetsZ t s from fun h => m3 h.2.2.1)]
        exact (lm_2 t.a t.b t.c t.d s.a s.b s.c s.d f1 m1 f2 m2 f3 m3).bare hb (Bare.bool _) H
    · rw [decide_eq_false (show ¬ MeetsZ t s from fun h => m2 h.2.1)]
      exact (lm_1 t.a t.b t.c t.d s.a s.b s.c s.d f1 m1 f2 m2).bare hb (Bare.bool _) H
  · rw [decide_eq_false (show ¬ MeetsZ t s from fun h => m1 h.1)]
    exact (lm_0 t.a t.b t.c t.d s.a s.b s.c s.d f1 m1).bare hb (Bare.bool _) H

end Go.Proofs.Ytcgcpmcjaeenlaa

namespace Go.Proofs.Ytcgcpmcjaeenlaa
open Go.Lift
set_option maxRecDepth 1000000
set_option linter.unusedSimpArgs false
set_option linter.unusedVariables false
set_option linter.unusedSectionVars false

theorem gf_new (o : Option AAddr) (n c ver off v q i : Nat) (b r r2 : ABlk) (cols pa pb : Int) (hc_0 : (i : Int) < (n : Int)) (hc_1 : aindexAddr env.D 47 (.slice o n c) (.int .i64 (i : Int)) = some (.ptr (some ⟨0, ver, off + i, 0, 2⟩))) (hc_2 : ABlk.elem? b ver (off + i) = some (.agg [.int .i64 pa, .int .i64 pb])) (hc_3 : aindexAddr env.D 47 (.slice o n c) (.int .i64 (i : Int)) = some (.ptr (some ⟨0, ver, off + i, 0, 2⟩))) (hc_4 : ABlk.elem? b ver (off + i) = some (.agg [.int .i64 pa, .int .i64 pb])) (hc_5 : abuiltin env Builtin.append { toList := [22, 22] } [.slice none 0 0, .slice (some ⟨23, 0, 0, 0, 4⟩) 1 1] 24 (AHeap.set (AHeap.rows 26 [(0, b)]) 23 (.made [.agg [.int .i64 (-1), .int .i64 (-1), .int .i64 pa, .int .i64 pb]] 4 true)) = some (.slice (some ⟨24, 0, 0, 0, 4⟩) 1 1, (AHeap.rows 26 [(0, b), (23, .made [.agg [.int .i64 (-1), .int .i64 (-1), .int .i64 pa, .int .i64 pb]] 4 true), (24, r2)]))) (hc_6 : -9223372036854775808 ≤ (i : Int) + 1 ∧ (i : Int) + (1 : Int) ≤ 9223372036854775807) :
    Runs Try.prog 1 207 (loopAt Try.prog 6 0) [(0, .slice o n c), (1, .int .i64 cols), (5, .slice none 0 0), (6, .int .i64 i)] (AHeap.rows 7 [(0, b)]) .normal [(0, .slice o n c), (1, .int .i64 cols), (5, .slice (some ⟨24, 0, 0, 0, 4⟩) 1 1), (6, .int .i64 ((i : Int) + 1))] (AHeap.rows 29 [(0, b), (23, .made [.agg [.int .i64 (-1), .int .i64 (-1), .int .i64 pa, .int .i64 pb]] 4 true), (24, r2)]) :=
  ppath_runs env_ok mixed (hs := [.val 5003 (.bool true), .val 7003 (.ptr (some ⟨0, ver, off + i, 0, 2⟩)), .ld 7005 (.agg [.int .i64 pa, .int .i64 pb]), .val 7008 (.ptr (some ⟨0, ver, off + i, 0, 2⟩)), .ld 7010 (.agg [.int .i64 pa, .int .i64 pb]), .act 7013 (.slice (some ⟨24, 0, 0, 0, 4⟩) 1 1) (fun h => h.set 24 r2), .go 6001]) (keep := [0, 1, 5, 6]) (by kernel_rfl) (All.cons (okT hc_0) (All.cons hc_1 (All.cons hc_2 (All.cons hc_3 (All.cons hc_4 (All.cons hc_5 (All.cons hc_6 (All.nil))))))))

theorem gf_grow (o : Option AAddr) (n c ver off v q i : Nat) (b r r2 : ABlk) (cols pa pb : Int) (hc_0 : (i : Int) < (n : Int)) (hc_1 : aindexAddr env.D 47 (.slice o n c) (.int .i64 (i : Int)) = some (.ptr (some ⟨0, ver, off + i, 0, 2⟩))) (hc_2 : ABlk.elem? b ver (off + i) = some (.agg [.int .i64 pa, .int .i64 pb])) (hc_3 : aindexAddr env.D 47 (.slice o n c) (.int .i64 (i : Int)) = some (.ptr (some ⟨0, ver, off + i, 0, 2⟩))) (hc_4 : ABlk.elem? b ver (off + i) = some (.agg [.int .i64 pa, .int .i64 pb])) (hc_5 : abuiltin env Builtin.append { toList := [22, 22] } [.slice (some ⟨24, v, 0, 0, 4⟩) q q, .slice (some ⟨41, 0, 0, 0, 4⟩) 1 1] 42 (AHeap.set (AHeap.rows 44 [(0, b), (24, r)]) 41 (.made [.agg [.int .i64 (-1), .int .i64 (-1), .int .i64 pa, .int .i64 pb]] 4 true)) = some (.slice (some ⟨24, v + 1, 0, 0, 4⟩) (q + 1) (q + 1), (AHeap.rows 44 [(0, b), (24, r2), (41, .made [.agg [.int .i64 (-1), .int .i64 (-1), .int .i64 pa, .int .i64 pb]] 4 true)]))) (hc_6 : -9223372036854775808 ≤ (i : Int) + 1 ∧ (i : Int) + (1 : Int) ≤ 9223372036854775807) :
    Runs Try.prog 1 207 (loopAt Try.prog 6 0) [(0, .slice o n c), (1, .int .i64 cols), (5, .slice (some ⟨24, v, 0, 0, 4⟩) q q), (6, .int .i64 i)] (AHeap.rows 25 [(0, b), (24, r)]) .normal [(0, .slice o n c), (1, .int .i64 cols), (5, .slice (some ⟨24, v + 1, 0, 0, 4⟩) (q + 1) (q + 1)), (6, .int .i64 ((i : Int) + 1))] (AHeap.rows 47 [(0, b), (24, r2), (41, .made [.agg [.int .i64 (-1), .int .i64 (-1), .int .i64 pa, .int .i64 pb]] 4 true)]) :=
  ppath_runs env_ok mixed (hs := [.val 5003 (.bool true), .val 7003 (.ptr (some ⟨0, ver, off + i, 0, 2⟩)), .ld 7005 (.agg [.int .i64 pa, .int .i64 pb]), .val 7008 (.ptr (some ⟨0, ver, off + i, 0, 2⟩)), .ld 7010 (.agg [.int .i64 pa, .int .i64 pb]), .act 7013 (.slice (some ⟨24, v + 1, 0, 0, 4⟩) (q + 1) (q + 1)) (fun h => h.set 24 r2), .go 6001]) (keep := [0, 1, 5, 6]) (by kernel_rfl) (All.cons (okT hc_0) (All.cons hc_1 (All.cons hc_2 (All.cons hc_3 (All.cons hc_4 (All.cons hc_5 (All.cons hc_6 (All.nil))))))))

theorem gf_end (o : Option AAddr) (n c ver off v q i : Nat) (b r r2 : ABlk) (cols pa pb : Int) (sl : AVal) (hc_0 : ¬ ((i : Int) < (n : Int))) :
    Runs Try.prog 1 207 (loopAt Try.prog 6 0) [(0, .slice o n c), (1, .int .i64 cols), (5, sl), (6, .int .i64 i)] (AHeap.rows 25 [(0, b), (24, r)]) (.exit 0) [(1, .int .i64 cols), (5, sl)] (AHeap.rows 29 [(0, b), (24, r)]) :=
  ppath_runs env_ok mixed (hs := [.val 5003 (.bool false)]) (keep := [1, 5]) (by kernel_rfl) (All.cons (okF hc_0) (All.nil))

theorem gf_P1 (ol om : Option AAddr) (n cl cm v p i : Nat) (b rl rm : ABlk) (C la lb_ lc ld_ sa sb sc sd ta tb tc td : Int) (hc_0 : 0 < (n : Int)) (hc_1 : aindexAddr env.D 22 (.slice om n cm) (.int .i64 0) = some (.ptr (some ⟨37, 0, 0, 0, 4⟩))) (hc_2 : ABlk.elem? rm 0 0 = some (.agg [.int .i64 sa, .int .i64 sb, .int .i64 sc, .int .i64 sd])) (hc_3 : aindexAddr env.D 22 (.slice ol n cl) (.int .i64 0) = some (.ptr (some ⟨24, v, 0, 0, 4⟩))) (hc_4 : ABlk.elem? rl v 0 = some (.agg [.int .i64 la, .int .i64 lb_, .int .i64 lc, .int .i64 ld_])) (hc_5 : sc = if C < if 1 > lc then 1 else lc then C else if 1 > lc then 1 else lc) (hc_6 : aindexAddr env.D 22 (.slice ol n cl) (.int .i64 0) = some (.ptr (some ⟨24, v, 0, 0, 4⟩))) (hc_7 : ABlk.elem? rl v 0 = some (.agg [.int .i64 la, .int .i64 lb_, .int .i64 lc, .int .i64 ld_])) (hc_8 : sd = if 4096 < if 1 > ld_ then 1 else ld_ then 4096 else if 1 > ld_ then 1 else ld_) (hc_9 : ¬ (sa < 0)) (hc_10 : ¬ (sb < 0)) (hc_11 : -9223372036854775808 ≤ sa + sc ∧ sa + sc ≤ 9223372036854775807) (hc_12 : ¬ (sa + sc > C)) (hc_13 : Runs Try.prog 1 207 (.loop (loopAt Try.prog 6 2)) [(5, .slice ol n cl), (7, .int .i64 C), (8, .slice om n cm), (9, .int .i64 0), (10, .ptr (some ⟨56, 0, 0, 0, 4⟩)), (11, .int .i64 0)] (AHeap.rows 101 [(0, b), (24, rl), (37, rm), (56, (.made ([.agg [.int .i64 sa, .int .i64 sb, .int .i64 sc, .int .i64 sd]]) 4 true))]) (.exit 4) [(5, .slice ol n cl), (7, .int .i64 C), (8, .slice om n cm), (9, .int .i64 0), (10, .ptr (some ⟨56, 0, 0, 0, 4⟩))] (AHeap.rows 103 [(0, b), (24, rl), (37, rm), (56, (.made ([.agg [.int .i64 sa, .int .i64 sb, .int .i64 sc, .int .i64 sd]]) 4 true))])) (hc_14 : -9223372036854775808 ≤ sa - 1 ∧ sa - (1 : Int) ≤ 9223372036854775807) (hc_15 : ¬ (sa > 0)) :
    Runs Try.prog 1 207 (loopAt Try.prog 6 1) [(5, .slice ol n cl), (7, .int .i64 C), (8, .slice om n cm), (9, .int .i64 0)] (AHeap.rows 48 [(0, b), (24, rl), (37, rm)]) .normal [(5, .slice ol n cl), (7, .int .i64 C), (8, .slice om n cm), (9, .int .i64 1)] (AHeap.rows 178 [(0, b), (24, rl), (37, rm), (56, (.made ([.agg [.int .i64 sa, .int .i64 sb, .int .i64 sc, .int .i64 sd]]) 4 true)), (139, (.made ([.agg [.int .i64 (sa - 1), .int .i64 sb, .int .i64 sc, .int .i64 sd]]) 4 true))]) :=
  ppath_runs env_ok mixed (hs := [.val 13003 (.bool true), .val 15002 (.ptr (some ⟨37, 0, 0 + 0, 0, 4⟩)), .ld 15003 (.agg [.int .i64 sa, .int .i64 sb, .int .i64 sc, .int .i64 sd]), .val 16004 (.ptr (some ⟨24, v, 0 + 0, 0, 4⟩)), .ld 16006 (.agg [.int .i64 la, .int .i64 lb_, .int .i64 lc, .int .i64 ld_]), .val 16010 (.bool false), .val 16016 (.ptr (some ⟨24, v, 0 + 0, 0, 4⟩)), .ld 16018 (.agg [.int .i64 la, .int .i64 lb_, .int .i64 lc, .int .i64 ld_]), .val 16021 (.bool false), .val 16026 (.bool false), .val 16031 (.bool false), .go 16038, .val 16040 (.bool false), .keep [5, 7, 8, 9, 10, 11], .loop [(5, .slice ol n cl), (7, .int .i64 C), (8, .slice om n cm), (9, .int .i64 0), (10, .ptr (some ⟨56, 0, 0, 0, 4⟩))] (AHeap.rows 103 [(0, b), (24, rl), (37, rm), (56, .made [.agg [.int .i64 sa, .int .i64 sb, .int .i64 sc, .int .i64 sd]] 4 true)]) (.exit 4), .go 27002, .val 28002 (.bool false)]) (keep := [5, 7, 8, 9]) (by kernel_rfl) (All.cons (okT hc_0) (All.cons hc_1 (All.cons hc_2 (All.cons hc_3 (All.cons hc_4 (All.cons (neF hc_5) (All.cons hc_6 (All.cons hc_7 (All.cons (neF hc_8) (All.cons (okF hc_9) (All.cons (okF hc_10) (All.cons hc_11 (All.cons (okF hc_12) (All.cons hc_13 (All.cons hc_14 (All.cons (okF hc_15) (All.nil)))))))))))))))))

theorem gf_P3 (ol om : Option AAddr) (n cl cm v p i : Nat) (b rl rm : ABlk) (C la lb_ lc ld_ sa sb sc sd ta tb tc td : Int) (hc_0 : (i : Int) < (n : Int)) (hc_1 : aindexAddr env.D 22 (.slice om n cm) (.int .i64 (i : Int)) = some (.ptr (some ⟨37, 0, 0 + i, 0, 4⟩))) (hc_2 : ABlk.elem? rm 0 (0 + i) = some (.agg [.int .i64 sa, .int .i64 sb, .int .i64 sc, .int .i64 sd])) (hc_3 : aindexAddr env.D 22 (.slice ol n cl) (.int .i64 (i : Int)) = some (.ptr (some ⟨24, v, 0 + i, 0, 4⟩))) (hc_4 : ABlk.elem? rl v (0 + i) = some (.agg [.int .i64 la, .int .i64 lb_, .int .i64 lc, .int .i64 ld_])) (hc_5 : sc = if C < if 1 > lc then 1 else lc then C else if 1 > lc then 1 else lc) (hc_6 : aindexAddr env.D 22 (.slice ol n cl) (.int .i64 (i : Int)) = some (.ptr (some ⟨24, v, 0 + i, 0, 4⟩))) (hc_7 : ABlk.elem? rl v (0 + i) = some (.agg [.int .i64 la, .int .i64 lb_, .int .i64 lc, .int .i64 ld_])) (hc_8 : sd = if 4096 < if 1 > ld_ then 1 else ld_ then 4096 else if 1 > ld_ then 1 else ld_) (hc_9 : ¬ (sa < 0)) (hc_10 : ¬ (sb < 0)) (hc_11 : -9223372036854775808 ≤ sa + sc ∧ sa + sc ≤ 9223372036854775807) (hc_12 : ¬ (sa + sc > C)) (hc_13 : Runs Try.prog 1 207 (.loop (loopAt Try.prog 6 2)) [(5, .slice ol n cl), (7, .int .i64 C), (8, .slice om n cm), (9, .int .i64 (i : Int)), (10, .ptr (some ⟨56, 0, 0, 0, 4⟩)), (11, .int .i64 0)] (AHeap.rows 101 [(0, b), (24, rl), (37, rm), (56, (.made ([.agg [.int .i64 sa, .int .i64 sb, .int .i64 sc, .int .i64 sd]]) 4 true))]) (.exit 4) [(5, .slice ol n cl), (7, .int .i64 C), (8, .slice om n cm), (9, .int .i64 (i : Int)), (10, .ptr (some ⟨56, 0, 0, 0, 4⟩))] (AHeap.rows 103 [(0, b), (24, rl), (37, rm), (56, (.made ([.agg [.int .i64 sa, .int .i64 sb, .int .i64 sc, .int .i64 sd]]) 4 true))])) (hc_14 : (i : Int) > 0) (hc_15 : -9223372036854775808 ≤ (i : Int) - 1 ∧ (i : Int) - (1 : Int) ≤ 9223372036854775807) (hc_16 : aindexAddr env.D 22 (.slice om n cm) (.int .i64 ((i : Int) - 1)) = some (.ptr (some ⟨37, 0, 0 + p, 0, 4⟩))) (hc_17 : ABlk.elem? rm 0 (0 + p) = some (.agg [.int .i64 ta, .int .i64 tb, .int .i64 tc, .int .i64 td])) (hc_18 : ¬ (sb < tb)) (hc_19 : -9223372036854775808 ≤ (i : Int) - 1 ∧ (i : Int) - (1 : Int) ≤ 9223372036854775807) (hc_20 : aindexAddr env.D 22 (.slice om n cm) (.int .i64 ((i : Int) - 1)) = some (.ptr (some ⟨37, 0, 0 + p, 0, 4⟩))) (hc_21 : ABlk.elem? rm 0 (0 + p) = some (.agg [.int .i64 ta, .int .i64 tb, .int .i64 tc, .int .i64 td])) (hc_22 : sb = tb) (hc_23 : -9223372036854775808 ≤ (i : Int) - 1 ∧ (i : Int) - (1 : Int) ≤ 9223372036854775807) (hc_24 : aindexAddr env.D 22 (.slice om n cm) (.int .i64 ((i : Int) - 1)) = some (.ptr (some ⟨37, 0, 0 + p, 0, 4⟩))) (hc_25 : ABlk.elem? rm 0 (0 + p) = some (.agg [.int .i64 ta, .int .i64 tb, .int .i64 tc, .int .i64 td])) (hc_26 : ¬ (sa ≤ ta)) (hc_27 : -9223372036854775808 ≤ sa - 1 ∧ sa - (1 : Int) ≤ 9223372036854775807) (hc_28 : sa > 0) (hc_29 : ¬ ((i : Int) = 0)) (hc_30 : -9223372036854775808 ≤ (i : Int) - 1 ∧ (i : Int) - (1 : Int) ≤ 9223372036854775807) (hc_31 : aindexAddr env.D 22 (.slice om n cm) (.int .i64 ((i : Int) - 1)) = some (.ptr (some ⟨37, 0, 0 + p, 0, 4⟩))) (hc_32 : ABlk.elem? rm 0 (0 + p) = some (.agg [.int .i64 ta, .int .i64 tb, .int .i64 tc, .int .i64 td])) (hc_33 : ¬ (sb > tb)) (hc_34 : -9223372036854775808 ≤ (i : Int) - 1 ∧ (i : Int) - (1 : Int) ≤ 9223372036854775807) (hc_35 : aindexAddr env.D 22 (.slice om n cm) (.int .i64 ((i : Int) - 1)) = some (.ptr (some ⟨37, 0, 0 + p, 0, 4⟩))) (hc_36 : ABlk.elem? rm 0 (0 + p) = some (.agg [.int .i64 ta, .int .i64 tb, .int .i64 tc, .int .i64 td])) (hc_37 : ¬ (sa - 1 > ta)) (hc_38 : -9223372036854775808 ≤ (i : Int) + 1 ∧ (i : Int) + (1 : Int) ≤ 9223372036854775807) :
    Runs Try.prog 1 207 (loopAt Try.prog 6 1) [(5, .slice ol n cl), (7, .int .i64 C), (8, .slice om n cm), (9, .int .i64 i)] (AHeap.rows 48 [(0, b), (24, rl), (37, rm)]) .normal [(5, .slice ol n cl), (7, .int .i64 C), (8, .slice om n cm), (9, .int .i64 ((i : Int) + 1))] (AHeap.rows 178 [(0, b), (24, rl), (37, rm), (56, (.made ([.agg [.int .i64 sa, .int .i64 sb, .int .i64 sc, .int .i64 sd]]) 4 true)), (139, (.made ([.agg [.int .i64 (sa - 1), .int .i64 sb, .int .i64 sc, .int .i64 sd]]) 4 true))]) :=
  ppath_runs env_ok mixed (hs := [.val 13003 (.bool true), .val 15002 (.ptr (some ⟨37, 0, 0 + i, 0, 4⟩)), .ld 15003 (.agg [.int .i64 sa, .int .i64 sb, .int .i64 sc, .int .i64 sd]), .val 16004 (.ptr (some ⟨24, v, 0 + i, 0, 4⟩)), .ld 16006 (.agg [.int .i64 la, .int .i64 lb_, .int .i64 lc, .int .i64 ld_]), .val 16010 (.bool false), .val 16016 (.ptr (some ⟨24, v, 0 + i, 0, 4⟩)), .ld 16018 (.agg [.int .i64 la, .int .i64 lb_, .int .i64 lc, .int .i64 ld_]), .val 16021 (.bool false), .val 16026 (.bool false), .val 16031 (.bool false), .go 16038, .val 16040 (.bool false), .keep [5, 7, 8, 9, 10, 11], .loop [(5, .slice ol n cl), (7, .int .i64 C), (8, .slice om n cm), (9, .int .i64 i), (10, .ptr (some ⟨56, 0, 0, 0, 4⟩))] (AHeap.rows 103 [(0, b), (24, rl), (37, rm), (56, .made [.agg [.int .i64 sa, .int .i64 sb, .int .i64 sc, .int .i64 sd]] 4 true)]) (.exit 4), .val 24001 (.bool true), .go 24007, .val 24008 (.ptr (some ⟨37, 0, 0 + p, 0, 4⟩)), .ld 24010 (.agg [.int .i64 ta, .int .i64 tb, .int .i64 tc, .int .i64 td]), .val 24011 (.bool false), .go 24017, .val 24018 (.ptr (some ⟨37, 0, 0 + p, 0, 4⟩)), .ld 24020 (.agg [.int .i64 ta, .int .i64 tb, .int .i64 tc, .int .i64 td]), .val 24021 (.bool true), .go 24027, .val 24028 (.ptr (some ⟨37, 0, 0 + p, 0, 4⟩)), .ld 24030 (.agg [.int .i64 ta, .int .i64 tb, .int .i64 tc, .int .i64 td]), .val 24031 (.bool false), .go 27002, .val 28002 (.bool true), .val 28005 (.bool false), .go 28011, .val 28012 (.ptr (some ⟨37, 0, 0 + p, 0, 4⟩)), .ld 28014 (.agg [.int .i64 ta, .int .i64 tb, .int .i64 tc, .int .i64 td]), .val 28015 (.bool false), .go 28022, .val 28023 (.ptr (some ⟨37, 0, 0 + p, 0, 4⟩)), .ld 28025 (.agg [.int .i64 ta, .int .i64 tb, .int .i64 tc, .int .i64 td]), .val 28026 (.bool false), .go 14001]) (keep := [5, 7, 8, 9]) (by kernel_rfl) (All.cons (okT hc_0) (All.cons hc_1 (All.cons hc_2 (All.cons hc_3 (All.cons hc_4 (All.cons (neF hc_5) (All.cons hc_6 (All.cons hc_7 (All.cons (neF hc_8) (All.cons (okF hc_9) (All.cons (okF hc_10) (All.cons hc_11 (All.cons (okF hc_12) (All.cons hc_13 (All.cons (okT hc_14) (All.cons hc_15 (All.cons hc_16 (All.cons hc_17 (All.cons (okF hc_18) (All.cons hc_19 (All.cons hc_20 (All.cons hc_21 (All.cons (eqT hc_22) (All.cons hc_23 (All.cons hc_24 (All.cons hc_25 (All.cons (okF hc_26) (All.cons hc_27 (All.cons (okT hc_28) (All.cons (eqF hc_29) (All.cons hc_30 (All.cons hc_31 (All.cons hc_32 (All.cons (okF hc_33) (All.cons hc_34 (All.cons hc_35 (All.cons hc_36 (All.cons (okF hc_37) (All.cons hc_38 (All.nil))))))))))))))))))))))))))))))))))))))))

theorem gf_P2 (ol om : Option AAddr) (n cl cm v p i : Nat) (b rl rm : ABlk) (C la lb_ lc ld_ sa sb sc sd ta tb tc td : Int) (hc_0 : (i : Int) < (n : Int)) (hc_1 : aindexAddr env.D 22 (.slice om n cm) (.int .i64 (i : Int)) = some (.ptr (some ⟨37, 0, 0 + i, 0, 4⟩))) (hc_2 : ABlk.elem? rm 0 (0 + i) = some (.agg [.int .i64 sa, .int .i64 sb, .int .i64 sc, .int .i64 sd])) (hc_3 : aindexAddr env.D 22 (.slice ol n cl) (.int .i64 (i : Int)) = some (.ptr (some ⟨24, v, 0 + i, 0, 4⟩))) (hc_4 : ABlk.elem? rl v (0 + i) = some (.agg [.int .i64 la, .int .i64 lb_, .int .i64 lc, .int .i64 ld_])) (hc_5 : sc = if C < if 1 > lc then 1 else lc then C else if 1 > lc then 1 else lc) (hc_6 : aindexAddr env.D 22 (.slice ol n cl) (.int .i64 (i : Int)) = some (.ptr (some ⟨24, v, 0 + i, 0, 4⟩))) (hc_7 : ABlk.elem? rl v (0 + i) = some (.agg [.int .i64 la, .int .i64 lb_, .int .i64 lc, .int .i64 ld_])) (hc_8 : sd = if 4096 < if 1 > ld_ then 1 else ld_ then 4096 else if 1 > ld_ then 1 else ld_) (hc_9 : ¬ (sa < 0)) (hc_10 : ¬ (sb < 0)) (hc_11 : -9223372036854775808 ≤ sa + sc ∧ sa + sc ≤ 9223372036854775807) (hc_12 : ¬ (sa + sc > C)) (hc_13 : Runs Try.prog 1 207 (.loop (loopAt Try.prog 6 2)) [(5, .slice ol n cl), (7, .int .i64 C), (8, .slice om n cm), (9, .int .i64 (i : Int)), (10, .ptr (some ⟨56, 0, 0, 0, 4⟩)), (11, .int .i64 0)] (AHeap.rows 101 [(0, b), (24, rl), (37, rm), (56, (.made ([.agg [.int .i64 sa, .int .i64 sb, .int .i64 sc, .int .i64 sd]]) 4 true))]) (.exit 4) [(5, .slice ol n cl), (7, .int .i64 C), (8, .slice om n cm), (9, .int .i64 (i : Int)), (10, .ptr (some ⟨56, 0, 0, 0, 4⟩))] (AHeap.rows 103 [(0, b), (24, rl), (37, rm), (56, (.made ([.agg [.int .i64 sa, .int .i64 sb, .int .i64 sc, .int .i64 sd]]) 4 true))])) (hc_14 : (i : Int) > 0) (hc_15 : -9223372036854775808 ≤ (i : Int) - 1 ∧ (i : Int) - (1 : Int) ≤ 9223372036854775807) (hc_16 : aindexAddr env.D 22 (.slice om n cm) (.int .i64 ((i : Int) - 1)) = some (.ptr (some ⟨37, 0, 0 + p, 0, 4⟩))) (hc_17 : ABlk.elem? rm 0 (0 + p) = some (.agg [.int .i64 ta, .int .i64 tb, .int .i64 tc, .int .i64 td])) (hc_18 : ¬ (sb < tb)) (hc_19 : -9223372036854775808 ≤ (i : Int) - 1 ∧ (i : Int) - (1 : Int) ≤ 9223372036854775807) (hc_20 : aindexAddr env.D 22 (.slice om n cm) (.int .i64 ((i : Int) - 1)) = some (.ptr (some ⟨37, 0, 0 + p, 0, 4⟩))) (hc_21 : ABlk.elem? rm 0 (0 + p) = some (.agg [.int .i64 ta, .int .i64 tb, .int .i64 tc, .int .i64 td])) (hc_22 : sb = tb) (hc_23 : -9223372036854775808 ≤ (i : Int) - 1 ∧ (i : Int) - (1 : Int) ≤ 9223372036854775807) (hc_24 : aindexAddr env.D 22 (.slice om n cm) (.int .i64 ((i : Int) - 1)) = some (.ptr (some ⟨37, 0, 0 + p, 0, 4⟩))) (hc_25 : ABlk.elem? rm 0 (0 + p) = some (.agg [.int .i64 ta, .int .i64 tb, .int .i64 tc, .int .i64 td])) (hc_26 : ¬ (sa ≤ ta)) (hc_27 : -9223372036854775808 ≤ sa - 1 ∧ sa - (1 : Int) ≤ 9223372036854775807) (hc_28 : sa > 0) (hc_29 : ¬ ((i : Int) = 0)) (hc_30 : -9223372036854775808 ≤ (i : Int) - 1 ∧ (i : Int) - (1 : Int) ≤ 9223372036854775807) (hc_31 : aindexAddr env.D 22 (.slice om n cm) (.int .i64 ((i : Int) - 1)) = some (.ptr (some ⟨37, 0, 0 + p, 0, 4⟩))) (hc_32 : ABlk.elem? rm 0 (0 + p) = some (.agg [.int .i64 ta, .int .i64 tb, .int .i64 tc, .int .i64 td])) (hc_33 : ¬ (sb > tb)) (hc_34 : -9223372036854775808 ≤ (i : Int) - 1 ∧ (i : Int) - (1 : Int) ≤ 9223372036854775807) (hc_35 : aindexAddr env.D 22 (.slice om n cm) (.int .i64 ((i : Int) - 1)) = some (.ptr (some ⟨37, 0, 0 + p, 0, 4⟩))) (hc_36 : ABlk.elem? rm 0 (0 + p) = some (.agg [.int .i64 ta, .int .i64 tb, .int .i64 tc, .int .i64 td])) (hc_37 : sa - 1 > ta) (hc_38 : Runs Try.prog 1 207 (.loop (loopAt Try.prog 6 3)) [(5, .slice ol n cl), (7, .int .i64 C), (8, .slice om n cm), (9, .int .i64 (i : Int)), (13, .ptr (some ⟨139, 0, 0, 0, 4⟩)), (14, AVal.bool false), (15, .int .i64 0)] (AHeap.rows 177 [(0, b), (24, rl), (37, rm), (56, (.made ([.agg [.int .i64 sa, .int .i64 sb, .int .i64 sc, .int .i64 sd]]) 4 true)), (139, (.made ([.agg [.int .i64 (sa - 1), .int .i64 sb, .int .i64 sc, .int .i64 sd]]) 4 true))]) (.exit 6) [(5, .slice ol n cl), (7, .int .i64 C), (8, .slice om n cm), (9, .int .i64 (i : Int)), (14, AVal.bool true)] (AHeap.rows 210 [(0, b), (24, rl), (37, rm)])) (hc_39 : -9223372036854775808 ≤ (i : Int) + 1 ∧ (i : Int) + (1 : Int) ≤ 9223372036854775807) :
    Runs Try.prog 1 207 (loopAt Try.prog 6 1) [(5, .slice ol n cl), (7, .int .i64 C), (8, .slice om n cm), (9, .int .i64 i)] (AHeap.rows 48 [(0, b), (24, rl), (37, rm)]) .normal [(5, .slice ol n cl), (7, .int .i64 C), (8, .slice om n cm), (9, .int .i64 ((i : Int) + 1))] (AHeap.rows 215 [(0, b), (24, rl), (37, rm)]) :=
  ppath_runs env_ok mixed (hs := [.val 13003 (.bool true), .val 15002 (.ptr (some ⟨37, 0, 0 + i, 0, 4⟩)), .ld 15003 (.agg [.int .i64 sa, .int .i64 sb, .int .i64 sc, .int .i64 sd]), .val 16004 (.ptr (some ⟨24, v, 0 + i, 0, 4⟩)), .ld 16006 (.agg [.int .i64 la, .int .i64 lb_, .int .i64 lc, .int .i64 ld_]), .val 16010 (.bool false), .val 16016 (.ptr (some ⟨24, v, 0 + i, 0, 4⟩)), .ld 16018 (.agg [.int .i64 la, .int .i64 lb_, .int .i64 lc, .int .i64 ld_]), .val 16021 (.bool false), .val 16026 (.bool false), .val 16031 (.bool false), .go 16038, .val 16040 (.bool false), .keep [5, 7, 8, 9, 10, 11], .loop [(5, .slice ol n cl), (7, .int .i64 C), (8, .slice om n cm), (9, .int .i64 i), (10, .ptr (some ⟨56, 0, 0, 0, 4⟩))] (AHeap.rows 103 [(0, b), (24, rl), (37, rm), (56, .made [.agg [.int .i64 sa, .int .i64 sb, .int .i64 sc, .int .i64 sd]] 4 true)]) (.exit 4), .val 24001 (.bool true), .go 24007, .val 24008 (.ptr (some ⟨37, 0, 0 + p, 0, 4⟩)), .ld 24010 (.agg [.int .i64 ta, .int .i64 tb, .int .i64 tc, .int .i64 td]), .val 24011 (.bool false), .go 24017, .val 24018 (.ptr (some ⟨37, 0, 0 + p, 0, 4⟩)), .ld 24020 (.agg [.int .i64 ta, .int .i64 tb, .int .i64 tc, .int .i64 td]), .val 24021 (.bool true), .go 24027, .val 24028 (.ptr (some ⟨37, 0, 0 + p, 0, 4⟩)), .ld 24030 (.agg [.int .i64 ta, .int .i64 tb, .int .i64 tc, .int .i64 td]), .val 24031 (.bool false), .go 27002, .val 28002 (.bool true), .val 28005 (.bool false), .go 28011, .val 28012 (.ptr (some ⟨37, 0, 0 + p, 0, 4⟩)), .ld 28014 (.agg [.int .i64 ta, .int .i64 tb, .int .i64 tc, .int .i64 td]), .val 28015 (.bool false), .go 28022, .val 28023 (.ptr (some ⟨37, 0, 0 + p, 0, 4⟩)), .ld 28025 (.agg [.int .i64 ta, .int .i64 tb, .int .i64 tc, .int .i64 td]), .val 28026 (.bool true), .keep [5, 7, 8, 9, 13, 14, 15], .loop [(5, .slice ol n cl), (7, .int .i64 C), (8, .slice om n cm), (9, .int .i64 i), (14, .bool true)] (AHeap.rows 210 [(0, b), (24, rl), (37, rm)]) (.exit 6), .go 14001]) (keep := [5, 7, 8, 9]) (by kernel_rfl) (All.cons (okT hc_0) (All.cons hc_1 (All.cons hc_2 (All.cons hc_3 (All.cons hc_4 (All.cons (neF hc_5) (All.cons hc_6 (All.cons hc_7 (All.cons (neF hc_8) (All.cons (okF hc_9) (All.cons (okF hc_10) (All.cons hc_11 (All.cons (okF hc_12) (All.cons hc_13 (All.cons (okT hc_14) (All.cons hc_15 (All.cons hc_16 (All.cons hc_17 (All.cons (okF hc_18) (All.cons hc_19 (All.cons hc_20 (All.cons hc_21 (All.cons (eqT hc_22) (All.cons hc_23 (All.cons hc_24 (All.cons hc_25 (All.cons (okF hc_26) (All.cons hc_27 (All.cons (okT hc_28) (All.cons (eqF hc_29) (All.cons hc_30 (All.cons hc_31 (All.cons hc_32 (All.cons (okF hc_33) (All.cons hc_34 (All.cons hc_35 (All.cons hc_36 (All.cons (okT hc_37) (All.cons hc_38 (All.cons hc_39 (All.nil)))))))))))))))))))))))))))))))))))))))))

theorem gf_P4 (ol om : Option AAddr) (n cl cm v p i : Nat) (b rl rm : ABlk) (C la lb_ lc ld_ sa sb sc sd ta tb tc td : Int) (hc_0 : (i : Int) < (n : Int)) (hc_1 : aindexAddr env.D 22 (.slice om n cm) (.int .i64 (i : Int)) = some (.ptr (some ⟨37, 0, 0 + i, 0, 4⟩))) (hc_2 : ABlk.elem? rm 0 (0 + i) = some (.agg [.int .i64 sa, .int .i64 sb, .int .i64 sc, .int .i64 sd])) (hc_3 : aindexAddr env.D 22 (.slice ol n cl) (.int .i64 (i : Int)) = some (.ptr (some ⟨24, v, 0 + i, 0, 4⟩))) (hc_4 : ABlk.elem? rl v (0 + i) = some (.agg [.int .i64 la, .int .i64 lb_, .int .i64 lc, .int .i64 ld_])) (hc_5 : sc = if C < if 1 > lc then 1 else lc then C else if 1 > lc then 1 else lc) (hc_6 : aindexAddr env.D 22 (.slice ol n cl) (.int .i64 (i : Int)) = some (.ptr (some ⟨24, v, 0 + i, 0, 4⟩))) (hc_7 : ABlk.elem? rl v (0 + i) = some (.agg [.int .i64 la, .int .i64 lb_, .int .i64 lc, .int .i64 ld_])) (hc_8 : sd = if 4096 < if 1 > ld_ then 1 else ld_ then 4096 else if 1 > ld_ then 1 else ld_) (hc_9 : ¬ (sa < 0)) (hc_10 : ¬ (sb < 0)) (hc_11 : -9223372036854775808 ≤ sa + sc ∧ sa + sc ≤ 9223372036854775807) (hc_12 : ¬ (sa + sc > C)) (hc_13 : Runs Try.prog 1 207 (.loop (loopAt Try.prog 6 2)) [(5, .slice ol n cl), (7, .int .i64 C), (8, .slice om n cm), (9, .int .i64 (i : Int)), (10, .ptr (some ⟨56, 0, 0, 0, 4⟩)), (11, .int .i64 0)] (AHeap.rows 101 [(0, b), (24, rl), (37, rm), (56, (.made ([.agg [.int .i64 sa, .int .i64 sb, .int .i64 sc, .int .i64 sd]]) 4 true))]) (.exit 4) [(5, .slice ol n cl), (7, .int .i64 C), (8, .slice om n cm), (9, .int .i64 (i : Int)), (10, .ptr (some ⟨56, 0, 0, 0, 4⟩))] (AHeap.rows 103 [(0, b), (24, rl), (37, rm), (56, (.made ([.agg [.int .i64 sa, .int .i64 sb, .int .i64 sc, .int .i64 sd]]) 4 true))])) (hc_14 : (i : Int) > 0) (hc_15 : -9223372036854775808 ≤ (i : Int) - 1 ∧ (i : Int) - (1 : Int) ≤ 9223372036854775807) (hc_16 : aindexAddr env.D 22 (.slice om n cm) (.int .i64 ((i : Int) - 1)) = some (.ptr (some ⟨37, 0, 0 + p, 0, 4⟩))) (hc_17 : ABlk.elem? rm 0 (0 + p) = some (.agg [.int .i64 ta, .int .i64 tb, .int .i64 tc, .int .i64 td])) (hc_18 : ¬ (sb < tb)) (hc_19 : -9223372036854775808 ≤ (i : Int) - 1 ∧ (i : Int) - (1 : Int) ≤ 9223372036854775807) (hc_20 : aindexAddr env.D 22 (.slice om n cm) (.int .i64 ((i : Int) - 1)) = some (.ptr (some ⟨37, 0, 0 + p, 0, 4⟩))) (hc_21 : ABlk.elem? rm 0 (0 + p) = some (.agg [.int .i64 ta, .int .i64 tb, .int .i64 tc, .int .i64 td])) (hc_22 : ¬ (sb = tb)) (hc_23 : -9223372036854775808 ≤ sa - 1 ∧ sa - (1 : Int) ≤ 9223372036854775807) (hc_24 : ¬ (sa > 0)) (hc_25 : -9223372036854775808 ≤ (i : Int) + 1 ∧ (i : Int) + (1 : Int) ≤ 9223372036854775807) :
    Runs Try.prog 1 207 (loopAt Try.prog 6 1) [(5, .slice ol n cl), (7, .int .i64 C), (8, .slice om n cm), (9, .int .i64 i)] (AHeap.rows 48 [(0, b), (24, rl), (37, rm)]) .normal [(5, .slice ol n cl), (7, .int .i64 C), (8, .slice om n cm), (9, .int .i64 ((i : Int) + 1))] (AHeap.rows 178 [(0, b), (24, rl), (37, rm), (56, (.made ([.agg [.int .i64 sa, .int .i64 sb, .int .i64 sc, .int .i64 sd]]) 4 true)), (139, (.made ([.agg [.int .i64 (sa - 1), .int .i64 sb, .int .i64 sc, .int .i64 sd]]) 4 true))]) :=
  ppath_runs env_ok mixed (hs := [.val 13003 (.bool true), .val 15002 (.ptr (some ⟨37, 0, 0 + i, 0, 4⟩)), .ld 15003 (.agg [.int .i64 sa, .int .i64 sb, .int .i64 sc, .int .i64 sd]), .val 16004 (.ptr (some ⟨24, v, 0 + i, 0, 4⟩)), .ld 16006 (.agg [.int .i64 la, .int .i64 lb_, .int .i64 lc, .int .i64 ld_]), .val 16010 (.bool false), .val 16016 (.ptr (some ⟨24, v, 0 + i, 0, 4⟩)), .ld 16018 (.agg [.int .i64 la, .int .i64 lb_, .int .i64 lc, .int .i64 ld_]), .val 16021 (.bool false), .val 16026 (.bool false), .val 16031 (.bool false), .go 16038, .val 16040 (.bool false), .keep [5, 7, 8, 9, 10, 11], .loop [(5, .slice ol n cl), (7, .int .i64 C), (8, .slice om n cm), (9, .int .i64 i), (10, .ptr (some ⟨56, 0, 0, 0, 4⟩))] (AHeap.rows 103 [(0, b), (24, rl), (37, rm), (56, .made [.agg [.int .i64 sa, .int .i64 sb, .int .i64 sc, .int .i64 sd]] 4 true)]) (.exit 4), .val 24001 (.bool true), .go 24007, .val 24008 (.ptr (some ⟨37, 0, 0 + p, 0, 4⟩)), .ld 24010 (.agg [.int .i64 ta, .int .i64 tb, .int .i64 tc, .int .i64 td]), .val 24011 (.bool false), .go 24017, .val 24018 (.ptr (some ⟨37, 0, 0 + p, 0, 4⟩)), .ld 24020 (.agg [.int .i64 ta, .int .i64 tb, .int .i64 tc, .int .i64 td]), .val 24021 (.bool false), .go 27002, .val 28002 (.bool false), .go 14001]) (keep := [5, 7, 8, 9]) (by kernel_rfl) (All.cons (okT hc_0) (All.cons hc_1 (All.cons hc_2 (All.cons hc_3 (All.cons hc_4 (All.cons (neF hc_5) (All.cons hc_6 (All.cons hc_7 (All.cons (neF hc_8) (All.cons (okF hc_9) (All.cons (okF hc_10) (All.cons hc_11 (All.cons (okF hc_12) (All.cons hc_13 (All.cons (okT hc_14) (All.cons hc_15 (All.cons hc_16 (All.cons hc_17 (All.cons (okF hc_18) (All.cons hc_19 (All.cons hc_20 (All.cons hc_21 (All.cons (eqF hc_22) (All.cons hc_23 (All.cons (okF hc_24) (All.cons hc_25 (All.nil)))))))))))))))))))))))))))

theorem gf_P5 (ol om : Option AAddr) (n cl cm v p i : Nat) (b rl rm : ABlk) (C la lb_ lc ld_ sa sb sc sd ta tb tc td : Int) (hc_0 : (i : Int) < (n : Int)) (hc_1 : aindexAddr env.D 22 (.slice om n cm) (.int .i64 (i : Int)) = some (.ptr (some ⟨37, 0, 0 + i, 0, 4⟩))) (hc_2 : ABlk.elem? rm 0 (0 + i) = some (.agg [.int .i64 sa, .int .i64 sb, .int .i64 sc, .int .i64 sd])) (hc_3 : aindexAddr env.D 22 (.slice ol n cl) (.int .i64 (i : Int)) = some (.ptr (some ⟨24, v, 0 + i, 0, 4⟩))) (hc_4 : ABlk.elem? rl v (0 + i) = some (.agg [.int .i64 la, .int .i64 lb_, .int .i64 lc, .int .i64 ld_])) (hc_5 : sc = if C < if 1 > lc then 1 else lc then C else if 1 > lc then 1 else lc) (hc_6 : aindexAddr env.D 22 (.slice ol n cl) (.int .i64 (i : Int)) = some (.ptr (some ⟨24, v, 0 + i, 0, 4⟩))) (hc_7 : ABlk.elem? rl v (0 + i) = some (.agg [.int .i64 la, .int .i64 lb_, .int .i64 lc, .int .i64 ld_])) (hc_8 : sd = if 4096 < if 1 > ld_ then 1 else ld_ then 4096 else if 1 > ld_ then 1 else ld_) (hc_9 : ¬ (sa < 0)) (hc_10 : ¬ (sb < 0)) (hc_11 : -9223372036854775808 ≤ sa + sc ∧ sa + sc ≤ 9223372036854775807) (hc_12 : ¬ (sa + sc > C)) (hc_13 : Runs Try.prog 1 207 (.loop (loopAt Try.prog 6 2)) [(5, .slice ol n cl), (7, .int .i64 C), (8, .slice om n cm), (9, .int .i64 (i : Int)), (10, .ptr (some ⟨56, 0, 0, 0, 4⟩)), (11, .int .i64 0)] (AHeap.rows 101 [(0, b), (24, rl), (37, rm), (56, (.made ([.agg [.int .i64 sa, .int .i64 sb, .int .i64 sc, .int .i64 sd]]) 4 true))]) (.exit 4) [(5, .slice ol n cl), (7, .int .i64 C), (8, .slice om n cm), (9, .int .i64 (i : Int)), (10, .ptr (some ⟨56, 0, 0, 0, 4⟩))] (AHeap.rows 103 [(0, b), (24, rl), (37, rm), (56, (.made ([.agg [.int .i64 sa, .int .i64 sb, .int .i64 sc, .int .i64 sd]]) 4 true))])) (hc_14 : (i : Int) > 0) (hc_15 : -9223372036854775808 ≤ (i : Int) - 1 ∧ (i : Int) - (1 : Int) ≤ 9223372036854775807) (hc_16 : aindexAddr env.D 22 (.slice om n cm) (.int .i64 ((i : Int) - 1)) = some (.ptr (some ⟨37, 0, 0 + p, 0, 4⟩))) (hc_17 : ABlk.elem? rm 0 (0 + p) = some (.agg [.int .i64 ta, .int .i64 tb, .int .i64 tc, .int .i64 td])) (hc_18 : ¬ (sb < tb)) (hc_19 : -9223372036854775808 ≤ (i : Int) - 1 ∧ (i : Int) - (1 : Int) ≤ 9223372036854775807) (hc_20 : aindexAddr env.D 22 (.slice om n cm) (.int .i64 ((i : Int) - 1)) = some (.ptr (some ⟨37, 0, 0 + p, 0, 4⟩))) (hc_21 : ABlk.elem? rm 0 (0 + p) = some (.agg [.int .i64 ta, .int .i64 tb, .int .i64 tc, .int .i64 td])) (hc_22 : ¬ (sb = tb)) (hc_23 : -9223372036854775808 ≤ sa - 1 ∧ sa - (1 : Int) ≤ 9223372036854775807) (hc_24 : sa > 0) (hc_25 : ¬ ((i : Int) = 0)) (hc_26 : -9223372036854775808 ≤ (i : Int) - 1 ∧ (i : Int) - (1 : Int) ≤ 9223372036854775807) (hc_27 : aindexAddr env.D 22 (.slice om n cm) (.int .i64 ((i : Int) - 1)) = some (.ptr (some ⟨37, 0, 0 + p, 0, 4⟩))) (hc_28 : ABlk.elem? rm 0 (0 + p) = some (.agg [.int .i64 ta, .int .i64 tb, .int .i64 tc, .int .i64 td])) (hc_29 : sb > tb) (hc_30 : Runs Try.prog 1 207 (.loop (loopAt Try.prog 6 3)) [(5, .slice ol n cl), (7, .int .i64 C), (8, .slice om n cm), (9, .int .i64 (i : Int)), (13, .ptr (some ⟨139, 0, 0, 0, 4⟩)), (14, AVal.bool false), (15, .int .i64 0)] (AHeap.rows 177 [(0, b), (24, rl), (37, rm), (56, (.made ([.agg [.int .i64 sa, .int .i64 sb, .int .i64 sc, .int .i64 sd]]) 4 true)), (139, (.made ([.agg [.int .i64 (sa - 1), .int .i64 sb, .int .i64 sc, .int .i64 sd]]) 4 true))]) (.exit 6) [(5, .slice ol n cl), (7, .int .i64 C), (8, .slice om n cm), (9, .int .i64 (i : Int)), (14, AVal.bool true)] (AHeap.rows 210 [(0, b), (24, rl), (37, rm)])) (hc_31 : -9223372036854775808 ≤ (i : Int) + 1 ∧ (i : Int) + (1 : Int) ≤ 9223372036854775807) :
    Runs Try.prog 1 207 (loopAt Try.prog 6 1) [(5, .slice ol n cl), (7, .int .i64 C), (8, .slice om n cm), (9, .int .i64 i)] (AHeap.rows 48 [(0, b), (24, rl), (37, rm)]) .normal [(5, .slice ol n cl), (7, .int .i64 C), (8, .slice om n cm), (9, .int .i64 ((i : Int) + 1))] (AHeap.rows 215 [(0, b), (24, rl), (37, rm)]) :=
  ppath_runs env_ok mixed (hs := [.val 13003 (.bool true), .val 15002 (.ptr (some ⟨37, 0, 0 + i, 0, 4⟩)), .ld 15003 (.agg [.int .i64 sa, .int .i64 sb, .int .i64 sc, .int .i64 sd]), .val 16004 (.ptr (some ⟨24, v, 0 + i, 0, 4⟩)), .ld 16006 (.agg [.int .i64 la, .int .i64 lb_, .int .i64 lc, .int .i64 ld_]), .val 16010 (.bool false), .val 16016 (.ptr (some ⟨24, v, 0 + i, 0, 4⟩)), .ld 16018 (.agg [.int .i64 la, .int .i64 lb_, .int .i64 lc, .int .i64 ld_]), .val 16021 (.bool false), .val 16026 (.bool false), .val 16031 (.bool false), .go 16038, .val 16040 (.bool false), .keep [5, 7, 8, 9, 10, 11], .loop [(5, .slice ol n cl), (7, .int .i64 C), (8, .slice om n cm), (9, .int .i64 i), (10, .ptr (some ⟨56, 0, 0, 0, 4⟩))] (AHeap.rows 103 [(0, b), (24, rl), (37, rm), (56, .made [.agg [.int .i64 sa, .int .i64 sb, .int .i64 sc, .int .i64 sd]] 4 true)]) (.exit 4), .val 24001 (.bool true), .go 24007, .val 24008 (.ptr (some ⟨37, 0, 0 + p, 0, 4⟩)), .ld 24010 (.agg [.int .i64 ta, .int .i64 tb, .int .i64 tc, .int .i64 td]), .val 24011 (.bool false), .go 24017, .val 24018 (.ptr (some ⟨37, 0, 0 + p, 0, 4⟩)), .ld 24020 (.agg [.int .i64 ta, .int .i64 tb, .int .i64 tc, .int .i64 td]), .val 24021 (.bool false), .go 27002, .val 28002 (.bool true), .val 28005 (.bool false), .go 28011, .val 28012 (.ptr (some ⟨37, 0, 0 + p, 0, 4⟩)), .ld 28014 (.agg [.int .i64 ta, .int .i64 tb, .int .i64 tc, .int .i64 td]), .val 28015 (.bool true), .keep [5, 7, 8, 9, 13, 14, 15], .loop [(5, .slice ol n cl), (7, .int .i64 C), (8, .slice om n cm), (9, .int .i64 i), (14, .bool true)] (AHeap.rows 210 [(0, b), (24, rl), (37, rm)]) (.exit 6), .go 14001]) (keep := [5, 7, 8, 9]) (by kernel_rfl) (All.cons (okT hc_0) (All.cons hc_1 (All.cons hc_2 (All.cons hc_3 (All.cons hc_4 (All.cons (neF hc_5) (All.cons hc_6 (All.cons hc_7 (All.cons (neF hc_8) (All.cons (okF hc_9) (All.cons (okF hc_10) (All.cons hc_11 (All.cons (okF hc_12) (All.cons hc_13 (All.cons (okT hc_14) (All.cons hc_15 (All.cons hc_16 (All.cons hc_17 (All.cons (okF hc_18) (All.cons hc_19 (All.cons hc_20 (All.cons hc_21 (All.cons (eqF hc_22) (All.cons hc_23 (All.cons (okT hc_24) (All.cons (eqF hc_25) (All.cons hc_26 (All.cons hc_27 (All.cons hc_28 (All.cons (okT hc_29) (All.cons hc_30 (All.cons hc_31 (All.nil)))))))))))))))))))))))))))))))))

theorem gf_chkEnd (ol om : Option AAddr) (n cl cm v p i : Nat) (b rl rm : ABlk) (C la lb_ lc ld_ sa sb sc sd ta tb tc td : Int) (hc_0 : ¬ ((i : Int) < (n : Int))) :
    Runs Try.prog 1 207 (loopAt Try.prog 6 1) [(5, .slice ol n cl), (7, .int .i64 C), (8, .slice om n cm), (9, .int .i64 i)] (AHeap.rows 48 [(0, b), (24, rl), (37, rm)]) (.exit 2) [] (AHeap.rows 52 [(0, b), (24, rl), (37, rm)]) :=
  ppath_runs env_ok mixed (hs := [.val 13003 (.bool false)]) (keep := []) (by kernel_rfl) (All.cons (okF hc_0) (All.nil))

theorem gk_step (ol om : Option AAddr) (n cl cm i k : Nat) (b rl rm : ABlk) (C sa sb sc sd ta tb tc td : Int) (mm : Bool) (hc_0 : (k : Int) < (i : Int)) (hc_1 : aindexAddr env.D 22 (.slice om n cm) (.int .i64 (k : Int)) = some (.ptr (some ⟨37, 0, 0 + k, 0, 4⟩))) (hc_2 : ABlk.elem? rm 0 (0 + k) = some (.agg [.int .i64 ta, .int .i64 tb, .int .i64 tc, .int .i64 td])) (hc_3 : FDoes Try.prog 23 [.agg [.int .i64 ta, .int .i64 tb, .int .i64 tc, .int .i64 td], .agg [.int .i64 sa, .int .i64 sb, .int .i64 sc, .int .i64 sd]] (AHeap.rows 110 [(0, b), (24, rl), (37, rm), (56, (.made ([.agg [.int .i64 sa, .int .i64 sb, .int .i64 sc, .int .i64 sd]]) 4 true))]) (AVal.bool false) (AHeap.rows 110 [(0, b), (24, rl), (37, rm), (56, (.made ([.agg [.int .i64 sa, .int .i64 sb, .int .i64 sc, .int .i64 sd]]) 4 true))])) (hc_4 : -9223372036854775808 ≤ (k : Int) + 1 ∧ (k : Int) + (1 : Int) ≤ 9223372036854775807) :
    Runs Try.prog 1 207 (loopAt Try.prog 6 2) [(5, .slice ol n cl), (7, .int .i64 C), (8, .slice om n cm), (9, .int .i64 i), (10, .ptr (some ⟨56, 0, 0, 0, 4⟩)), (11, .int .i64 k)] (AHeap.rows 100 [(0, b), (24, rl), (37, rm), (56, .made [.agg [.int .i64 sa, .int .i64 sb, .int .i64 sc, .int .i64 sd]] 4 true)]) .normal [(5, .slice ol n cl), (7, .int .i64 C), (8, .slice om n cm), (9, .int .i64 (i : Int)), (10, .ptr (some ⟨56, 0, 0, 0, 4⟩)), (11, .int .i64 ((k : Int) + 1))] (AHeap.rows 114 [(0, b), (24, rl), (37, rm), (56, (.made ([.agg [.int .i64 sa, .int .i64 sb, .int .i64 sc, .int .i64 sd]]) 4 true))]) :=
  ppath_runs env_ok mixed (hs := [.val 19002 (.bool true), .val 21002 (.ptr (some ⟨37, 0, 0 + k, 0, 4⟩)), .ld 21003 (.agg [.int .i64 ta, .int .i64 tb, .int .i64 tc, .int .i64 td]), .val 21005 (.bool false), .go 20001]) (keep := [5, 7, 8, 9, 10, 11]) (by kernel_rfl) (All.cons (okT hc_0) (All.cons hc_1 (All.cons hc_2 (All.cons (CallT.mk hc_3) (All.cons hc_4 (All.nil))))))

theorem gk_end (ol om : Option AAddr) (n cl cm i k : Nat) (b rl rm : ABlk) (C sa sb sc sd ta tb tc td : Int) (mm : Bool) (hc_0 : ¬ ((k : Int) < (i : Int))) :
    Runs Try.prog 1 207 (loopAt Try.prog 6 2) [(5, .slice ol n cl), (7, .int .i64 C), (8, .slice om n cm), (9, .int .i64 i), (10, .ptr (some ⟨56, 0, 0, 0, 4⟩)), (11, .int .i64 k)] (AHeap.rows 100 [(0, b), (24, rl), (37, rm), (56, .made [.agg [.int .i64 sa, .int .i64 sb, .int .i64 sc, .int .i64 sd]] 4 true)]) (.exit 4) [(5, .slice ol n cl), (7, .int .i64 C), (8, .slice om n cm), (9, .int .i64 (i : Int)), (10, .ptr (some ⟨56, 0, 0, 0, 4⟩))] (AHeap.rows 103 [(0, b), (24, rl), (37, rm), (56, (.made ([.agg [.int .i64 sa, .int .i64 sb, .int .i64 sc, .int .i64 sd]]) 4 true))]) :=
  ppath_runs env_ok mixed (hs := [.val 19002 (.bool false)]) (keep := [5, 7, 8, 9, 10]) (by kernel_rfl) (All.cons (okF hc_0) (All.nil))

theorem gt_t (ol om : Option AAddr) (n cl cm i k : Nat) (b rl rm : ABlk) (C sa sb sc sd ta tb tc td : Int) (mm : Bool) (hc_0 : (k : Int) < (i : Int)) (hc_1 : aindexAddr env.D 22 (.slice om n cm) (.int .i64 (k : Int)) = some (.ptr (some ⟨37, 0, 0 + k, 0, 4⟩))) (hc_2 : ABlk.elem? rm 0 (0 + k) = some (.agg [.int .i64 ta, .int .i64 tb, .int .i64 tc, .int .i64 td])) (hc_3 : FDoes Try.prog 23 [.agg [.int .i64 ta, .int .i64 tb, .int .i64 tc, .int .i64 td], .agg [.int .i64 sa, .int .i64 sb, .int .i64 sc, .int .i64 sd]] (AHeap.rows 180 [(0, b), (24, rl), (37, rm), (139, (.made ([.agg [.int .i64 sa, .int .i64 sb, .int .i64 sc, .int .i64 sd]]) 4 true))]) (AVal.bool mm) (AHeap.rows 180 [(0, b), (24, rl), (37, rm), (139, (.made ([.agg [.int .i64 sa, .int .i64 sb, .int .i64 sc, .int .i64 sd]]) 4 true))])) (hc_4 : -9223372036854775808 ≤ (k : Int) + 1 ∧ (k : Int) + (1 : Int) ≤ 9223372036854775807) :
    Runs Try.prog 1 207 (loopAt Try.prog 6 3) [(5, .slice ol n cl), (7, .int .i64 C), (8, .slice om n cm), (9, .int .i64 i), (13, .ptr (some ⟨139, 0, 0, 0, 4⟩)), (14, .bool true), (15, .int .i64 k)] (AHeap.rows 170 [(0, b), (24, rl), (37, rm), (139, .made [.agg [.int .i64 sa, .int .i64 sb, .int .i64 sc, .int .i64 sd]] 4 true)]) .normal [(5, .slice ol n cl), (7, .int .i64 C), (8, .slice om n cm), (9, .int .i64 (i : Int)), (13, .ptr (some ⟨139, 0, 0, 0, 4⟩)), (14, AVal.bool true), (15, .int .i64 ((k : Int) + 1))] (AHeap.rows 188 [(0, b), (24, rl), (37, rm), (139, (.made ([.agg [.int .i64 sa, .int .i64 sb, .int .i64 sc, .int .i64 sd]]) 4 true))]) :=
  ppath_runs env_ok mixed (hs := [.val 31002 (.bool true), .val 33002 (.ptr (some ⟨37, 0, 0 + k, 0, 4⟩)), .ld 33003 (.agg [.int .i64 ta, .int .i64 tb, .int .i64 tc, .int .i64 td]), .val 33005 (.bool mm), .go 32001]) (keep := [5, 7, 8, 9, 13, 14, 15]) (by kernel_rfl) (All.cons (okT hc_0) (All.cons hc_1 (All.cons hc_2 (All.cons (CallT.mk hc_3) (All.cons hc_4 (All.nil))))))

theorem gt_y (ol om : Option AAddr) (n cl cm i k : Nat) (b rl rm : ABlk) (C sa sb sc sd ta tb tc td : Int) (mm : Bool) (hc_0 : (k : Int) < (i : Int)) (hc_1 : aindexAddr env.D 22 (.slice om n cm) (.int .i64 (k : Int)) = some (.ptr (some ⟨37, 0, 0 + k, 0, 4⟩))) (hc_2 : ABlk.elem? rm 0 (0 + k) = some (.agg [.int .i64 ta, .int .i64 tb, .int .i64 tc, .int .i64 td])) (hc_3 : FDoes Try.prog 23 [.agg [.int .i64 ta, .int .i64 tb, .int .i64 tc, .int .i64 td], .agg [.int .i64 sa, .int .i64 sb, .int .i64 sc, .int .i64 sd]] (AHeap.rows 180 [(0, b), (24, rl), (37, rm), (139, (.made ([.agg [.int .i64 sa, .int .i64 sb, .int .i64 sc, .int .i64 sd]]) 4 true))]) (AVal.bool true) (AHeap.rows 180 [(0, b), (24, rl), (37, rm), (139, (.made ([.agg [.int .i64 sa, .int .i64 sb, .int .i64 sc, .int .i64 sd]]) 4 true))])) (hc_4 : -9223372036854775808 ≤ (k : Int) + 1 ∧ (k : Int) + (1 : Int) ≤ 9223372036854775807) :
    Runs Try.prog 1 207 (loopAt Try.prog 6 3) [(5, .slice ol n cl), (7, .int .i64 C), (8, .slice om n cm), (9, .int .i64 i), (13, .ptr (some ⟨139, 0, 0, 0, 4⟩)), (14, .bool false), (15, .int .i64 k)] (AHeap.rows 170 [(0, b), (24, rl), (37, rm), (139, .made [.agg [.int .i64 sa, .int .i64 sb, .int .i64 sc, .int .i64 sd]] 4 true)]) .normal [(5, .slice ol n cl), (7, .int .i64 C), (8, .slice om n cm), (9, .int .i64 (i : Int)), (13, .ptr (some ⟨139, 0, 0, 0, 4⟩)), (14, AVal.bool true), (15, .int .i64 ((k : Int) + 1))] (AHeap.rows 188 [(0, b), (24, rl), (37, rm), (139, (.made ([.agg [.int .i64 sa, .int .i64 sb, .int .i64 sc, .int .i64 sd]]) 4 true))]) :=
  ppath_runs env_ok mixed (hs := [.val 31002 (.bool true), .val 33002 (.ptr (some ⟨37, 0, 0 + k, 0, 4⟩)), .ld 33003 (.agg [.int .i64 ta, .int .i64 tb, .int .i64 tc, .int .i64 td]), .val 33005 (.bool true), .go 32001]) (keep := [5, 7, 8, 9, 13, 14, 15]) (by kernel_rfl) (All.cons (okT hc_0) (All.cons hc_1 (All.cons hc_2 (All.cons (CallT.mk hc_3) (All.cons hc_4 (All.nil))))))

theorem gt_n (ol om : Option AAddr) (n cl cm i k : Nat) (b rl rm : ABlk) (C sa sb sc sd ta tb tc td : Int) (mm : Bool) (hc_0 : (k : Int) < (i : Int)) (hc_1 : aindexAddr env.D 22 (.slice om n cm) (.int .i64 (k : Int)) = some (.ptr (some ⟨37, 0, 0 + k, 0, 4⟩))) (hc_2 : ABlk.elem? rm 0 (0 + k) = some (.agg [.int .i64 ta, .int .i64 tb, .int .i64 tc, .int .i64 td])) (hc_3 : FDoes Try.prog 23 [.agg [.int .i64 ta, .int .i64 tb, .int .i64 tc, .int .i64 td], .agg [.int .i64 sa, .int .i64 sb, .int .i64 sc, .int .i64 sd]] (AHeap.rows 180 [(0, b), (24, rl), (37, rm), (139, (.made ([.agg [.int .i64 sa, .int .i64 sb, .int .i64 sc, .int .i64 sd]]) 4 true))]) (AVal.bool false) (AHeap.rows 180 [(0, b), (24, rl), (37, rm), (139, (.made ([.agg [.int .i64 sa, .int .i64 sb, .int .i64 sc, .int .i64 sd]]) 4 true))])) (hc_4 : -9223372036854775808 ≤ (k : Int) + 1 ∧ (k : Int) + (1 : Int) ≤ 9223372036854775807) :
    Runs Try.prog 1 207 (loopAt Try.prog 6 3) [(5, .slice ol n cl), (7, .int .i64 C), (8, .slice om n cm), (9, .int .i64 i), (13, .ptr (some ⟨139, 0, 0, 0, 4⟩)), (14, .bool false), (15, .int .i64 k)] (AHeap.rows 170 [(0, b), (24, rl), (37, rm), (139, .made [.agg [.int .i64 sa, .int .i64 sb, .int .i64 sc, .int .i64 sd]] 4 true)]) .normal [(5, .slice ol n cl), (7, .int .i64 C), (8, .slice om n cm), (9, .int .i64 (i : Int)), (13, .ptr (some ⟨139, 0, 0, 0, 4⟩)), (14, AVal.bool false), (15, .int .i64 ((k : Int) + 1))] (AHeap.rows 188 [(0, b), (24, rl), (37, rm), (139, (.made ([.agg [.int .i64 sa, .int .i64 sb, .int .i64 sc, .int .i64 sd]]) 4 true))]) :=
  ppath_runs env_ok mixed (hs := [.val 31002 (.bool true), .val 33002 (.ptr (some ⟨37, 0, 0 + k, 0, 4⟩)), .ld 33003 (.agg [.int .i64 ta, .int .i64 tb, .int .i64 tc, .int .i64 td]), .val 33005 (.bool false), .go 32001]) (keep := [5, 7, 8, 9, 13, 14, 15]) (by kernel_rfl) (All.cons (okT hc_0) (All.cons hc_1 (All.cons hc_2 (All.cons (CallT.mk hc_3) (All.cons hc_4 (All.nil))))))

theorem gt_end (ol om : Option AAddr) (n cl cm i k : Nat) (b rl rm : ABlk) (C sa sb sc sd ta tb tc td : Int) (mm : Bool) (hc_0 : ¬ ((k : Int) < (i : Int))) :
    Runs Try.prog 1 207 (loopAt Try.prog 6 3) [(5, .slice ol n cl), (7, .int .i64 C), (8, .slice om n cm), (9, .int .i64 i), (13, .ptr (some ⟨139, 0, 0, 0, 4⟩)), (14, .bool mm), (15, .int .i64 k)] (AHeap.rows 170 [(0, b), (24, rl), (37, rm), (139, .made [.agg [.int .i64 sa, .int .i64 sb, .int .i64 sc, .int .i64 sd]] 4 true)]) (.exit 6) [(5, .slice ol n cl), (7, .int .i64 C), (8, .slice om n cm), (9, .int .i64 (i : Int)), (14, AVal.bool mm)] (AHeap.rows 173 [(0, b), (24, rl), (37, rm), (139, (.made ([.agg [.int .i64 sa, .int .i64 sb, .int .i64 sc, .int .i64 sd]]) 4 true))]) :=
  ppath_runs env_ok mixed (hs := [.val 31002 (.bool false)]) (keep := [5, 7, 8, 9, 14]) (by kernel_rfl) (All.cons (okF hc_0) (All.nil))

theorem gf_callA (o ol om : Option AAddr) (n c cl cm : Nat) (b rl rm : ABlk) (cols : Int) (hc_0 : (n : Int) > 300) (hc_1 : aslice env.D 47 (.slice o n c) none (some (.int .i64 300)) none = some (.slice o 300 c)) (hc_2 : Runs Try.prog 1 207 (.loop (loopAt Try.prog 6 0)) [(0, .slice o 300 c), (1, .int .i64 cols), (5, .slice none 0 0), (6, .int .i64 0)] (AHeap.rows 10 [(0, b)]) (.exit 0) [(1, .int .i64 cols), (5, .slice ol 300 cl)] (AHeap.rows 29 [(0, b), (24, rl)])) (hc_3 : FDoes Try.prog 13 [.slice ol 300 cl, .int .i64 cols] (AHeap.rows 37 [(0, b), (24, rl)]) (.slice om 300 cm) (AHeap.rows 38 [(0, b), (24, rl), (37, rm)])) (hc_6 : Runs Try.prog 1 207 (.loop (loopAt Try.prog 6 1)) [(5, .slice ol 300 cl), (7, .int .i64 (if 64 < if 1 > cols then 1 else cols then 64 else if 1 > cols then 1 else cols)), (8, .slice om 300 cm), (9, .int .i64 0)] (AHeap.rows 48 [(0, b), (24, rl), (37, rm)]) (.exit 2) [] (AHeap.rows 64 [(0, b)])) :
    FDoes Try.prog 6 [.slice o n c, .int .i64 cols] (AHeap.of [b]) (AVal.bool true) (AHeap.rows 65 [(0, b)]) :=
  pcall_does env_ok mixed (hs := [.val 1002 (.bool true), .val 2001 (.slice o 300 c), .keep [0, 1, 5, 6], .loop [(1, .int .i64 cols), (5, .slice ol 300 cl)] (AHeap.rows 29 [(0, b), (24, rl)]) (.exit 0), .act 9002 (.slice om 300 cm) (fun h => h.upd [] [rm]), .val 10004 (.bool false), .val 10006 (.bool true), .keep [5, 7, 8, 9], .loop [] (AHeap.rows 64 [(0, b)]) (.exit 2)]) (rs := []) (by kernel_rfl) (All.cons (okT hc_0) (All.cons hc_1 (All.cons hc_2 (All.cons (CallT.mk hc_3) (All.cons (show some (AVal.bool false) = some (AVal.bool false) from congrArg (fun q => some (AVal.bool q)) (rfl)) (All.cons (show CallT Try.prog 16 [] (AHeap.rows 47 [(0, b), (24, rl), (37, rm)]) (AVal.bool true) (AHeap.rows 47 [(0, b), (24, rl), (37, rm)]) from ⟨(alive_does _)⟩) (All.cons hc_6 (All.nil))))))))

theorem gf_callB (o ol om : Option AAddr) (n c cl cm : Nat) (b rl rm : ABlk) (cols : Int) (hc_0 : ¬ ((n : Int) > 300)) (hc_1 : Runs Try.prog 1 207 (.loop (loopAt Try.prog 6 0)) [(0, .slice o n c), (1, .int .i64 cols), (5, .slice none 0 0), (6, .int .i64 0)] (AHeap.rows 7 [(0, b)]) (.exit 0) [(1, .int .i64 cols), (5, .slice ol n cl)] (AHeap.rows 29 [(0, b), (24, rl)])) (hc_2 : FDoes Try.prog 13 [.slice ol n cl, .int .i64 cols] (AHeap.rows 37 [(0, b), (24, rl)]) (.slice om n cm) (AHeap.rows 38 [(0, b), (24, rl), (37, rm)])) (hc_3 : (n : Int) = (n : Int)) (hc_5 : Runs Try.prog 1 207 (.loop (loopAt Try.prog 6 1)) [(5, .slice ol n cl), (7, .int .i64 (if 64 < if 1 > cols then 1 else cols then 64 else if 1 > cols then 1 else cols)), (8, .slice om n cm), (9, .int .i64 0)] (AHeap.rows 48 [(0, b), (24, rl), (37, rm)]) (.exit 2) [] (AHeap.rows 64 [(0, b)])) :
    FDoes Try.prog 6 [.slice o n c, .int .i64 cols] (AHeap.of [b]) (AVal.bool true) (AHeap.rows 65 [(0, b)]) :=
  pcall_does env_ok mixed (hs := [.val 1002 (.bool false), .keep [0, 1, 5, 6], .loop [(1, .int .i64 cols), (5, .slice ol n cl)] (AHeap.rows 29 [(0, b), (24, rl)]) (.exit 0), .act 9002 (.slice om n cm) (fun h => h.upd [] [rm]), .val 10004 (.bool false), .val 10006 (.bool true), .keep [5, 7, 8, 9], .loop [] (AHeap.rows 64 [(0, b)]) (.exit 2)]) (rs := []) (by kernel_rfl) (All.cons (okF hc_0) (All.cons hc_1 (All.cons (CallT.mk hc_2) (All.cons (neF hc_3) (All.cons (show CallT Try.prog 16 [] (AHeap.rows 47 [(0, b), (24, rl), (37, rm)]) (AVal.bool true) (AHeap.rows 47 [(0, b), (24, rl), (37, rm)]) from ⟨(alive_does _)⟩) (All.cons hc_5 (All.nil)))))))

end Go.Proofs.Ytcgcpmcjaeenlaa

namespace Go.Proofs.Ytcgcpmcjaeenlaa
open Go.Lift
set_option maxRecDepth 1000000
set_option linter.unusedSimpArgs false
set_option linter.unusedVariables false
set_option linter.unusedSectionVars false

/-! rows of pairs -/

structure Pr2 where
  a : Int
  b : Int

def Pr2.val (t : Pr2) : AVal := .agg [.int .i64 t.a, .int .i64 t.b]
structure Pr2.Fits (t : Pr2) : Prop where
  a : Fit64 t.a
  b : Fit64 t.b

theorem pr_cells (v : Nat → Value) (h : ∀ j, j < 2 → ∃ k, ([.int .i64, .int .i64] : List TK)[j]? = some k ∧ CellIs k (v j)) : ∃ t : Pr2, (List.range 2).map (fun j => ofScalar (v j)) = [.int .i64 t.a, .int .i64 t.b] ∧ t.Fits := by
  have g : ∀ j k, j < 2 → ([.int .i64, .int .i64] : List TK)[j]? = some k → CellIs k (v j) := by
    intro j k hj hk
    obtain ⟨k', h1, h2⟩ := h j hj
    rw [hk] at h1; simp only [Option.some.injEq] at h1; subst h1; exact h2
  have h0 := (g 0 _ (by omega) rfl).int
  have h1 := (g 1 _ (by omega) rfl).int
  refine ⟨⟨numA (ofScalar (v 0)), numA (ofScalar (v 1))⟩, ?_, wf_fit h0.2, wf_fit h1.2⟩
  show [ofScalar (v 0), ofScalar (v 1)] = _
  rw [← h0.1, ← h1.1]

theorem pairs_of {W : World} {x : Addr} {len : Nat} {b : ABlk} (hx : ∀ i, i < len → b.elem? 0 (0 + i) = some (elemAt W x true 2 i)) (he : ∀ i j, i < len → j < 2 → ∃ k, ([.int .i64, .int .i64] : List TK)[j]? = some k ∧ CellIs k (cellAt W x (i * 2 + j))) :
    ∃ src : Nat → Pr2, (∀ i, i < len → b.elem? 0 (0 + i) = some (src i).val) ∧ ∀ i, i < len → (src i).Fits := by
  have h : ∀ i, ∃ t : Pr2, i < len → elemAt W x true 2 i = t.val ∧ t.Fits := by
    intro i
    by_cases c : i < len
    · obtain ⟨t, h1, h2⟩ := pr_cells (fun j => cellAt W x (i * 2 + j)) (fun j hj => he i j c hj)
      refine ⟨t, fun _ => ⟨?_, h2⟩⟩
      show AVal.agg _ = AVal.agg _
      rw [h1]
    · exact ⟨⟨0, 0⟩, fun h => absurd h c⟩
  refine ⟨fun i => Classical.choose (h i), fun i hi => ?_, fun i hi => (Classical.choose_spec (h i) hi).2⟩
  rw [hx i hi, (Classical.choose_spec (h i) hi).1]

theorem vrel_le {φ : Map} {o : Option AAddr} {n c : Nat} {v : Value} (h : VRel φ (.slice o n c) v) : n ≤ c := by
  cases o with
  | none => simp only [VRel] at h; omega
  | some a => simp only [VRel] at h; obtain ⟨_, _, _, h, _⟩ := h; exact h

theorem slPair : SlTy env.D 47 48 2 16 := by
  have h1 : (env.D 48).isSome = true := by kernel_rfl
  have h2 : (env.D 48).map (fun x => (x.size, x.bytes, x.zeroFits)) = some (2, 16, true) := by kernel_rfl
  obtain ⟨xd, hx⟩ := Option.isSome_iff_exists.1 h1
  rw [hx] at h2
  simp only [Option.map_some, Option.some.injEq, Prod.mk.injEq] at h2
  exact ⟨⟨⟨.slice 48, 1, 24, some (.slice none 0 0)⟩, xd, by kernel_rfl, rfl, hx, h2.1, h2.2.1, by omega, h2.2.2⟩⟩
theorem ix_prS {o : Option AAddr} {n c id ver off : Nat} (h : SlArg o n c id ver off 2) {k : IntKind} {i : Nat} (hi : i < n) :
    aindexAddr env.D 47 (.slice o n c) (.int k i) = some (.ptr (some ⟨id, ver, off + i, 0, 2⟩)) := by
  obtain ⟨d, xd, t1, t2, t3, t4, t5, t6, t7⟩ := slPair.ty
  have := h.index (D := env.D) (t := 47) (e := 48) (d := d) (xd := xd) t1 t2 t3 t4.symm (k := k) (i := (i : Int)) (by omega) (by omega)
  simpa using this

/-! spans that say nothing of their place -/

def AnyW (C : Int) (n : Nat) (w : Nat → Qd) : Prop := ∀ j, j < n → NormZ C (w j) ∧ (w j).a = -1 ∧ (w j).b = -1

theorem any_fixed {C : Int} {w : Nat → Qd} : ∀ {n : Nat}, AnyW C n w → fixedL w n = []
  | 0, _ => rfl
  | n + 1, h => by
    have e := h n (by omega)
    have : fixedZ (w n) = false := by unfold fixedZ; rw [decide_eq_false]; omega
    simp only [fixedL, this]
    exact any_fixed (fun j hj => h j (by omega))

theorem any_taken {C : Int} {n : Nat} {w out : Nat → Qd} (h : AnyW C n w) : ∀ {i : Nat}, i ≤ n → takenL w out n i = (List.range i).map out
  | 0, _ => any_fixed h
  | i + 1, hi => by
    have e := h i (by omega)
    have : fixedZ (w i) = false := by unfold fixedZ; rw [decide_eq_false]; omega
    simp only [takenL, this]
    rw [any_taken h (by omega), List.range_succ, List.map_append]
    rfl

theorem any_cur {C : Int} {n : Nat} {w out : Nat → Qd} (h : AnyW C n w) {i : Nat} (hi : i < n) : curZ w out (i + 1) = ((out i).b, (out i).a) := by
  have e := h i hi
  simp only [curZ]
  rw [if_pos (by omega)]

theorem any_at {C : Int} {n : Nat} {w out : Nat → Qd} (h : AnyW C n w) (hf : FlowZ C n w out) {i : Nat} (hi : i < n) : BehindZ ((List.range i).map out) C (w i) (curZ w out i).1 (curZ w out i).2 (out i) := by
  have e := h i hi
  have := hf i hi
  unfold PlaceZ at this
  have f : fixedZ (w i) = false := by unfold fixedZ; rw [decide_eq_false]; omega
  rw [f, if_neg (by decide), if_neg (by omega), if_neg (by omega), any_taken h (by omega)] at this
  exact this

theorem freeMap {i : Nat} {out : Nat → Qd} {s : Qd} : FreeZ ((List.range i).map out) s ↔ ∀ k, k < i → ¬ MeetsZ (out k) s := by
  unfold FreeZ
  constructor
  · intro h k hk
    exact h _ (List.mem_map.2 ⟨k, List.mem_range.2 hk, rfl⟩)
  · intro h t ht
    obtain ⟨k, hk, rfl⟩ := List.mem_map.1 ht
    exact h k (List.mem_range.1 hk)

theorem any_apart {C : Int} {n : Nat} {w out : Nat → Qd} (h : AnyW C n w) (hf : FlowZ C n w out) {i : Nat} (hi : i < n) : ∀ k, k < i → ¬ MeetsZ (out k) (out i) := by
  obtain ⟨y, x, e, h1, h2, h3, h4, h5⟩ := any_at h hf hi
  exact freeMap.1 h4

theorem any_first {C : Int} {n : Nat} {w out : Nat → Qd} (h : AnyW C n w) (hf : FlowZ C n w out) (hn : 0 < n) : (out 0).a = 0 := by
  have e := (h 0 hn).1
  have e1 := e.a; have e3 := e.c
  obtain ⟨y, x, e, h1, h2, h3, h4, h5⟩ := any_at h hf hn
  rw [e]
  show x = 0
  by_cases c : x = 0
  · exact c
  · refine absurd ?_ (h5 y (x - 1) (by omega) (by omega) ?_ (by omega))
    · exact freeMap.2 (fun k hk => by omega)
    · simp only [curZ] at h3 ⊢; omega

theorem FlowZ.lies {cols : Int} {n : Nat} {w out : Nat → Qd} (hw : ∀ j, j < n → NormZ cols (w j)) (h : FlowZ cols n w out) {i : Nat} (hi : i < n) : 0 ≤ (out i).a ∧ (out i).a + (out i).c ≤ cols ∧ 0 ≤ (out i).b ∧ (out i).c = (w i).c ∧ (out i).d = (w i).d ∧ (out i).b + (out i).d ≤ downM i + 4097 := by
  obtain ⟨g1, g2, g3⟩ := FlowZ.good hw h i (by omega)
  have := place_good g1 (show 8192 ≤ downM i by unfold downM; omega) g2 (hw i hi) (h i hi)
  exact ⟨this.1, this.2.1, this.2.2.1, this.2.2.2.1, this.2.2.2.2.1, this.2.2.2.2.2.1⟩

theorem any_next {C : Int} {n : Nat} {w out : Nat → Qd} (h : AnyW C n w) (hf : FlowZ C n w out) {p : Nat} (hp : p + 1 < n) :
    (out p).b ≤ (out (p + 1)).b ∧ ((out (p + 1)).b = (out p).b → (out p).a < (out (p + 1)).a) ∧
    (0 < (out (p + 1)).a → ((out p).b < (out (p + 1)).b ∨ (out (p + 1)).b = (out p).b ∧ (out p).a < (out (p + 1)).a - 1) → ∃ k, k < p + 1 ∧ MeetsZ (out k) ⟨(out (p + 1)).a - 1, (out (p + 1)).b, (out (p + 1)).c, (out (p + 1)).d⟩) := by
  have e := FlowZ.lies (fun j hj => (h j hj).1) hf (i := p) (by omega)
  have k := (h p (by omega)).1
  have k3 := k.c; have k4 := k.d
  have kk := (h (p + 1) (by omega)).1
  have kk3 := kk.c; have kk4 := kk.d
  have b := any_at h hf hp
  rw [any_cur h (by omega : p < n)] at b
  obtain ⟨y, x, eo, h1, h2, h3, h4, h5⟩ := b
  have ap := any_apart h hf hp p (by omega)
  simp only at h3 h5
  have ea : (out (p + 1)).a = x := by rw [eo]; rfl
  have eb : (out (p + 1)).b = y := by rw [eo]; rfl
  have ec : (out (p + 1)).c = (w (p + 1)).c := by rw [eo]; rfl
  have ed : (out (p + 1)).d = (w (p + 1)).d := by rw [eo]; rfl
  unfold MeetsZ at ap
  refine ⟨by omega, fun c => by omega, fun c1 c2 => ?_⟩
  have := h5 y (x - 1) (by omega) (by omega) (by omega) (by omega)
  rw [freeMap] at this
  simp only [Classical.not_forall, Classical.not_not] at this
  obtain ⟨k, hk, hm⟩ := this
  refine ⟨k, hk, ?_⟩
  rw [ea, eb, ec, ed]
  exact hm

end Go.Proofs.Ytcgcpmcjaeenlaa

namespace Go.Proofs.Ytcgcpmcjaeenlaa
open Go.Lift
set_option maxRecDepth 1000000
set_option linter.unusedSimpArgs false
set_option linter.unusedVariables false
set_option linter.unusedSectionVars false

/-- a span of which only the sizes are told -/
def anyQ (p : Pr2) : Qd := ⟨-1, -1, p.a, p.b⟩

section
variable {n c ver off : Nat} {o : Option AAddr} (hs : SlArg o n c 0 ver off 2) (hn : n ≤ 300) {b : ABlk} (hb : BareB b) {x : Nat → Pr2} (hx : ∀ j, j < n → b.elem? ver (off + j) = some (x j).val) (cols : Int)
include hs hn hb hx

theorem gf_more : ∀ (f v : Nat), 1 + v + f = n → ∃ v', 1 + v' = n ∧
    Loops Try.prog 1 207 (loopAt Try.prog 6 0) [(0, .slice o n c), (1, .int .i64 cols), (5, .slice (some ⟨24, v, 0, 0, 4⟩) (1 + v) (1 + v)), (6, .int .i64 (1 + v : Nat))] (AHeap.rows 25 [(0, b), (24, gRowQ (fun j => anyQ (x j)) 1 v)]) (.exit 0) [(1, .int .i64 cols), (5, .slice (some ⟨24, v', 0, 0, 4⟩) n n)] (AHeap.rows 29 [(0, b), (24, gRowQ (fun j => anyQ (x j)) 1 v')])
  | 0, v, e => by
    obtain rfl : 1 + v = n := by omega
    exact ⟨v, rfl, Loops.last (by simp) (gf_end o (1 + v) c ver off v 0 (1 + v) b _ b cols 0 0 _ (by omega))⟩
  | f + 1, v, e => by
    obtain ⟨v', h1, h2⟩ := gf_more f (v + 1) (by omega)
    have d0 : Clo (Ids [0, 24]) (.slice o n c) := hs.clo (by simp [Ids])
    refine ⟨v', h1, Loops.round (gf_grow o n c ver off v (1 + v) (1 + v) b _ (gRowQ (fun j => anyQ (x j)) 1 (v + 1)) cols (x (1 + v)).a (x (1 + v)).b (by omega) (ix_prS hs (by omega)) (hx _ (by omega)) (ix_prS hs (by omega)) (hx _ (by omega)) ((app_quad slSpan (f := fun j => anyQ (x j)) (by omega) (by omega) (anyQ (x (1 + v))) rfl _ _ _ (by kernel_rfl) (by kernel_rfl)).trans (by kernel_rfl)) (by omega)) ?_ h2⟩
    exact Ent.drop (by kernel_rfl) (by kernel_rfl) (by kernel_rfl) (by kernel_rfl) (by simp [All_cons, All_nil, Clo, d0]; simp [Ids]) (by simp only [List.map, All_cons, All_nil, and_true]; exact ⟨hb.clo _, (gRowQ_bare _ _ _).clo _⟩)

theorem gf_build : ∃ (ol : Option AAddr) (cl v : Nat) (rl : ABlk), SlArg ol n cl 24 v 0 4 ∧ BareB rl ∧ (∀ j, j < n → rl.elem? v (0 + j) = some (anyQ (x j)).val) ∧ cl = n ∧
    Loops Try.prog 1 207 (loopAt Try.prog 6 0) [(0, .slice o n c), (1, .int .i64 cols), (5, .slice none 0 0), (6, .int .i64 0)] (AHeap.rows 7 [(0, b)]) (.exit 0) [(1, .int .i64 cols), (5, .slice ol n cl)] (AHeap.rows 29 [(0, b), (24, rl)]) := by
  by_cases h0 : n = 0
  · refine ⟨none, 0, 0, noRow0, .inr ⟨rfl, h0, rfl⟩, noRow0_bare, fun j hj => by omega, h0.symm, ?_⟩
    subst h0
    have l := (Loops.last (by simp) (gf_end o 0 c ver off 0 0 0 b noRow0 b cols 0 0 (.slice none 0 0) (by omega)))
    exact l.pre (Ent.more (l2 := [(24, noRow0)]) (by kernel_rfl) (by kernel_rfl))
  · obtain ⟨v', h1, h2⟩ := gf_more hs hn hb hx cols (n - 1) 0 (by omega)
    refine ⟨some ⟨24, v', 0, 0, 4⟩, n, v', gRowQ (fun j => anyQ (x j)) 1 v', .inl rfl, gRowQ_bare _ _ _, fun j hj => gRowQ_el (by omega), rfl, ?_⟩
    have d0 : Clo (Ids [0, 24]) (.slice o n c) := hs.clo (by simp [Ids])
    refine Loops.round (gf_new o n c ver off 0 0 0 b b (gRowQ (fun j => anyQ (x j)) 1 0) cols (x 0).a (x 0).b (by omega) (ix_prS hs (by omega)) (hx _ (by omega)) (ix_prS hs (by omega)) (hx _ (by omega)) ((app_quad1 slSpan (f := fun j => anyQ (x j)) (anyQ (x 0)) rfl _ _ (by kernel_rfl)).trans (by kernel_rfl)) (by omega)) ?_ h2
    exact Ent.drop (by kernel_rfl) (by kernel_rfl) (by kernel_rfl) (by kernel_rfl) (by simp [All_cons, All_nil, Clo, d0]; simp [Ids]) (by simp only [List.map, All_cons, All_nil, and_true]; exact ⟨hb.clo _, (gRowQ_bare _ _ _).clo _⟩)
end

theorem lmeets_no {t s : Qd} (ht : Small t) (hs : Small s) (h : ¬ MeetsZ t s) (H : AHeap) : FDoes Try.prog 23 [t.val, s.val] H (.bool false) H := by
  have := lmeets_does ht hs H; rwa [decide_eq_false h] at this
theorem lmeets_yes {t s : Qd} (ht : Small t) (hs : Small s) (h : MeetsZ t s) (H : AHeap) : FDoes Try.prog 23 [t.val, s.val] H (.bool true) H := by
  have := lmeets_does ht hs H; rwa [decide_eq_true h] at this

section
variable {n cl cm v : Nat} {ol om : Option AAddr} {b rl : ABlk} {out : Nat → Qd} {C : Int} (sl : SlArg ol n cl 24 v 0 4) (sm : SlArg om n cm 37 0 0 4) (hn : n ≤ 300) (hb : BareB b) (hrl : BareB rl) (hsm : ∀ j, j < n → Small (out j))
include sl sm hn hb hrl hsm

theorem gk_loop {i : Nat} (hi : i < n) (hap : ∀ k, k < i → ¬ MeetsZ (out k) (out i)) : ∀ (f k : Nat), k + f = i →
    Loops Try.prog 1 207 (loopAt Try.prog 6 2) [(5, .slice ol n cl), (7, .int .i64 C), (8, .slice om n cm), (9, .int .i64 i), (10, .ptr (some ⟨56, 0, 0, 0, 4⟩)), (11, .int .i64 k)] (AHeap.rows 100 [(0, b), (24, rl), (37, .made (qrows n out) 4 true), (56, .made [(out i).val] 4 true)]) (.exit 4) [(5, .slice ol n cl), (7, .int .i64 C), (8, .slice om n cm), (9, .int .i64 i), (10, .ptr (some ⟨56, 0, 0, 0, 4⟩))] (AHeap.rows 103 [(0, b), (24, rl), (37, .made (qrows n out) 4 true), (56, .made [(out i).val] 4 true)])
  | 0, k, e => by
    obtain rfl : k = i := by omega
    exact Loops.last (by simp) (gk_end ol om n cl cm k k b rl _ C (out k).a (out k).b (out k).c (out k).d 0 0 0 0 true (by omega))
  | f + 1, k, e => by
    have dl : Clo (Ids [0, 24, 37, 56]) (.slice ol n cl) := sl.clo (by simp [Ids])
    have dm : Clo (Ids [0, 24, 37, 56]) (.slice om n cm) := sm.clo (by simp [Ids])
    refine Loops.round (gk_step ol om n cl cm i k b rl (.made (qrows n out) 4 true) C (out i).a (out i).b (out i).c (out i).d (out k).a (out k).b (out k).c (out k).d true (by omega) (ix_spS sm (by omega)) (by rw [Nat.zero_add]; exact elem_made (qrows_get (by omega))) (lmeets_no (hsm k (by omega)) (hsm i hi) (hap k (by omega)) _) (by omega)) ?_ (gk_loop hi hap f (k + 1) (by omega))
    exact Ent.drop (by kernel_rfl) (by kernel_rfl) (by kernel_rfl) (by kernel_rfl) (by simp [All_cons, All_nil, Clo, dl, dm]; simp [Ids]) (by simp only [List.map, All_cons, All_nil, and_true]; exact ⟨hb.clo _, hrl.clo _, (qrows_bare _ _).clo _, (show BareB (.made [(out i).val] 4 true) from qrows_bare 1 (fun _ => out i)).clo _⟩)

theorem gt_loop {i : Nat} (hi : i < n) {s : Qd} (hs : Small s) : ∀ (f k : Nat) (tk : Bool), k + f = i → (tk = true ∨ ∃ k', k ≤ k' ∧ k' < i ∧ MeetsZ (out k') s) →
    Loops Try.prog 1 207 (loopAt Try.prog 6 3) [(5, .slice ol n cl), (7, .int .i64 C), (8, .slice om n cm), (9, .int .i64 i), (13, .ptr (some ⟨139, 0, 0, 0, 4⟩)), (14, .bool tk), (15, .int .i64 k)] (AHeap.rows 170 [(0, b), (24, rl), (37, .made (qrows n out) 4 true), (139, .made [s.val] 4 true)]) (.exit 6) [(5, .slice ol n cl), (7, .int .i64 C), (8, .slice om n cm), (9, .int .i64 i), (14, .bool true)] (AHeap.rows 210 [(0, b), (24, rl), (37, .made (qrows n out) 4 true)])
  | 0, k, tk, e, ht => by
    obtain rfl : k = i := by omega
    obtain rfl : tk = true := by
      rcases ht with h | ⟨k', h1, h2, _⟩
      · exact h
      · omega
    have dl : Clo (Ids [0, 24, 37]) (.slice ol n cl) := sl.clo (by simp [Ids])
    have dm : Clo (Ids [0, 24, 37]) (.slice om n cm) := sm.clo (by simp [Ids])
    refine (Loops.last (by simp) (gt_end ol om n cl cm k k b rl _ C s.a s.b s.c s.d 0 0 0 0 true (by omega))).post ?_
    exact Ent.drop (by kernel_rfl) (by kernel_rfl) (by kernel_rfl) (by kernel_rfl) (by simp [All_cons, All_nil, Clo, dl, dm]) (by simp only [List.map, All_cons, All_nil, and_true]; exact ⟨hb.clo _, hrl.clo _, (qrows_bare _ _).clo _⟩)
  | f + 1, k, tk, e, ht => by
    have dl : Clo (Ids [0, 24, 37, 139]) (.slice ol n cl) := sl.clo (by simp [Ids])
    have dm : Clo (Ids [0, 24, 37, 139]) (.slice om n cm) := sm.clo (by simp [Ids])
    have g2 : (ABlk.made (qrows n out) 4 true).elem? 0 (0 + k) = some (out k).val := by rw [Nat.zero_add]; exact elem_made (qrows_get (by omega))
    have dr : ∀ t : Bool, Ent 1 207 [(5, .slice ol n cl), (7, .int .i64 C), (8, .slice om n cm), (9, .int .i64 i), (13, .ptr (some ⟨139, 0, 0, 0, 4⟩)), (14, .bool t), (15, .int .i64 ((k : Int) + 1))] (AHeap.rows 188 [(0, b), (24, rl), (37, .made (qrows n out) 4 true), (139, .made [s.val] 4 true)])
        [(5, .slice ol n cl), (7, .int .i64 C), (8, .slice om n cm), (9, .int .i64 i), (13, .ptr (some ⟨139, 0, 0, 0, 4⟩)), (14, .bool t), (15, .int .i64 (k + 1 : Nat))] (AHeap.rows 170 [(0, b), (24, rl), (37, .made (qrows n out) 4 true), (139, .made [s.val] 4 true)]) := fun t =>
      Ent.drop (by kernel_rfl) (by kernel_rfl) (by kernel_rfl) (by kernel_rfl) (by simp [All_cons, All_nil, Clo, dl, dm]; simp [Ids]) (by simp only [List.map, All_cons, All_nil, and_true]; exact ⟨hb.clo _, hrl.clo _, (qrows_bare _ _).clo _, (show BareB (.made [s.val] 4 true) from qrows_bare 1 (fun _ => s)).clo _⟩)
    cases tk with
    | true => exact Loops.round (gt_t ol om n cl cm i k b rl _ C s.a s.b s.c s.d (out k).a (out k).b (out k).c (out k).d (decide (MeetsZ (out k) s)) (by omega) (ix_spS sm (by omega)) g2 (lmeets_does (hsm k (by omega)) hs _) (by omega)) (dr true) (gt_loop hi hs f (k + 1) true (by omega) (.inl rfl))
    | false =>
      obtain ⟨k', h1, h2, h3⟩ : ∃ k', k ≤ k' ∧ k' < i ∧ MeetsZ (out k') s := by
        rcases ht with h | h
        · cases h
        · exact h
      by_cases m : MeetsZ (out k) s
      · exact Loops.round (gt_y ol om n cl cm i k b rl _ C s.a s.b s.c s.d (out k).a (out k).b (out k).c (out k).d true (by omega) (ix_spS sm (by omega)) g2 (lmeets_yes (hsm k (by omega)) hs m _) (by omega)) (dr true) (gt_loop hi hs f (k + 1) true (by omega) (.inl rfl))
      · have : k ≠ k' := fun h => m (by rw [h]; exact h3)
        exact Loops.round (gt_n ol om n cl cm i k b rl _ C s.a s.b s.c s.d (out k).a (out k).b (out k).c (out k).d true (by omega) (ix_spS sm (by omega)) g2 (lmeets_no (hsm k (by omega)) hs m _) (by omega)) (dr false) (gt_loop hi hs f (k + 1) false (by omega) (.inr ⟨k', by omega, h2, h3⟩))

theorem gf_check {x : Nat → Pr2} (hel : ∀ j, j < n → rl.elem? v (0 + j) = some (anyQ (x j)).val) (hC : 1 ≤ C ∧ C ≤ 64) (hf : FlowZ C n (fun j => normZ C (anyQ (x j))) out) : ∀ (f i : Nat), i + f = n →
    Loops Try.prog 1 207 (loopAt Try.prog 6 1) [(5, .slice ol n cl), (7, .int .i64 C), (8, .slice om n cm), (9, .int .i64 i)] (AHeap.rows 48 [(0, b), (24, rl), (37, .made (qrows n out) 4 true)]) (.exit 2) [] (AHeap.rows 64 [(0, b)])
  | 0, i, e => by
    obtain rfl : i = n := by omega
    refine (Loops.last (by simp) (gf_chkEnd ol om i cl cm v 0 i b rl _ C 0 0 0 0 0 0 0 0 0 0 0 0 (by omega))).post ?_
    exact Ent.drop (by kernel_rfl) (by kernel_rfl) (by kernel_rfl) (by kernel_rfl) (by simp [All_cons, All_nil, Clo]) (by simp only [List.map, All_cons, All_nil, and_true]; exact hb.clo _)
  | f + 1, i, e => by
    have ih := gf_check hel hC hf f (i + 1) (by omega)
    have hw : AnyW C n (fun j => normZ C (anyQ (x j))) := fun j _ => ⟨normZ_ok hC.1 _, by show inZ2 (-1) (-1) _ = -1; unfold inZ2; show min (max (-1) (-1)) (C - min (max (x j).a 1) C) = -1; omega, by show inZ2 (-1) (-1) _ = -1; unfold inZ2; omega⟩
    have hi : i < n := by omega
    have e1 := FlowZ.lies (fun j hj => (hw j hj).1) hf hi
    have ap := any_apart hw hf hi
    have d3 : Clo (Ids [0, 24, 37, 56]) (.slice ol n cl) := sl.clo (by simp [Ids])
    have d3m : Clo (Ids [0, 24, 37, 56]) (.slice om n cm) := sm.clo (by simp [Ids])
    have d2 : Clo (Ids [0, 24, 37]) (.slice ol n cl) := sl.clo (by simp [Ids])
    have d2m : Clo (Ids [0, 24, 37]) (.slice om n cm) := sm.clo (by simp [Ids])
    have d4 : Clo (Ids [0, 24, 37, 139]) (.slice ol n cl) := sl.clo (by simp [Ids])
    have d4m : Clo (Ids [0, 24, 37, 139]) (.slice om n cm) := sm.clo (by simp [Ids])
    have sb : ∀ s : Qd, BareB (.made [s.val] 4 true) := fun s => qrows_bare 1 (fun _ => s)
    have q0 : ∀ j, j < n → (ABlk.made (qrows n out) 4 true).elem? 0 (0 + j) = some (out j).val := fun j hj => by rw [Nat.zero_add]; exact elem_made (qrows_get hj)
    let A2 : Facts := [(5, .slice ol n cl), (7, .int .i64 C), (8, .slice om n cm), (9, .int .i64 i), (10, .ptr (some ⟨56, 0, 0, 0, 4⟩)), (11, .int .i64 (0 : Nat))]
    have p2 : Ent 1 207 A2 (AHeap.rows 101 [(0, b), (24, rl), (37, .made (qrows n out) 4 true), (56, .made [(out i).val] 4 true)]) A2 (AHeap.rows 100 [(0, b), (24, rl), (37, .made (qrows n out) 4 true), (56, .made [(out i).val] 4 true)]) :=
      Ent.drop (by kernel_rfl) (by kernel_rfl) (by kernel_rfl) (by kernel_rfl) (by simp [A2, All_cons, All_nil, Clo, d3, d3m]; simp [Ids]) (by simp only [List.map, All_cons, All_nil, and_true]; exact ⟨hb.clo _, hrl.clo _, (qrows_bare _ _).clo _, (sb _).clo _⟩)
    have l2 := (gk_loop (C := C) sl sm hn hb hrl hsm hi ap i 0 (by omega)).pre p2
    let lf : Qd := ⟨(out i).a - 1, (out i).b, (out i).c, (out i).d⟩
    let A3 : Facts := [(5, .slice ol n cl), (7, .int .i64 C), (8, .slice om n cm), (9, .int .i64 i), (13, .ptr (some ⟨139, 0, 0, 0, 4⟩)), (14, .bool false), (15, .int .i64 (0 : Nat))]
    have p3 : Ent 1 207 A3 (AHeap.rows 177 [(0, b), (24, rl), (37, .made (qrows n out) 4 true), (56, .made [(out i).val] 4 true), (139, .made [lf.val] 4 true)]) A3 (AHeap.rows 170 [(0, b), (24, rl), (37, .made (qrows n out) 4 true), (139, .made [lf.val] 4 true)]) :=
      Ent.drop (by kernel_rfl) (by kernel_rfl) (by kernel_rfl) (by kernel_rfl) (by simp [A3, All_cons, All_nil, Clo, d4, d4m]; simp [Ids]) (by simp only [List.map, All_cons, All_nil, and_true]; exact ⟨hb.clo _, hrl.clo _, (qrows_bare _ _).clo _, (sb _).clo _⟩)
    have k3 := hsm i hi
    have sl3 : Small lf := by
      have k3' := k3
      unfold Small at k3' ⊢
      have : (out i).c = _ := e1.2.2.2.1
      exact ⟨by show -2 ^ 40 ≤ (out i).a - 1 ∧ (out i).a - 1 ≤ 2 ^ 40; omega, k3'.2.1, k3'.2.2.1, k3'.2.2.2⟩
    let F5 : Facts := [(5, .slice ol n cl), (7, .int .i64 C), (8, .slice om n cm), (9, .int .i64 ((i : Int) + 1))]
    let F5' : Facts := [(5, .slice ol n cl), (7, .int .i64 C), (8, .slice om n cm), (9, .int .i64 (i + 1 : Nat))]
    have pA : Ent 1 207 F5 (AHeap.rows 178 [(0, b), (24, rl), (37, .made (qrows n out) 4 true), (56, .made [(out i).val] 4 true), (139, .made [lf.val] 4 true)]) F5' (AHeap.rows 48 [(0, b), (24, rl), (37, .made (qrows n out) 4 true)]) :=
      Ent.drop (by kernel_rfl) (by kernel_rfl) (by kernel_rfl) (by kernel_rfl) (by simp [F5, All_cons, All_nil, Clo, d2, d2m]) (by simp only [List.map, All_cons, All_nil, and_true]; exact ⟨hb.clo _, hrl.clo _, (qrows_bare _ _).clo _⟩)
    have pB : Ent 1 207 F5 (AHeap.rows 215 [(0, b), (24, rl), (37, .made (qrows n out) 4 true)]) F5' (AHeap.rows 48 [(0, b), (24, rl), (37, .made (qrows n out) 4 true)]) :=
      Ent.drop (by kernel_rfl) (by kernel_rfl) (by kernel_rfl) (by kernel_rfl) (by simp [F5, All_cons, All_nil, Clo, d2, d2m]) (by simp only [List.map, All_cons, All_nil, and_true]; exact ⟨hb.clo _, hrl.clo _, (qrows_bare _ _).clo _⟩)
    have hc5 : (out i).c = if C < if 1 > (x i).a then 1 else (x i).a then C else if 1 > (x i).a then 1 else (x i).a := by
      rw [e1.2.2.2.1]; show min (max (x i).a 1) C = _; omega
    have hc8 : (out i).d = if 4096 < if 1 > (x i).b then 1 else (x i).b then 4096 else if 1 > (x i).b then 1 else (x i).b := by
      rw [e1.2.2.2.2.1]; show min (max (x i).b 1) 4096 = _; omega
    unfold Small at k3
    cases i with
    | zero =>
      have z := any_first hw hf hi
      exact Loops.round (gf_P1 ol om n cl cm v 0 0 b rl _ C (-1) (-1) (x 0).a (x 0).b (out 0).a (out 0).b (out 0).c (out 0).d 0 0 0 0 (by omega) (ix_spS (i := 0) sm hi) (q0 0 hi) (ix_spS (i := 0) sl hi) (hel 0 hi) hc5 (ix_spS (i := 0) sl hi) (hel 0 hi) hc8 (by omega) (by omega) (by omega) (by omega) (Runs.of_loops l2) (by omega) (by omega)) pA ih
    | succ p =>
      obtain ⟨g1, g2, g3⟩ := any_next hw hf hi
      have zp := (FlowZ.lies (fun j hj => (hw j hj).1) hf (i := p) (by omega)).1
      have ip : ((p + 1 : Nat) : Int) - 1 = (p : Nat) := by omega
      have ixp : aindexAddr (AEnv.D env) 22 (AVal.slice om n cm) (AVal.int IntKind.i64 (((p + 1 : Nat) : Int) - 1)) = some (AVal.ptr (some ⟨37, 0, 0 + p, 0, 4⟩)) := by rw [ip]; exact ix_spS sm (by omega)
      have elp := q0 p (by omega)
      by_cases c1 : (out (p + 1)).b = (out p).b
      · have g4 := g2 c1
        by_cases c2 : (out p).a < (out (p + 1)).a - 1
        · have l3 := (gt_loop (C := C) sl sm hn hb hrl hsm hi sl3 (p + 1) 0 false (by omega) (.inr (by obtain ⟨k, h1, h2⟩ := g3 (by omega) (.inr ⟨c1, c2⟩); exact ⟨k, by omega, h1, h2⟩))).pre p3
          exact Loops.round (gf_P2 ol om n cl cm v p (p + 1) b rl _ C (-1) (-1) (x (p + 1)).a (x (p + 1)).b (out (p + 1)).a (out (p + 1)).b (out (p + 1)).c (out (p + 1)).d (out p).a (out p).b (out p).c (out p).d (by omega) (ix_spS sm hi) (q0 _ hi) (ix_spS sl hi) (hel _ hi) hc5 (ix_spS sl hi) (hel _ hi) hc8 (by omega) (by omega) (by omega) (by omega) (Runs.of_loops l2) (by omega) (by omega) ixp elp (by omega) (by omega) ixp elp c1 (by omega) ixp elp (by omega) (by omega) (by omega) (by omega) (by omega) ixp elp (by omega) (by omega) ixp elp (by omega) (Runs.of_loops l3) (by omega)) pB ih
        · exact Loops.round (gf_P3 ol om n cl cm v p (p + 1) b rl _ C (-1) (-1) (x (p + 1)).a (x (p + 1)).b (out (p + 1)).a (out (p + 1)).b (out (p + 1)).c (out (p + 1)).d (out p).a (out p).b (out p).c (out p).d (by omega) (ix_spS sm hi) (q0 _ hi) (ix_spS sl hi) (hel _ hi) hc5 (ix_spS sl hi) (hel _ hi) hc8 (by omega) (by omega) (by omega) (by omega) (Runs.of_loops l2) (by omega) (by omega) ixp elp (by omega) (by omega) ixp elp c1 (by omega) ixp elp (by omega) (by omega) (by omega) (by omega) (by omega) ixp elp (by omega) (by omega) ixp elp (by omega) (by omega)) pA ih
      · by_cases c2 : 0 < (out (p + 1)).a
        · have l3 := (gt_loop (C := C) sl sm hn hb hrl hsm hi sl3 (p + 1) 0 false (by omega) (.inr (by obtain ⟨k, h1, h2⟩ := g3 c2 (.inl (by omega)); exact ⟨k, by omega, h1, h2⟩))).pre p3
          exact Loops.round (gf_P5 ol om n cl cm v p (p + 1) b rl _ C (-1) (-1) (x (p + 1)).a (x (p + 1)).b (out (p + 1)).a (out (p + 1)).b (out (p + 1)).c (out (p + 1)).d (out p).a (out p).b (out p).c (out p).d (by omega) (ix_spS sm hi) (q0 _ hi) (ix_spS sl hi) (hel _ hi) hc5 (ix_spS sl hi) (hel _ hi) hc8 (by omega) (by omega) (by omega) (by omega) (Runs.of_loops l2) (by omega) (by omega) ixp elp (by omega) (by omega) ixp elp c1 (by omega) c2 (by omega) (by omega) ixp elp (by omega) (Runs.of_loops l3) (by omega)) pB ih
        · exact Loops.round (gf_P4 ol om n cl cm v p (p + 1) b rl _ C (-1) (-1) (x (p + 1)).a (x (p + 1)).b (out (p + 1)).a (out (p + 1)).b (out (p + 1)).c (out (p + 1)).d (out p).a (out p).b (out p).c (out p).d (by omega) (ix_spS sm hi) (q0 _ hi) (ix_spS sl hi) (hel _ hi) hc5 (ix_spS sl hi) (hel _ hi) hc8 (by omega) (by omega) (by omega) (by omega) (Runs.of_loops l2) (by omega) (by omega) ixp elp (by omega) (by omega) ixp elp c1 (by omega) (by omega) (by omega)) pA ih
end

theorem free_law {o : Option AAddr} {n c ver off : Nat} {b : ABlk} (hs : SlArg o n c 0 ver off 2) (hb : BareB b) {x : Nat → Pr2} (hx : ∀ j, j < n → b.elem? ver (off + j) = some (x j).val) (cols : Int) (hc : n ≤ c) :
    ∃ h', FDoes Try.prog 6 [.slice o n c, .int .i64 cols] (AHeap.of [b]) (.bool true) h' := by
  have cr := colsZ_range cols
  have ec : (if 64 < if 1 > cols then 1 else cols then 64 else if 1 > cols then 1 else cols) = colsZ cols := by unfold colsZ; omega
  have part : ∀ {N : Nat}, N ≤ 300 → SlArg o N c 0 ver off 2 → (∀ j, j < N → b.elem? ver (off + j) = some (x j).val) → ∃ (ol om : Option AAddr) (cl cm : Nat) (rl rm : ABlk),
      Loops Try.prog 1 207 (loopAt Try.prog 6 0) [(0, .slice o N c), (1, .int .i64 cols), (5, .slice none 0 0), (6, .int .i64 0)] (AHeap.rows 7 [(0, b)]) (.exit 0) [(1, .int .i64 cols), (5, .slice ol N cl)] (AHeap.rows 29 [(0, b), (24, rl)]) ∧
      FDoes Try.prog 13 [.slice ol N cl, .int .i64 cols] (AHeap.rows 37 [(0, b), (24, rl)]) (.slice om N cm) (AHeap.rows 38 [(0, b), (24, rl), (37, rm)]) ∧
      Runs Try.prog 1 207 (.loop (loopAt Try.prog 6 1)) [(5, .slice ol N cl), (7, .int .i64 (colsZ cols)), (8, .slice om N cm), (9, .int .i64 0)] (AHeap.rows 48 [(0, b), (24, rl), (37, rm)]) (.exit 2) [] (AHeap.rows 64 [(0, b)]) := by
    intro N hN hsN hxN
    obtain ⟨ol, cl, v, rl, sl, hrl, hel, rfl, r0⟩ := gf_build hsN hN hb hxN cols
    obtain ⟨om, cm, out, sm, _, fo, k1⟩ := flow_any (H := AHeap.rows 37 [(0, b), (24, rl)]) (src := fun j => anyQ (x j)) ⟨sl, by kernel_rfl, by rw [AHeap.rows_next]; omega, hrl, hel⟩ cols (N := 37) (by rw [AHeap.rows_next])
    have e : flen cl = cl := by unfold flen; rw [if_neg (by omega)]
    unfold FlowsTo at fo
    rw [e] at sm fo k1
    have hsm : ∀ j, j < cl → Small (out j) := fun j hj => by
      have q := FlowZ.lies (fun j _ => normZ_ok cr.1 _) fo hj
      have nz := normZ_ok cr.1 (anyQ (x j))
      have n3 := nz.c; have n4 := nz.d
      have hd : downM j ≤ 8192 + 4097 * 300 := by unfold downM; omega
      unfold Small
      omega
    exact ⟨ol, om, cl, cm, rl, _, r0, k1.to (by kernel_rfl), Runs.of_loops (gf_check sl sm hN hb hrl hsm hel cr fo cl 0 (by omega))⟩
  by_cases h : 300 < n
  · obtain rfl | ⟨rfl, h0, _⟩ := hs
    · obtain ⟨ol, om, cl, cm, rl, rm, h1, h2, h3⟩ := part (N := 300) (by omega) (.inl rfl) (fun j hj => hx j (by omega))
      have p0 : Ent 1 207 [(0, .slice (some ⟨0, ver, off, 0, 2⟩) 300 c), (1, .int .i64 cols), (5, .slice none 0 0), (6, .int .i64 (0 : Int))] (AHeap.rows 10 [(0, b)]) [(0, .slice (some ⟨0, ver, off, 0, 2⟩) 300 c), (1, .int .i64 cols), (5, .slice none 0 0), (6, .int .i64 (0 : Int))] (AHeap.rows 7 [(0, b)]) :=
        Ent.drop (by kernel_rfl) (by kernel_rfl) (by kernel_rfl) (by kernel_rfl) (by simp [All_cons, All_nil, Clo]; simp [Ids]) (by simp only [List.map, All_cons, All_nil, and_true]; exact hb.clo _)
      obtain ⟨d, xd, t1, t2, t3, t4, t5, t6, t7⟩ := slPair.ty
      refine ⟨_, gf_callA _ ol om n c cl cm b rl rm cols (by omega) (aslice_to (m := 300) t1 t2 t3 t4.symm (by omega)) (Runs.of_loops (h1.pre p0)) h2 (by rw [ec]; exact h3)⟩
    · omega
  · obtain ⟨ol, om, cl, cm, rl, rm, h1, h2, h3⟩ := part (N := n) (by omega) hs hx
    exact ⟨_, gf_callB _ ol om n c cl cm b rl rm cols (by omega) (Runs.of_loops h1) h2 rfl (by rw [ec]; exact h3)⟩

end Go.Proofs.Ytcgcpmcjaeenlaa
