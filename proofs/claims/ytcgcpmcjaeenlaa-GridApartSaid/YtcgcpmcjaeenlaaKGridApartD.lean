/-
  Parts of the proof, one behind the other:
  grid.Flow: its call.
  THE LIFT, PART X: at a loop's head or end rows get other numbers; rows that nobody names are added.
  grid.Flow: what it answers.
  grid.Flow: its second loop, and what it answers in every memory.
  grid.Flow in every memory: what it answers.
  SPANS THAT SAY NOTHING OF THEIR PLACE (plain law), and rows of pairs of numbers.
  round and ends of the statements of chapter 9: the walk.
  round and ends of the statements of chapter 9, told.
  THE LIFT, PART R: the abstract machine once more, so written that the kernel runs it with every value worked out at once. What it answers the abstract machine answers.
  'frescolaw09.alive' answers true, wherever it is called (a closed run).
  grid.Rects and what it calls: the walk.
  grid.Rects: what it answers.
  frescoref09.Rects and what it calls: the walk.
  frescoref09.Rects, and grid.Rects in every memory: what they answer.
  frescolaw09.GridApart: the walk.
  'frescolaw09.GridApart' answers true, for every list of sizes, tracks and gap.
-/
import Derived.Test.YtcgcpmcjaeenlaaKGridApartC

namespace Go.Proofs.Ytcgcpmcjaeenlaa
open Go.Lift
set_option maxRecDepth 1000000
set_option linter.unusedSimpArgs false
set_option linter.unusedVariables false
set_option linter.unusedSectionVars false

theorem fl_nil (o : Option AAddr) (n c C : Nat) (b rT : ABlk) (l l2 : List AVal) (cols : Int) (sT sU : AVal) (hc_0 : (n : Int) > 4096) :
    FDoes Try.prog 13 [.slice o n c, .int .i64 cols] (AHeap.of [b]) (.slice none 0 0) (AHeap.rows 6 [(0, b)]) :=
  pcall_does env_ok mixed (hs := [.val 1002 (.bool true)]) (rs := []) (by kernel_rfl) (All.cons (okT hc_0) (All.nil))

theorem fl_call (o : Option AAddr) (n c C : Nat) (b rT : ABlk) (l l2 : List AVal) (cols : Int) (sT sU : AVal) (hc_0 : ¬ ((n : Int) > 4096)) (hc_1 : FDoes Try.prog 30 [.int .i64 cols, .int .i64 1, .int .i64 64] (AHeap.rows 10 [(0, b)]) (.int .i64 (C : Int)) (AHeap.rows 10 [(0, b)])) (hc_2 : 0 ≤ (n : Int) ∧ (n : Int) ≤ (n : Int) ∧ (n : Int) < 4611686018427387904 ∧ (32 : Int) * (n : Int) ≤ 281474976710656) (hc_3 : Runs Try.prog 1 135 (.loop (loopAt Try.prog 13 0)) [(5, .ptr (some ⟨8, 0, 0, 0, 2⟩)), (6, .slice (some ⟨12, 0, 0, 0, 4⟩) n n), (23, .slice o n c), (24, .int .i64 (n : Int)), (25, .int .i64 0)] (AHeap.rows 17 [(0, b), (8, .made [.agg [.int .i64 (C : Int), .slice none 0 0]] 2 true), (12, .made (List.replicate n (.agg [.int .i64 0, .int .i64 0, .int .i64 0, .int .i64 0])) 4 true)]) (.exit 0) [(5, .ptr (some ⟨8, 0, 0, 0, 2⟩)), (6, .slice (some ⟨12, 0, 0, 0, 4⟩) n n)] (AHeap.rows 15 [(0, b), (8, (.made ([.agg [.int .i64 (C : Int), sT]]) 2 true)), (12, .made l 4 true), (13, rT)])) (hc_4 : Runs Try.prog 1 135 (.loop (loopAt Try.prog 13 1)) [(5, .ptr (some ⟨8, 0, 0, 0, 2⟩)), (6, .slice (some ⟨12, 0, 0, 0, 4⟩) n n), (9, .int .i64 0), (10, .int .i64 0), (80, .slice (some ⟨12, 0, 0, 0, 4⟩) n n), (81, .int .i64 (n : Int)), (82, .int .i64 0)] (AHeap.rows 20 [(0, b), (8, (.made ([.agg [.int .i64 (C : Int), sT]]) 2 true)), (12, .made l 4 true), (13, rT)]) (.exit 2) [(6, .slice (some ⟨12, 0, 0, 0, 4⟩) n n)] (AHeap.rows 15 [(0, b), (12, .made l2 4 true)])) :
    FDoes Try.prog 13 [.slice o n c, .int .i64 cols] (AHeap.of [b]) (.slice (some ⟨12, 0, 0, 0, 4⟩) n n) (AHeap.rows 17 [(0, b), (12, .made l2 4 true)]) :=
  pcall_does env_ok mixed (hs := [.val 1002 (.bool false), .val 3001 (.int .i64 C), .go 4002, .keep [5, 6, 23, 24, 25], .loop [(5, .ptr (some ⟨8, 0, 0, 0, 2⟩)), (6, .slice (some ⟨12, 0, 0, 0, 4⟩) n n)] (AHeap.rows 15 [(0, b), (8, .made [.agg [.int .i64 C, sT]] 2 true), (12, .made l 4 true), (13, rT)]) (.exit 0), .keep [5, 6, 9, 10, 80, 81, 82], .loop [(6, .slice (some ⟨12, 0, 0, 0, 4⟩) n n)] (AHeap.rows 15 [(0, b), (12, .made l2 4 true)]) (.exit 2)]) (rs := []) (by kernel_rfl) (All.cons (okF hc_0) (All.cons (CallT.mk hc_1) (All.cons hc_2 (All.cons hc_3 (All.cons hc_4 (All.nil))))))

end Go.Proofs.Ytcgcpmcjaeenlaa

namespace Go.Lift
noncomputable section
open Go.RowKit
set_option linter.unusedVariables false
set_option linter.unusedSimpArgs false

theorem lookF_mem {F : Facts} {t : Nat} {v : AVal} (hv : lookF F t = some v) : (t, v) ∈ F := by
  induction F with
  | nil => cases hv
  | cons p r ih =>
    obtain ⟨k, u⟩ := p
    rw [lookF_cons] at hv
    split at hv
    · rename_i e; simp only [Option.some.injEq] at hv; subst e; subst hv; simp
    · exact List.mem_cons_of_mem _ (ih hv)

theorem lookF_map {F : Facts} {g : AVal → AVal} {t : Nat} {v : AVal} (hv : lookF F t = some v) : lookF (F.map fun p => (p.1, g p.2)) t = some (g v) := by
  induction F with
  | nil => cases hv
  | cons p r ih =>
    obtain ⟨k, u⟩ := p
    rw [List.map_cons, lookF_cons]
    rw [lookF_cons] at hv
    split at hv
    · rename_i e; simp only [Option.some.injEq] at hv; subst hv; rw [if_pos e]
    · rename_i e; rw [if_neg e]; exact ih hv

/-- rows are forgotten, or get other numbers: the row p.1 was the row r p.1 -/
theorem Ent.move {base n : Nat} {F F1 : Facts} {h : AHeap} {K : Nat} {l : List (Nat × ABlk)} (r : Nat → Nat) (hl : l.map (fun p => h.get (r p.1)) = l.map (fun p => some (p.2.ren r))) (hK : l.all (fun p => Nat.blt p.1 K) = true)
    (hr : ((l.map (·.1)).map r).Nodup) (hb : (List.range base).all (fun i => (l.map (·.1)).contains i && Nat.beq (r i) i) = true) (hnew : l.all (fun p => Nat.blt p.1 base || Nat.ble base (r p.1)) = true)
    (hFF : F = F1.map fun p => (p.1, p.2.ren r)) (hn : F1.all (fun p => Nat.blt p.1 n) = true) (hF : All (F1.map fun p => Clo (Ids (l.map (·.1))) p.2))
    (hc : All (l.map fun p => ∀ e ∈ p.2.elems, Clo (Ids (l.map (·.1))) e)) : Ent base n F h F1 (AHeap.rows K l) := by
  have hget : ∀ i b, (AHeap.rows K l).get i = some b → i < K ∧ h.get (r i) = some (b.ren r) := by
    intro i b k
    have hm := AHeap.rows_get k
    refine ⟨Nat.blt_eq.mp (List.all_eq_true.1 hK _ hm), ?_⟩
    obtain ⟨j, hj, e⟩ := List.mem_iff_getElem.1 hm
    have h1 := congrArg (fun (x : List (Option ABlk)) => x[j]?) hl
    simp only [List.getElem?_map, List.getElem?_eq_getElem hj, Option.map_some, e, Option.some.injEq] at h1
    exact h1
  have hmono : ∀ {v : AVal}, Clo (Ids (l.map (·.1))) v → Clo (In (AHeap.rows K l)) v := Clo.mono fun i hi => AHeap.rows_in hi
  subst hFF
  refine Ent.ren (r := r) ⟨fun i b k => ⟨by rw [AHeap.rows_next]; exact (hget i b k).1, (hget i b k).2⟩, ?_, ?_⟩ ?_ ?_ ?_ ?_
  · intro i j hi hj e
    have hi := AHeap.rows_in_of hi
    have hj := AHeap.rows_in_of hj
    obtain ⟨a, ha, rfl⟩ := List.mem_iff_getElem.1 hi
    obtain ⟨b, hb', rfl⟩ := List.mem_iff_getElem.1 hj
    have h1 : ((l.map (·.1)).map r)[a]'(by simpa using ha) = ((l.map (·.1)).map r)[b]'(by simpa using hb') := by simpa using e
    have := (List.getElem_inj hr).1 h1
    subst this; rfl
  · intro i b k e he
    have hm := AHeap.rows_get k
    exact hmono (hc _ (List.mem_map.2 ⟨_, hm, rfl⟩) e he)
  · intro t v hv
    have hm := lookF_mem hv
    exact ⟨Nat.blt_eq.mp (List.all_eq_true.1 hn _ hm), lookF_map hv, hmono (hF _ (List.mem_map.2 ⟨_, hm, rfl⟩))⟩
  · intro i hi _
    have := List.all_eq_true.1 hb i (List.mem_range.2 hi)
    simp only [Bool.and_eq_true] at this
    exact AHeap.rows_in (by simpa using this.1)
  · intro i hi _
    have := List.all_eq_true.1 hb i (List.mem_range.2 hi)
    simp only [Bool.and_eq_true] at this
    exact Nat.eq_of_beq_eq_true this.2
  · intro i hi hlt
    have hi := AHeap.rows_in_of hi
    obtain ⟨p, hm, rfl⟩ := List.mem_map.1 hi
    have := List.all_eq_true.1 hnew p hm
    simp only [Bool.or_eq_true] at this
    rcases this with h1 | h1
    · exact Nat.blt_eq.mp h1
    · have := Nat.le_of_ble_eq_true h1; omega

theorem AHeap.foldl_get_eq (l : List (Nat × ABlk)) : ∀ (h g : AHeap) (i : Nat), h.get i = g.get i → (l.foldl (fun h p => h.set p.1 p.2) h).get i = (l.foldl (fun h p => h.set p.1 p.2) g).get i := by
  induction l with
  | nil => intro h g i e; exact e
  | cons p r ih =>
    intro h g i e
    refine ih _ _ i ?_
    rw [AHeap.get_set, AHeap.get_set, e]

theorem AHeap.foldl_out (l : List (Nat × ABlk)) : ∀ (h : AHeap) (i : Nat), i ∉ l.map (·.1) → (l.foldl (fun h p => h.set p.1 p.2) h).get i = h.get i := by
  induction l with
  | nil => intro h i _; rfl
  | cons p r ih =>
    intro h i hi
    simp only [List.map_cons, List.mem_cons, not_or] at hi
    rw [List.foldl_cons, ih _ i hi.2, AHeap.get_set_ne _ _ (Ne.symm hi.1)]

/-- rows that nobody names -/
theorem Ent.more {base n : Nat} {F : Facts} {K K2 : Nat} {l l2 : List (Nat × ABlk)} (hK : Nat.ble K K2 = true) (h2 : l2.all (fun p => Nat.ble K p.1) = true) : Ent base n F (AHeap.rows K l) F (AHeap.rows K2 (l ++ l2)) := by
  refine Ent.pad (by rw [AHeap.rows_next, AHeap.rows_next]; exact Nat.le_of_ble_eq_true hK) fun i hi => ?_
  rw [AHeap.rows_next] at hi
  unfold AHeap.rows
  rw [List.foldl_append, AHeap.foldl_out l2 _ i fun hm => ?_]
  · exact AHeap.foldl_get_eq l _ _ i rfl
  · obtain ⟨p, hp, rfl⟩ := List.mem_map.1 hm
    have := Nat.le_of_ble_eq_true (List.all_eq_true.1 h2 p hp)
    omega

/-- a row of nothing -/
def noRow0 : ABlk := .made [] 1 true
theorem noRow0_bare : BareB noRow0 := by intro e he; cases he
end
end Go.Lift

namespace Go.Proofs.Ytcgcpmcjaeenlaa
open Go.Lift
set_option maxRecDepth 1000000
set_option linter.unusedSimpArgs false
set_option linter.unusedVariables false
set_option linter.unusedSectionVars false

def tSlN : Nat → Option AAddr
  | 0 => none
  | k + 1 => some ⟨13, k, 0, 0, 4⟩
def tRow (T : List Qd) : ABlk := gRowQ (fun j => T.getD j Qd0) 1 (T.length - 1)
def to13 (N i : Nat) : Nat := if i = 13 then N else i
theorem slFix2 {o : Option AAddr} {n c id ver off es : Nat} (h : SlArg o n c id ver off es) {r : Nat → Nat} (hr : r id = id) : (AVal.slice o n c).ren r = .slice o n c := by
  rcases h with rfl | ⟨rfl, _, _⟩
  · simp [AVal.ren, AAddr.ren, hr]
  · rfl
theorem gRowQ_congr {f g : Nat → Qd} {n1 v : Nat} (h : ∀ j, j < n1 + v → f j = g j) : gRowQ f n1 v = gRowQ g n1 v := by
  unfold gRowQ; rw [qrows_congr h]

theorem tApp1 (r : Qd) (t N : Nat) (hp : AHeap) (hx : elemsOf 4 (.slice (some ⟨t, 0, 0, 0, 4⟩) 1 1) hp = some [r.val]) :
    abuiltin env .append #[22, 22] [.slice none 0 0, .slice (some ⟨t, 0, 0, 0, 4⟩) 1 1] N hp = some (.slice (some ⟨N, 0, 0, 0, 4⟩) 1 1, hp.set N (tRow [r])) :=
  app_quad1 slSpan (f := fun j => [r].getD j Qd0) r rfl t hp hx
theorem tAppG {T : List Qd} {k : Nat} (hk : T.length = k + 1) (hb : k ≤ 2 ^ 40) (r : Qd) (t K : Nat) (hp : AHeap) (hg : hp.get 13 = some (tRow T)) (hx : elemsOf 4 (.slice (some ⟨t, 0, 0, 0, 4⟩) 1 1) hp = some [r.val]) :
    abuiltin env .append #[22, 22] [.slice (some ⟨13, k, 0, 0, 4⟩) (k + 1) (k + 1), .slice (some ⟨t, 0, 0, 0, 4⟩) 1 1] K hp = some (.slice (some ⟨13, k + 1, 0, 0, 4⟩) (k + 1 + 1) (k + 1 + 1), hp.set 13 (tRow (T ++ [r]))) := by
  have e1 : tRow T = gRowQ (fun j => (T ++ [r]).getD j Qd0) 1 k := by
    unfold tRow
    rw [hk, show k + 1 - 1 = k by omega]
    exact gRowQ_congr fun j hj => by simp [List.getD_eq_getElem?_getD, List.getElem?_append_left (show j < T.length by omega)]
  have e2 : tRow (T ++ [r]) = gRowQ (fun j => (T ++ [r]).getD j Qd0) 1 (k + 1) := by
    unfold tRow
    rw [show (T ++ [r]).length - 1 = k + 1 by simp; omega]
  rw [e1] at hg
  have a := app_quad slSpan (f := fun j => (T ++ [r]).getD j Qd0) (n1 := 1) (v := k) (id := 13) (by omega) (by omega) r (by simp [List.getD_eq_getElem?_getD, show 1 + k = T.length by omega]) t K hp hg hx
  rw [show 1 + k = k + 1 by omega] at a
  rw [e2]; exact a

/-- the memory of grid.Flow's loops -/
noncomputable def stH (K : Nat) (b : ABlk) (C : Nat) (T : List Qd) (k : Nat) (l : List AVal) : AHeap := AHeap.rows K [(0, b), (8, brdRow C (tSlN k) k k), (12, .made l 4 true), (13, tRow T)]

theorem tSl_clo {k : Nat} {D : Nat → Prop} (h : D 13) : Clo D (.slice (tSlN k) k k) := by
  cases k with
  | zero => simp [tSlN, Clo]
  | succ k => simpa [tSlN, Clo] using h
theorem tRow_bare (T : List Qd) : BareB (tRow T) := gRowQ_bare _ _ _

section
variable {n C : Nat} (hn : n ≤ 4096) (hC : 1 ≤ C ∧ C ≤ 64) {o : Option AAddr} {c ver off : Nat} {b : ABlk} (hs : SlArg o n c 0 ver off 4) (hb : BareB b) {src : Nat → Qd} (hel : ∀ j, j < n → b.elem? ver (off + j) = some (src j).val)
include hn hC hs hb hel

theorem fl_loop : ∀ (f i : Nat) (T : List Qd), i + f = n → T = fixedL (fun j => normZ C (src j)) i → T.length ≤ i →
    ∃ k, (fixedL (fun j => normZ C (src j)) n).length = k ∧ Loops Try.prog 1 135 (loopAt Try.prog 13 0) [(5, .ptr (some ⟨8, 0, 0, 0, 2⟩)), (6, .slice (some ⟨12, 0, 0, 0, 4⟩) n n), (23, .slice o n c), (24, .int .i64 n), (25, .int .i64 i)]
      (stH 14 b C T T.length (qrows n fun j => if j < i then normZ C (src j) else Qd0)) (.exit 0) [(5, .ptr (some ⟨8, 0, 0, 0, 2⟩)), (6, .slice (some ⟨12, 0, 0, 0, 4⟩) n n)] (stH 15 b C (fixedL (fun j => normZ C (src j)) n) k (qrows n fun j => normZ C (src j)))
  | 0, i, T, e, hT, hl => by
    obtain rfl : i = n := by omega
    subst hT
    refine ⟨_, rfl, ?_⟩
    rw [show (qrows i fun j => if j < i then normZ C (src j) else Qd0) = (qrows i fun j => normZ C (src j)) from qrows_congr fun j hj => by rw [if_pos hj]]
    exact Loops.last (by simp) (fl_end o i c 0 0 0 0 i C b _ b _ 0 0 0 0 _ (by omega))
  | f + 1, i, T, e, hT, hl => by
    have hi : i < n := by omega
    have dc : Clo (Ids [0, 8, 12, 13]) (.slice o n c) := hs.clo (by simp [Ids])
    have dc2 : Clo (Ids [0, 8, 12]) (.slice o n c) := hs.clo (by simp [Ids])
    have nz := normZ_ok (cols := C) (by omega) (src i)
    have c1 : (i : Int) < n := by omega
    have c2 := ix_spS (k := .i64) hs hi
    have c3 := hel i hi
    have c4 : -9223372036854775808 ≤ (C : Int) - inZ2 (src i).c 1 C ∧ (C : Int) - inZ2 (src i).c 1 C ≤ 9223372036854775807 := by unfold inZ2; omega
    have c5 : 0 ≤ (i : Int) ∧ (i : Int) < (n : Int) ∧ 4 = 4 := ⟨by omega, by omega, rfl⟩
    have c6 : 0 = 0 ∧ (qrows n fun j => if j < i then normZ C (src j) else Qd0)[0 + Int.toNat (i : Int)]? = some Qd0.val := ⟨rfl, by rw [show 0 + Int.toNat (i : Int) = i by simp, qrows_get hi]; simp⟩
    have f5 : -9223372036854775808 ≤ (i : Int) + 1 ∧ (i : Int) + (1 : Int) ≤ 9223372036854775807 := by omega
    have es : List.set (qrows n fun j => if j < i then normZ C (src j) else Qd0) (0 + Int.toNat (i : Int)) (normZ C (src i)).val = qrows n fun j => if j < i + 1 then normZ C (src j) else Qd0 := by
      rw [show 0 + Int.toNat (i : Int) = i by simp]
      exact qrows_step (y := fun j => normZ C (src j)) (z := fun _ => Qd0) (i := i)
    have e2 : List.set (qrows n fun j => if j < i then normZ C (src j) else Qd0) (0 + Int.toNat (i : Int)) (.agg [.int .i64 (inZ2 (src i).a (-1) (C - inZ2 (src i).c 1 C)), .int .i64 (inZ2 (src i).b (-1) 4096), .int .i64 (inZ2 (src i).c 1 C), .int .i64 (inZ2 (src i).d 1 4096)]) = qrows n fun j => if j < i + 1 then normZ C (src j) else Qd0 := es
    have back : ∀ {h0 : AHeap} (T2 : List Qd) (k2 : Nat), [h0.get 0, h0.get 8, h0.get 12, h0.get 13] = [some b, some (brdRow C (tSlN k2) k2 k2), some (.made (qrows n fun j => if j < i + 1 then normZ C (src j) else Qd0) 4 true), some (tRow T2)] →
        Ent 1 135 [(5, .ptr (some ⟨8, 0, 0, 0, 2⟩)), (6, .slice (some ⟨12, 0, 0, 0, 4⟩) n n), (23, .slice o n c), (24, .int .i64 n), (25, .int .i64 (i + 1 : Nat))] h0
          [(5, .ptr (some ⟨8, 0, 0, 0, 2⟩)), (6, .slice (some ⟨12, 0, 0, 0, 4⟩) n n), (23, .slice o n c), (24, .int .i64 n), (25, .int .i64 (i + 1 : Nat))] (stH 14 b C T2 k2 (qrows n fun j => if j < i + 1 then normZ C (src j) else Qd0)) := fun T2 k2 e1 =>
      Ent.drop e1 (by kernel_rfl) (by kernel_rfl) (by kernel_rfl) (by simp [All_cons, All_nil, Clo, dc]; simp [Ids]) (by
        simp only [List.map, All_cons, All_nil, and_true]
        exact ⟨hb.clo _, brd_cloI (tSl_clo (by simp [Ids])), (qrows_bare _ _).clo _, (tRow_bare _).clo _⟩)
    by_cases ha : (normZ C (src i)).a ≥ 0
    · by_cases hbb : (normZ C (src i)).b ≥ 0
      · have fx : fixedZ (normZ C (src i)) = true := (fixedZ_iff _).2 ⟨ha, hbb⟩
        have eT : T ++ [normZ C (src i)] = fixedL (fun j => normZ C (src j)) (i + 1) := by
          simp only [fixedL, fx, if_true, hT]
        have el : (T ++ [normZ C (src i)]).length = T.length + 1 := by simp
        obtain ⟨k, hk, ih⟩ := fl_loop f (i + 1) (T ++ [normZ C (src i)]) (by omega) eT (by omega)
        rw [el] at ih
        refine ⟨k, hk, ?_⟩
        cases hc : T.length with
        | zero =>
          have : T = [] := List.eq_nil_of_length_eq_zero hc
          subst this
          have st := fl_new o n c ver off 0 0 i C b b (tRow [normZ C (src i)]) _ (src i).a (src i).b (src i).c (src i).d c1 c2 c3 c4 c5 c6 ha hbb ((tApp1 (normZ C (src i)) _ _ _ (by kernel_rfl)).trans (by kernel_rfl)) f5
          rw [e2] at st
          have pre : Ent 1 135 [(5, .ptr (some ⟨8, 0, 0, 0, 2⟩)), (6, .slice (some ⟨12, 0, 0, 0, 4⟩) n n), (23, .slice o n c), (24, .int .i64 n), (25, .int .i64 i)] (stH 14 b C [] 0 (qrows n fun j => if j < i then normZ C (src j) else Qd0))
              [(5, .ptr (some ⟨8, 0, 0, 0, 2⟩)), (6, .slice (some ⟨12, 0, 0, 0, 4⟩) n n), (23, .slice o n c), (24, .int .i64 n), (25, .int .i64 i)] (AHeap.rows 13 [(0, b), (8, brdRow C none 0 0), (12, .made (qrows n fun j => if j < i then normZ C (src j) else Qd0) 4 true)]) :=
            Ent.drop (by kernel_rfl) (by kernel_rfl) (by kernel_rfl) (by kernel_rfl) (by simp [All_cons, All_nil, Clo, dc2]; simp [Ids]) (by
              simp only [List.map, All_cons, All_nil, and_true]
              exact ⟨hb.clo _, brd_cloI (by simp [Clo]), (qrows_bare _ _).clo _⟩)
          refine Tri.pre (Loops.step (st.post ?_) ih) pre
          refine Ent.move (to13 71) ?_ (by kernel_rfl) (by simp [to13]) (by kernel_rfl) (by kernel_rfl) ?_ (by kernel_rfl) (by simp [All_cons, All_nil, Clo, dc]; simp [Ids]) (by
            simp only [List.map, All_cons, All_nil, and_true]
            exact ⟨hb.clo _, brd_cloI (tSl_clo (by simp [Ids])), (qrows_bare _ _).clo _, (tRow_bare _).clo _⟩)
          · simp only [List.map]
            rw [hb.ren, (qrows_bare _ _).ren, (tRow_bare _).ren]
            kernel_rfl
          · simp only [List.map, slFix2 hs (r := to13 71) rfl]
            rfl
        | succ k0 =>
          rw [hc] at ih
          have st := fl_grow o n c ver off k0 (k0 + 1) i C b (tRow T) (tRow (T ++ [normZ C (src i)])) _ (src i).a (src i).b (src i).c (src i).d c1 c2 c3 c4 c5 c6 ha hbb ((tAppG hc (by omega) (normZ C (src i)) _ _ _ (by kernel_rfl) (by kernel_rfl)).trans (by kernel_rfl)) f5
          rw [e2] at st
          exact Loops.step (st.post (i := back (T ++ [normZ C (src i)]) (k0 + 1 + 1) (by kernel_rfl))) ih
      · have fx : ¬ fixedZ (normZ C (src i)) = true := fun h => hbb ((fixedZ_iff _).1 h).2
        have eT : T = fixedL (fun j => normZ C (src j)) (i + 1) := by simp only [fixedL, fx]; exact hT
        obtain ⟨k, hk, ih⟩ := fl_loop f (i + 1) T (by omega) eT (by omega)
        have st := fl_no2 o n c ver off 0 0 i C b (tRow T) b _ (src i).a (src i).b (src i).c (src i).d (.slice (tSlN T.length) T.length T.length) c1 c2 c3 c4 c5 c6 ha hbb f5
        rw [e2] at st
        exact ⟨k, hk, Loops.step (st.post (i := back T T.length (by kernel_rfl))) ih⟩
    · have fx : ¬ fixedZ (normZ C (src i)) = true := fun h => ha ((fixedZ_iff _).1 h).1
      have eT : T = fixedL (fun j => normZ C (src j)) (i + 1) := by simp only [fixedL, fx]; exact hT
      obtain ⟨k, hk, ih⟩ := fl_loop f (i + 1) T (by omega) eT (by omega)
      have st := fl_no1 o n c ver off 0 0 i C b (tRow T) b _ (src i).a (src i).b (src i).c (src i).d (.slice (tSlN T.length) T.length T.length) c1 c2 c3 c4 c5 c6 ha f5
      rw [e2] at st
      exact ⟨k, hk, Loops.step (st.post (i := back T T.length (by kernel_rfl))) ih⟩
end

end Go.Proofs.Ytcgcpmcjaeenlaa

namespace Go.Proofs.Ytcgcpmcjaeenlaa
open Go.Lift
set_option maxRecDepth 1000000
set_option linter.unusedSimpArgs false
set_option linter.unusedVariables false
set_option linter.unusedSectionVars false

theorem prefix_good {cols : Int} {n m : Nat} {w out : Nat → Qd} (hm : m ≤ n) (hw : ∀ j, j < n → NormZ cols (w j)) (h : ∀ j, j < m → PlaceZ cols (takenL w out n j) (curZ w out j) (w j) (out j)) : ∀ i, i ≤ m → GoodT cols (downM i) (takenL w out n i) ∧ (0 ≤ (curZ w out i).1 ∧ (curZ w out i).1 ≤ downM i) ∧ (0 ≤ (curZ w out i).2 ∧ (curZ w out i).2 ≤ cols ∨ (curZ w out i).2 = 0)
  | 0, _ => ⟨by show GoodT cols (downM 0) (fixedL w n); rw [show downM 0 = 8192 by simp [downM]]; exact fixedL_good hw, by simp [curZ, downM], .inr rfl⟩
  | i + 1, hi => by
    obtain ⟨g1, g2, g3⟩ := prefix_good hm hw h i (by omega)
    have e : downM (i + 1) = downM i + 4097 := by simp only [downM]; push_cast; omega
    have hM : 8192 ≤ downM i := by simp only [downM]; omega
    have pg := place_good g1 hM g2 (hw i (by omega)) (h i (by omega))
    have k := hw i (by omega)
    have k3 := k.c; have k4 := k.d
    have up : GoodT cols (downM (i + 1)) (takenL w out n i) := fun t ht => by have := g1 t ht; omega
    refine ⟨?_, ?_, ?_⟩
    · simp only [takenL]
      split
      · exact up
      · intro t ht
        rcases List.mem_append.1 ht with ht | ht
        · exact up t ht
        · obtain rfl := List.mem_singleton.1 ht
          omega
    · simp only [curZ]
      split
      · simp only; omega
      · omega
    · simp only [curZ]
      split
      · simp only; omega
      · omega
theorem fixedL_len (w : Nat → Qd) : ∀ n, (fixedL w n).length ≤ n
  | 0 => Nat.le_refl _
  | n + 1 => by
    have := fixedL_len w n
    simp only [fixedL]
    split
    · simp; omega
    · omega
theorem takenL_len (w out : Nat → Qd) (n : Nat) : ∀ i, (takenL w out n i).length ≤ n + i
  | 0 => fixedL_len w n
  | i + 1 => by
    have := takenL_len w out n i
    simp only [takenL]
    split
    · omega
    · simp; omega
theorem tRow_el {T : List Qd} {k : Nat} (h : T.length = k + 1) : ElT (tRow T) k T := fun j t ht => by
  have hj := (List.getElem?_eq_some_iff.1 ht).1
  have e := gRowQ_el (f := fun j => T.getD j Qd0) (n1 := 1) (v := k) (j := j) (by omega)
  unfold tRow
  rw [show T.length - 1 = k by omega, e]
  simp [List.getD_eq_getElem?_getD, ht]
theorem norm_small {C : Nat} (hC : C ≤ 64) {s : Qd} (h : NormZ C s) : Small s := by
  have h1 := h.a; have h2 := h.b; have h3 := h.c; have h4 := h.d
  unfold Small; omega
theorem row_step {n i : Nat} {out w : Nat → Qd} {r : Qd} : (qrows n fun j => if j < i then out j else w j).set i r.val = qrows n fun j => if j < i + 1 then (if j = i then r else out j) else w j := by
  apply List.ext_getElem (by simp)
  intro j h1 h2
  rw [List.getElem_set]
  simp only [qrows, List.getElem_map, List.getElem_range]
  by_cases e : i = j
  · subst e; simp
  · rw [if_neg e]
    by_cases c : j < i
    · rw [if_pos c, if_pos (by omega), if_neg (Ne.symm e)]
    · rw [if_neg c, if_neg (by omega)]

section
variable {n C : Nat} (hn : n ≤ 4096) (hC : 1 ≤ C ∧ C ≤ 64) {b : ABlk} (hb : BareB b) {w : Nat → Qd} (hw : ∀ j, j < n → NormZ C (w j))
include hn hC hb hw

theorem fx_mv {N : Nat} (hN : N = 49 ∨ N = 53 ∨ N = 61) (y x : Int) (i : Nat) (r : Qd) (g : Nat → Qd) {h0 : AHeap} (e : [h0.get 0, h0.get 8, h0.get 12, h0.get N] = [some b, some (brdRow C (some ⟨N, 0, 0, 0, 4⟩) 1 1), some (.made (qrows n g) 4 true), some (tRow [r])]) :
    Ent 1 135 [(5, .ptr (some ⟨8, 0, 0, 0, 2⟩)), (6, .slice (some ⟨12, 0, 0, 0, 4⟩) n n), (9, .int .i64 y), (10, .int .i64 x), (80, .slice (some ⟨12, 0, 0, 0, 4⟩) n n), (81, .int .i64 n), (82, .int .i64 i)] h0
      [(5, .ptr (some ⟨8, 0, 0, 0, 2⟩)), (6, .slice (some ⟨12, 0, 0, 0, 4⟩) n n), (9, .int .i64 y), (10, .int .i64 x), (80, .slice (some ⟨12, 0, 0, 0, 4⟩) n n), (81, .int .i64 n), (82, .int .i64 i)] (stH 14 b C [r] 1 (qrows n g)) := by
  rcases hN with rfl | rfl | rfl
  · refine Ent.move (to13 49) ?_ (by kernel_rfl) (by simp [to13]) (by kernel_rfl) (by kernel_rfl) rfl (by kernel_rfl) (by simp [All_cons, All_nil, Clo]; simp [Ids]) (by
      simp only [List.map, All_cons, All_nil, and_true]
      exact ⟨hb.clo _, brd_cloI (tSl_clo (by simp [Ids])), (qrows_bare _ _).clo _, (tRow_bare _).clo _⟩)
    simp only [List.map]
    rw [hb.ren, (qrows_bare _ _).ren, (tRow_bare _).ren]
    exact e
  · refine Ent.move (to13 53) ?_ (by kernel_rfl) (by simp [to13]) (by kernel_rfl) (by kernel_rfl) rfl (by kernel_rfl) (by simp [All_cons, All_nil, Clo]; simp [Ids]) (by
      simp only [List.map, All_cons, All_nil, and_true]
      exact ⟨hb.clo _, brd_cloI (tSl_clo (by simp [Ids])), (qrows_bare _ _).clo _, (tRow_bare _).clo _⟩)
    simp only [List.map]
    rw [hb.ren, (qrows_bare _ _).ren, (tRow_bare _).ren]
    exact e
  · refine Ent.move (to13 61) ?_ (by kernel_rfl) (by simp [to13]) (by kernel_rfl) (by kernel_rfl) rfl (by kernel_rfl) (by simp [All_cons, All_nil, Clo]; simp [Ids]) (by
      simp only [List.map, All_cons, All_nil, and_true]
      exact ⟨hb.clo _, brd_cloI (tSl_clo (by simp [Ids])), (qrows_bare _ _).clo _, (tRow_bare _).clo _⟩)
    simp only [List.map]
    rw [hb.ren, (qrows_bare _ _).ren, (tRow_bare _).ren]
    exact e

theorem fx_loop : ∀ (f i : Nat) (out : Nat → Qd) (T : List Qd) (y x : Int), i + f = n → (∀ j, j < i → PlaceZ C (takenL w out n j) (curZ w out j) (w j) (out j)) → T = takenL w out n i → (y, x) = curZ w out i →
    ∃ out2, FlowZ C n w out2 ∧ Loops Try.prog 1 135 (loopAt Try.prog 13 1) [(5, .ptr (some ⟨8, 0, 0, 0, 2⟩)), (6, .slice (some ⟨12, 0, 0, 0, 4⟩) n n), (9, .int .i64 y), (10, .int .i64 x), (80, .slice (some ⟨12, 0, 0, 0, 4⟩) n n), (81, .int .i64 n), (82, .int .i64 i)]
      (stH 14 b C T T.length (qrows n fun j => if j < i then out j else w j)) (.exit 2) [(6, .slice (some ⟨12, 0, 0, 0, 4⟩) n n)] (AHeap.rows 15 [(0, b), (12, .made (qrows n out2) 4 true)])
  | 0, i, out, T, y, x, e, hp, hT, hyx => by
    obtain rfl : i = n := by omega
    refine ⟨out, hp, ?_⟩
    rw [show (qrows i fun j => if j < i then out j else w j) = qrows i out from qrows_congr fun j hj => by rw [if_pos hj]]
    refine (Loops.last (by simp) (fx_end i 0 0 i C b (tRow T) b _ y x 0 0 0 0 0 0 0 0 (.slice (tSlN T.length) T.length T.length) (by omega))).post ?_
    exact Ent.drop (by kernel_rfl) (by kernel_rfl) (by kernel_rfl) (by kernel_rfl) (by simp [All_cons, All_nil, Clo, Ids]) (by
      simp only [List.map, All_cons, All_nil, and_true]
      exact ⟨hb.clo _, (qrows_bare _ _).clo _⟩)
  | f + 1, i, out, T, y, x, e, hp, hT, hyx => by
    have hi : i < n := by omega
    obtain ⟨g1, g2, g3⟩ := prefix_good (m := i) (by omega) hw hp i (Nat.le_refl _)
    have g3x : 0 ≤ x ∧ x ≤ 2 ^ 40 := by
      have e3 : x = (curZ w out i).2 := by rw [← hyx]
      rw [e3]; omega
    rw [← hyx] at g2
    rw [← hT] at g1
    simp only at g2
    have nw := hw i hi
    have n1 := nw.a; have n2 := nw.b; have n3 := nw.c; have n4 := nw.d
    have sw := norm_small hC.2 nw
    have hM : 0 ≤ downM i ∧ downM i ≤ 2 ^ 39 := by unfold downM; omega
    have hlen : T.length ≤ 2 ^ 40 := by have := takenL_len w out n i; rw [← hT] at this; omega
    have c1 : (i : Int) < n := by omega
    have c5 : 0 ≤ (i : Int) ∧ (i : Int) < (n : Int) ∧ 4 = 4 := ⟨by omega, by omega, rfl⟩
    have rg : (qrows n fun j => if j < i then out j else w j)[0 + Int.toNat (i : Int)]? = some (w i).val := by rw [show 0 + Int.toNat (i : Int) = i by simp, qrows_get hi]; simp
    have c6 : (ABlk.made (qrows n fun j => if j < i then out j else w j) 4 true).elem? 0 (0 + Int.toNat (i : Int)) = some (w i).val := elem_made rg
    have f5 : -9223372036854775808 ≤ (i : Int) + 1 ∧ (i : Int) + (1 : Int) ≤ 9223372036854775807 := by omega
    have es : ∀ r : Qd, List.set (qrows n fun j => if j < i then out j else w j) (0 + Int.toNat (i : Int)) (.agg [.int .i64 r.a, .int .i64 r.b, .int .i64 r.c, .int .i64 r.d]) = qrows n fun j => if j < i + 1 then (if j = i then r else out j) else w j := fun r => by
      rw [show 0 + Int.toNat (i : Int) = i by simp]; exact row_step
    have back : ∀ {h0 : AHeap} (T2 : List Qd) (k2 : Nat) (y2 x2 : Int) (g : Nat → Qd), [h0.get 0, h0.get 8, h0.get 12, h0.get 13] = [some b, some (brdRow C (tSlN k2) k2 k2), some (.made (qrows n g) 4 true), some (tRow T2)] →
        Ent 1 135 [(5, .ptr (some ⟨8, 0, 0, 0, 2⟩)), (6, .slice (some ⟨12, 0, 0, 0, 4⟩) n n), (9, .int .i64 y2), (10, .int .i64 x2), (80, .slice (some ⟨12, 0, 0, 0, 4⟩) n n), (81, .int .i64 n), (82, .int .i64 (i + 1 : Nat))] h0
          [(5, .ptr (some ⟨8, 0, 0, 0, 2⟩)), (6, .slice (some ⟨12, 0, 0, 0, 4⟩) n n), (9, .int .i64 y2), (10, .int .i64 x2), (80, .slice (some ⟨12, 0, 0, 0, 4⟩) n n), (81, .int .i64 n), (82, .int .i64 (i + 1 : Nat))] (stH 14 b C T2 k2 (qrows n g)) := fun T2 k2 y2 x2 g e1 =>
      Ent.drop e1 (by kernel_rfl) (by kernel_rfl) (by kernel_rfl) (by simp [All_cons, All_nil, Clo]; simp [Ids]) (by
        simp only [List.map, All_cons, All_nil, and_true]
        exact ⟨hb.clo _, brd_cloI (tSl_clo (by simp [Ids])), (qrows_bare _ _).clo _, (tRow_bare _).clo _⟩)
    -- what is known once a place is found
    have nxt : ∀ r : Qd, PlaceZ C T (y, x) (w i) r → (∀ j, j < i + 1 → PlaceZ C (takenL w (fun j => if j = i then r else out j) n j) (curZ w (fun j => if j = i then r else out j) j) (w j) (if j = i then r else out j)) ∧ takenL w (fun j => if j = i then r else out j) n i = T ∧ curZ w (fun j => if j = i then r else out j) i = (y, x) := fun r hr => by
      have cg : ∀ j, j ≤ i → takenL w (fun j => if j = i then r else out j) n j = takenL w out n j ∧ curZ w (fun j => if j = i then r else out j) j = curZ w out j := fun j hj => takenL_congr fun k hk => by rw [if_neg (by omega)]
      refine ⟨fun j hj => ?_, by rw [(cg i (Nat.le_refl _)).1, hT], by rw [(cg i (Nat.le_refl _)).2, hyx]⟩
      by_cases c : j = i
      · subst c
        rw [(cg j (Nat.le_refl _)).1, (cg j (Nat.le_refl _)).2, if_pos rfl, ← hT, ← hyx]; exact hr
      · rw [(cg j (by omega)).1, (cg j (by omega)).2, if_neg c]; exact hp j (by omega)
    by_cases ha : (w i).a ≥ 0
    · by_cases hbb : (w i).b ≥ 0
      · -- it has its place
        have fx : fixedZ (w i) = true := (fixedZ_iff _).2 ⟨ha, hbb⟩
        obtain ⟨m1, m2, m3⟩ := nxt (w i) (by unfold PlaceZ; rw [if_pos fx])
        obtain ⟨o2, q1, l⟩ := fx_loop f (i + 1) (fun j => if j = i then w i else out j) T y x (by omega) m1 (by simp only [takenL, fx, if_true]; exact m2.symm) (by simp only [curZ]; rw [if_neg (by omega)]; exact m3.symm)
        rw [show (qrows n fun j => if j < i + 1 then (if j = i then w i else out j) else w j) = (qrows n fun j => if j < i then out j else w j) from qrows_congr fun j _ => by
          by_cases c : j = i
          · subst c; simp
          · by_cases c2 : j < i
            · rw [if_pos c2, if_pos (by omega), if_neg c]
            · rw [if_neg c2, if_neg (by omega)]] at l
        exact ⟨o2, q1, Loops.step ((fx_fixed n 0 0 i C b (tRow T) b _ y x (w i).a (w i).b (w i).c (w i).d 0 0 0 0 (.slice (tSlN T.length) T.length T.length) c1 c5 c6 ha hbb f5).post (i := back T T.length y x _ (by kernel_rfl))) l⟩
      · -- down
        have fx : ¬ fixedZ (w i) = true := fun h => hbb ((fixedZ_iff _).1 h).2
        have fin : ∀ r : Qd, DownZ T (w i) r → PlaceZ C T (y, x) (w i) r ∧ True := fun r hr => ⟨by unfold PlaceZ; rw [if_neg fx, if_neg hbb, if_pos (by omega)]; exact hr, trivial⟩
        have ih : ∀ r : Qd, DownZ T (w i) r → ∃ o2, FlowZ C n w o2 ∧ Loops Try.prog 1 135 (loopAt Try.prog 13 1) [(5, .ptr (some ⟨8, 0, 0, 0, 2⟩)), (6, .slice (some ⟨12, 0, 0, 0, 4⟩) n n), (9, .int .i64 y), (10, .int .i64 x), (80, .slice (some ⟨12, 0, 0, 0, 4⟩) n n), (81, .int .i64 n), (82, .int .i64 (i + 1 : Nat))]
            (stH 14 b C (T ++ [r]) (T.length + 1) (qrows n fun j => if j < i + 1 then (if j = i then r else out j) else w j)) (.exit 2) [(6, .slice (some ⟨12, 0, 0, 0, 4⟩) n n)] (AHeap.rows 15 [(0, b), (12, .made (qrows n o2) 4 true)]) := fun r hr => by
          obtain ⟨m1, m2, m3⟩ := nxt r (fin r hr).1
          have := fx_loop f (i + 1) (fun j => if j = i then r else out j) (T ++ [r]) y x (by omega) m1 (by simp only [takenL]; rw [if_neg fx, m2, if_pos trivial]) (by simp only [curZ]; rw [if_neg (by omega)]; exact m3.symm)
          rwa [show (T ++ [r]).length = T.length + 1 by simp] at this
        cases hc : T.length with
        | zero =>
          have t0 : T = [] := List.eq_nil_of_length_eq_zero hc
          have bd : BoardAt (AHeap.rows 41 [(0, b), (8, brdRow C none 0 0), (12, .made (qrows n fun j => if j < i then out j else w j) 4 true), (17, .made [(w i).val] 4 true)]) 8 0 C none 0 0 0 b T := ⟨by kernel_rfl, by kernel_rfl, .inr ⟨rfl, rfl, rfl⟩, by decide, by rw [AHeap.rows_next]; omega, by rw [AHeap.rows_next]; omega, hb, hc, fun j t h => by rw [t0] at h; simp at h⟩
          obtain ⟨r, r1, r2⟩ := down_does bd g1 hC.2 hM (by omega) sw
          obtain ⟨o2, q1, l⟩ := ih r r1
          subst t0
          refine ⟨o2, q1, ?_⟩
          have st := fx_dn_new n 0 0 i C b b (tRow [r]) _ y x (w i).a (w i).b (w i).c (w i).d r.a r.b r.c r.d c1 c5 c6 ha hbb hbb ha r2 c5 ⟨rfl, rg⟩ ((tApp1 r _ _ _ (by kernel_rfl)).trans (by kernel_rfl)) f5
          rw [es r] at st
          have pre : Ent 1 135 [(5, .ptr (some ⟨8, 0, 0, 0, 2⟩)), (6, .slice (some ⟨12, 0, 0, 0, 4⟩) n n), (9, .int .i64 y), (10, .int .i64 x), (80, .slice (some ⟨12, 0, 0, 0, 4⟩) n n), (81, .int .i64 n), (82, .int .i64 i)] (stH 14 b C [] 0 (qrows n fun j => if j < i then out j else w j))
              [(5, .ptr (some ⟨8, 0, 0, 0, 2⟩)), (6, .slice (some ⟨12, 0, 0, 0, 4⟩) n n), (9, .int .i64 y), (10, .int .i64 x), (80, .slice (some ⟨12, 0, 0, 0, 4⟩) n n), (81, .int .i64 n), (82, .int .i64 i)] (AHeap.rows 13 [(0, b), (8, brdRow C none 0 0), (12, .made (qrows n fun j => if j < i then out j else w j) 4 true)]) :=
            Ent.drop (by kernel_rfl) (by kernel_rfl) (by kernel_rfl) (by kernel_rfl) (by simp [All_cons, All_nil, Clo]; simp [Ids]) (by
              simp only [List.map, All_cons, All_nil, and_true]
              exact ⟨hb.clo _, brd_cloI (by simp [Clo]), (qrows_bare _ _).clo _⟩)
          exact Tri.pre (Loops.step (st.post (i := fx_mv hn hC hb hw (N := 53) (by omega) y x (i + 1) r _ (by kernel_rfl))) l) pre
        | succ k0 =>
          have bd : BoardAt (AHeap.rows 42 [(0, b), (8, brdRow C (some ⟨13, k0, 0, 0, 4⟩) (k0 + 1) (k0 + 1)), (12, .made (qrows n fun j => if j < i then out j else w j) 4 true), (13, tRow T), (18, .made [(w i).val] 4 true)]) 8 13 C (some ⟨13, k0, 0, 0, 4⟩) (k0 + 1) (k0 + 1) k0 (tRow T) T := ⟨by kernel_rfl, by kernel_rfl, .inl rfl, by decide, by rw [AHeap.rows_next]; omega, by rw [AHeap.rows_next]; omega, tRow_bare _, hc, tRow_el hc⟩
          obtain ⟨r, r1, r2⟩ := down_does bd g1 hC.2 hM (by omega) sw
          obtain ⟨o2, q1, l⟩ := ih r r1
          rw [hc] at l
          refine ⟨o2, q1, ?_⟩
          have st := fx_dn_grow n k0 (k0 + 1) i C b (tRow T) (tRow (T ++ [r])) _ y x (w i).a (w i).b (w i).c (w i).d r.a r.b r.c r.d c1 c5 c6 ha hbb hbb ha r2 c5 ⟨rfl, rg⟩ ((tAppG hc (by omega) r _ _ _ (by kernel_rfl) (by kernel_rfl)).trans (by kernel_rfl)) f5
          rw [es r] at st
          exact Loops.step (st.post (i := back (T ++ [r]) (k0 + 1 + 1) y x _ (by kernel_rfl))) l
    · by_cases hbb : (w i).b ≥ 0
      · -- across
        have fx : ¬ fixedZ (w i) = true := fun h => ha ((fixedZ_iff _).1 h).1
        have ih : ∀ r : Qd, AcrossZ T C (w i) r → ∃ o2, FlowZ C n w o2 ∧ Loops Try.prog 1 135 (loopAt Try.prog 13 1) [(5, .ptr (some ⟨8, 0, 0, 0, 2⟩)), (6, .slice (some ⟨12, 0, 0, 0, 4⟩) n n), (9, .int .i64 y), (10, .int .i64 x), (80, .slice (some ⟨12, 0, 0, 0, 4⟩) n n), (81, .int .i64 n), (82, .int .i64 (i + 1 : Nat))]
            (stH 14 b C (T ++ [r]) (T.length + 1) (qrows n fun j => if j < i + 1 then (if j = i then r else out j) else w j)) (.exit 2) [(6, .slice (some ⟨12, 0, 0, 0, 4⟩) n n)] (AHeap.rows 15 [(0, b), (12, .made (qrows n o2) 4 true)]) := fun r hr => by
          obtain ⟨m1, m2, m3⟩ := nxt r (by unfold PlaceZ; rw [if_neg fx, if_pos (by omega)]; exact hr)
          have := fx_loop f (i + 1) (fun j => if j = i then r else out j) (T ++ [r]) y x (by omega) m1 (by simp only [takenL]; rw [if_neg fx, m2, if_pos trivial]) (by simp only [curZ]; rw [if_neg (by omega)]; exact m3.symm)
          rwa [show (T ++ [r]).length = T.length + 1 by simp] at this
        cases hc : T.length with
        | zero =>
          have t0 : T = [] := List.eq_nil_of_length_eq_zero hc
          have bd : BoardAt (AHeap.rows 37 [(0, b), (8, brdRow C none 0 0), (12, .made (qrows n fun j => if j < i then out j else w j) 4 true), (17, .made [(w i).val] 4 true)]) 8 0 C none 0 0 0 b T := ⟨by kernel_rfl, by kernel_rfl, .inr ⟨rfl, rfl, rfl⟩, by decide, by rw [AHeap.rows_next]; omega, by rw [AHeap.rows_next]; omega, hb, hc, fun j t h => by rw [t0] at h; simp at h⟩
          obtain ⟨r, r1, r2⟩ := across_does bd g1 hC.2 hM (by omega) sw n3.1
          obtain ⟨o2, q1, l⟩ := ih r r1
          subst t0
          refine ⟨o2, q1, ?_⟩
          have st := fx_ac_new n 0 0 i C b b (tRow [r]) _ y x (w i).a (w i).b (w i).c (w i).d r.a r.b r.c r.d c1 c5 c6 ha hbb r2 c5 ⟨rfl, rg⟩ ((tApp1 r _ _ _ (by kernel_rfl)).trans (by kernel_rfl)) f5
          rw [es r] at st
          have pre : Ent 1 135 [(5, .ptr (some ⟨8, 0, 0, 0, 2⟩)), (6, .slice (some ⟨12, 0, 0, 0, 4⟩) n n), (9, .int .i64 y), (10, .int .i64 x), (80, .slice (some ⟨12, 0, 0, 0, 4⟩) n n), (81, .int .i64 n), (82, .int .i64 i)] (stH 14 b C [] 0 (qrows n fun j => if j < i then out j else w j))
              [(5, .ptr (some ⟨8, 0, 0, 0, 2⟩)), (6, .slice (some ⟨12, 0, 0, 0, 4⟩) n n), (9, .int .i64 y), (10, .int .i64 x), (80, .slice (some ⟨12, 0, 0, 0, 4⟩) n n), (81, .int .i64 n), (82, .int .i64 i)] (AHeap.rows 13 [(0, b), (8, brdRow C none 0 0), (12, .made (qrows n fun j => if j < i then out j else w j) 4 true)]) :=
            Ent.drop (by kernel_rfl) (by kernel_rfl) (by kernel_rfl) (by kernel_rfl) (by simp [All_cons, All_nil, Clo]; simp [Ids]) (by
              simp only [List.map, All_cons, All_nil, and_true]
              exact ⟨hb.clo _, brd_cloI (by simp [Clo]), (qrows_bare _ _).clo _⟩)
          exact Tri.pre (Loops.step (st.post (i := fx_mv hn hC hb hw (N := 49) (by omega) y x (i + 1) r _ (by kernel_rfl))) l) pre
        | succ k0 =>
          have bd : BoardAt (AHeap.rows 38 [(0, b), (8, brdRow C (some ⟨13, k0, 0, 0, 4⟩) (k0 + 1) (k0 + 1)), (12, .made (qrows n fun j => if j < i then out j else w j) 4 true), (13, tRow T), (18, .made [(w i).val] 4 true)]) 8 13 C (some ⟨13, k0, 0, 0, 4⟩) (k0 + 1) (k0 + 1) k0 (tRow T) T := ⟨by kernel_rfl, by kernel_rfl, .inl rfl, by decide, by rw [AHeap.rows_next]; omega, by rw [AHeap.rows_next]; omega, tRow_bare _, hc, tRow_el hc⟩
          obtain ⟨r, r1, r2⟩ := across_does bd g1 hC.2 hM (by omega) sw n3.1
          obtain ⟨o2, q1, l⟩ := ih r r1
          rw [hc] at l
          refine ⟨o2, q1, ?_⟩
          have st := fx_ac_grow n k0 (k0 + 1) i C b (tRow T) (tRow (T ++ [r])) _ y x (w i).a (w i).b (w i).c (w i).d r.a r.b r.c r.d c1 c5 c6 ha hbb r2 c5 ⟨rfl, rg⟩ ((tAppG hc (by omega) r _ _ _ (by kernel_rfl) (by kernel_rfl)).trans (by kernel_rfl)) f5
          rw [es r] at st
          exact Loops.step (st.post (i := back (T ++ [r]) (k0 + 1 + 1) y x _ (by kernel_rfl))) l
      · -- behind
        have fx : ¬ fixedZ (w i) = true := fun h => ha ((fixedZ_iff _).1 h).1
        have ih : ∀ r : Qd, BehindZ T C (w i) y x r → ∃ o2, FlowZ C n w o2 ∧ Loops Try.prog 1 135 (loopAt Try.prog 13 1) [(5, .ptr (some ⟨8, 0, 0, 0, 2⟩)), (6, .slice (some ⟨12, 0, 0, 0, 4⟩) n n), (9, .int .i64 r.b), (10, .int .i64 r.a), (80, .slice (some ⟨12, 0, 0, 0, 4⟩) n n), (81, .int .i64 n), (82, .int .i64 (i + 1 : Nat))]
            (stH 14 b C (T ++ [r]) (T.length + 1) (qrows n fun j => if j < i + 1 then (if j = i then r else out j) else w j)) (.exit 2) [(6, .slice (some ⟨12, 0, 0, 0, 4⟩) n n)] (AHeap.rows 15 [(0, b), (12, .made (qrows n o2) 4 true)]) := fun r hr => by
          obtain ⟨m1, m2, m3⟩ := nxt r (by unfold PlaceZ; rw [if_neg fx, if_neg hbb, if_neg ha]; exact hr)
          have := fx_loop f (i + 1) (fun j => if j = i then r else out j) (T ++ [r]) r.b r.a (by omega) m1 (by simp only [takenL]; rw [if_neg fx, m2, if_pos trivial]) (by simp only [curZ]; rw [if_pos ⟨by omega, by omega⟩, if_pos trivial])
          rwa [show (T ++ [r]).length = T.length + 1 by simp] at this
        cases hc : T.length with
        | zero =>
          have t0 : T = [] := List.eq_nil_of_length_eq_zero hc
          have bd : BoardAt (AHeap.rows 43 [(0, b), (8, brdRow C none 0 0), (12, .made (qrows n fun j => if j < i then out j else w j) 4 true), (17, .made [(w i).val] 4 true)]) 8 0 C none 0 0 0 b T := ⟨by kernel_rfl, by kernel_rfl, .inr ⟨rfl, rfl, rfl⟩, by decide, by rw [AHeap.rows_next]; omega, by rw [AHeap.rows_next]; omega, hb, hc, fun j t h => by rw [t0] at h; simp at h⟩
          obtain ⟨r, r1, r2⟩ := behind_does bd g1 hC.2 hM (by omega) sw n3 g2 g3x
          obtain ⟨o2, q1, l⟩ := ih r r1
          subst t0
          refine ⟨o2, q1, ?_⟩
          have st := fx_bh_new n 0 0 i C b b (tRow [r]) _ y x (w i).a (w i).b (w i).c (w i).d r.a r.b r.c r.d c1 c5 c6 ha hbb ha r2 c5 ⟨rfl, rg⟩ ((tApp1 r _ _ _ (by kernel_rfl)).trans (by kernel_rfl)) f5
          rw [es r] at st
          have pre : Ent 1 135 [(5, .ptr (some ⟨8, 0, 0, 0, 2⟩)), (6, .slice (some ⟨12, 0, 0, 0, 4⟩) n n), (9, .int .i64 y), (10, .int .i64 x), (80, .slice (some ⟨12, 0, 0, 0, 4⟩) n n), (81, .int .i64 n), (82, .int .i64 i)] (stH 14 b C [] 0 (qrows n fun j => if j < i then out j else w j))
              [(5, .ptr (some ⟨8, 0, 0, 0, 2⟩)), (6, .slice (some ⟨12, 0, 0, 0, 4⟩) n n), (9, .int .i64 y), (10, .int .i64 x), (80, .slice (some ⟨12, 0, 0, 0, 4⟩) n n), (81, .int .i64 n), (82, .int .i64 i)] (AHeap.rows 13 [(0, b), (8, brdRow C none 0 0), (12, .made (qrows n fun j => if j < i then out j else w j) 4 true)]) :=
            Ent.drop (by kernel_rfl) (by kernel_rfl) (by kernel_rfl) (by kernel_rfl) (by simp [All_cons, All_nil, Clo]; simp [Ids]) (by
              simp only [List.map, All_cons, All_nil, and_true]
              exact ⟨hb.clo _, brd_cloI (by simp [Clo]), (qrows_bare _ _).clo _⟩)
          exact Tri.pre (Loops.step (st.post (i := fx_mv hn hC hb hw (N := 61) (by omega) r.b r.a (i + 1) r _ (by kernel_rfl))) l) pre
        | succ k0 =>
          have bd : BoardAt (AHeap.rows 44 [(0, b), (8, brdRow C (some ⟨13, k0, 0, 0, 4⟩) (k0 + 1) (k0 + 1)), (12, .made (qrows n fun j => if j < i then out j else w j) 4 true), (13, tRow T), (18, .made [(w i).val] 4 true)]) 8 13 C (some ⟨13, k0, 0, 0, 4⟩) (k0 + 1) (k0 + 1) k0 (tRow T) T := ⟨by kernel_rfl, by kernel_rfl, .inl rfl, by decide, by rw [AHeap.rows_next]; omega, by rw [AHeap.rows_next]; omega, tRow_bare _, hc, tRow_el hc⟩
          obtain ⟨r, r1, r2⟩ := behind_does bd g1 hC.2 hM (by omega) sw n3 g2 g3x
          obtain ⟨o2, q1, l⟩ := ih r r1
          rw [hc] at l
          refine ⟨o2, q1, ?_⟩
          have st := fx_bh_grow n k0 (k0 + 1) i C b (tRow T) (tRow (T ++ [r])) _ y x (w i).a (w i).b (w i).c (w i).d r.a r.b r.c r.d c1 c5 c6 ha hbb ha r2 c5 ⟨rfl, rg⟩ ((tAppG hc (by omega) r _ _ _ (by kernel_rfl) (by kernel_rfl)).trans (by kernel_rfl)) f5
          rw [es r] at st
          exact Loops.step (st.post (i := back (T ++ [r]) (k0 + 1 + 1) r.b r.a _ (by kernel_rfl))) l
end

end Go.Proofs.Ytcgcpmcjaeenlaa

namespace Go.Proofs.Ytcgcpmcjaeenlaa
open Go.Lift
set_option maxRecDepth 1000000
set_option linter.unusedSimpArgs false
set_option linter.unusedVariables false
set_option linter.unusedSectionVars false

/-- how many spans are told -/
def flen (n : Nat) : Nat := if 4096 < n then 0 else n
theorem colsZ_range (cols : Int) : 1 ≤ colsZ cols ∧ colsZ cols ≤ 64 := by unfold colsZ; omega

/-- what grid.Flow tells of a list -/
def FlowsTo (n : Nat) (src : Nat → Qd) (cols : Int) (out : Nat → Qd) : Prop := FlowZ (colsZ cols) (flen n) (fun j => normZ (colsZ cols) (src j)) out

theorem flow_does {H : AHeap} {o : Option AAddr} {n c id ver off : Nat} {b : ABlk} {src : Nat → Qd} (h : QdsAt H o n c id ver off b src) (cols : Int) (hn : n ≤ 4096) :
    ∃ out, FlowZ (colsZ cols) n (fun j => normZ (colsZ cols) (src j)) out ∧ FDoes Try.prog 13 [.slice o n c, .int .i64 cols] H (.slice (some ⟨H.next, 0, 0, 0, 4⟩) n n) (H.upd [] [.made (qrows n out) 4 true]) := by
  have s1 := h.sl.at 0
  have cr := colsZ_range cols
  obtain ⟨C, hC⟩ : ∃ C : Nat, (C : Int) = colsZ cols := ⟨(colsZ cols).toNat, by omega⟩
  rw [← hC]
  have hC2 : 1 ≤ C ∧ C ≤ 64 := by omega
  obtain ⟨k, hk, l1⟩ := fl_loop hn hC2 s1 h.bare h.el n 0 [] (by omega) rfl (Nat.le_refl _)
  obtain ⟨out, fo, l2⟩ := fx_loop hn hC2 h.bare (w := fun j => normZ C (src j)) (fun j _ => normZ_ok (by omega) _) n 0 (fun _ => Qd0) (fixedL (fun j => normZ C (src j)) n) 0 0 (by omega) (fun j hj => by omega) rfl rfl
  refine ⟨out, fo, ?_⟩
  rw [hk] at l2
  rw [show (qrows n fun j => if j < 0 then normZ C (src j) else Qd0) = List.replicate n Qd0.val from (qrows_zero2 _ _).symm] at l1
  rw [show (qrows n fun j => if j < 0 then Qd0 else normZ C (src j)) = (qrows n fun j => normZ C (src j)) from qrows_congr fun j _ => by rw [if_neg (by omega)]] at l2
  have d0 : Clo (Ids [0, 8, 12]) (.slice (o.map fun a => { a with id := 0 }) n c) := s1.clo (by simp [Ids])
  have p1 : Ent 1 135 [(5, .ptr (some ⟨8, 0, 0, 0, 2⟩)), (6, .slice (some ⟨12, 0, 0, 0, 4⟩) n n), (23, .slice (o.map fun a => { a with id := 0 }) n c), (24, .int .i64 n), (25, .int .i64 (0 : Nat))] (AHeap.rows 17 [(0, b), (8, brdRow C none 0 0), (12, .made (List.replicate n Qd0.val) 4 true)])
      [(5, .ptr (some ⟨8, 0, 0, 0, 2⟩)), (6, .slice (some ⟨12, 0, 0, 0, 4⟩) n n), (23, .slice (o.map fun a => { a with id := 0 }) n c), (24, .int .i64 n), (25, .int .i64 (0 : Nat))] (AHeap.rows 13 [(0, b), (8, brdRow C none 0 0), (12, .made (List.replicate n Qd0.val) 4 true)]) :=
    Ent.drop (by kernel_rfl) (by kernel_rfl) (by kernel_rfl) (by kernel_rfl) (by simp [All_cons, All_nil, Clo, d0]; simp [Ids]) (by
      simp only [List.map, All_cons, All_nil, and_true]
      exact ⟨h.bare.clo _, brd_cloI (by simp [Clo]), by rw [qrows_zero]; exact (qrows_bare _ _).clo _⟩)
  have p2 : Ent 1 135 [(5, .ptr (some ⟨8, 0, 0, 0, 2⟩)), (6, .slice (some ⟨12, 0, 0, 0, 4⟩) n n), (23, .slice (o.map fun a => { a with id := 0 }) n c), (24, .int .i64 n), (25, .int .i64 (0 : Nat))] (AHeap.rows 13 [(0, b), (8, brdRow C none 0 0), (12, .made (List.replicate n Qd0.val) 4 true)])
      [(5, .ptr (some ⟨8, 0, 0, 0, 2⟩)), (6, .slice (some ⟨12, 0, 0, 0, 4⟩) n n), (23, .slice (o.map fun a => { a with id := 0 }) n c), (24, .int .i64 n), (25, .int .i64 (0 : Nat))] (stH 14 b C [] 0 (List.replicate n Qd0.val)) :=
    Ent.more (l2 := [(13, tRow [])]) (by kernel_rfl) (by kernel_rfl)
  have p3 : Ent 1 135 [(5, .ptr (some ⟨8, 0, 0, 0, 2⟩)), (6, .slice (some ⟨12, 0, 0, 0, 4⟩) n n), (9, .int .i64 0), (10, .int .i64 0), (80, .slice (some ⟨12, 0, 0, 0, 4⟩) n n), (81, .int .i64 n), (82, .int .i64 (0 : Nat))] (stH 20 b C (fixedL (fun j => normZ C (src j)) n) k (qrows n fun j => normZ C (src j)))
      [(5, .ptr (some ⟨8, 0, 0, 0, 2⟩)), (6, .slice (some ⟨12, 0, 0, 0, 4⟩) n n), (9, .int .i64 0), (10, .int .i64 0), (80, .slice (some ⟨12, 0, 0, 0, 4⟩) n n), (81, .int .i64 n), (82, .int .i64 (0 : Nat))] (stH 14 b C (fixedL (fun j => normZ C (src j)) n) k (qrows n fun j => normZ C (src j))) :=
    Ent.drop (by kernel_rfl) (by kernel_rfl) (by kernel_rfl) (by kernel_rfl) (by simp [All_cons, All_nil, Clo]; simp [Ids]) (by
      simp only [List.map, All_cons, All_nil, and_true]
      exact ⟨h.bare.clo _, brd_cloI (tSl_clo (by simp [Ids])), (qrows_bare _ _).clo _, (tRow_bare _).clo _⟩)
  have wi := gwithin_does cols 1 64 (AHeap.rows 10 [(0, b)])
  rw [show min (max cols 1) 64 = (C : Int) from hC.symm] at wi
  have kk := (fl_call _ n c C b (tRow (fixedL (fun j => normZ C (src j)) n)) _ _ cols (.slice (tSlN k) k k) (.slice (tSlN k) k k) (by omega) wi ⟨by omega, by omega, by omega, by omega⟩ (Runs.of_loops (Tri.pre l1 (p1.trans p2))) (Runs.of_loops (Tri.pre l2 p3))).new1 (bn := .made (qrows n out) 4 true)
    (by simp [h.bare]) (qrows_bare _ _) (by kernel_rfl) (by kernel_rfl) (by simp) (by simp [Clos, Clo, s1.clo]) (H := H) [id] (by simp) (by simp [h.lt]) (by simp [h.get])
  simpa [h.sl.back (id' := 0) (r := toBig [id] H.next) rfl, AVal.ren] using kk

theorem flow_any {H : AHeap} {o : Option AAddr} {n c id ver off : Nat} {b : ABlk} {src : Nat → Qd} (h : QdsAt H o n c id ver off b src) (cols : Int) {N : Nat} (hN : H.next = N) :
    ∃ (o' : Option AAddr) (c' : Nat) (out : Nat → Qd), SlArg o' (flen n) c' N 0 0 4 ∧ c' = flen n ∧ FlowsTo n src cols out ∧ FDoes Try.prog 13 [.slice o n c, .int .i64 cols] H (.slice o' (flen n) c') (H.upd [] [.made (qrows (flen n) out) 4 true]) := by
  subst hN
  unfold FlowsTo
  by_cases hn : 4096 < n
  · have e : flen n = 0 := by unfold flen; rw [if_pos hn]
    rw [e]
    have s1 := h.sl.at 0
    have kk := (fl_nil (o.map fun a => { a with id := 0 }) n c 0 b b [] [] cols (.int .i64 0) (.int .i64 0) (by omega)).pure (by simp [h.bare]) (by kernel_rfl) ⟨fun r => rfl, trivial⟩ (by simp [Clos, Clo, s1.clo]) (H := H) [id] (by simp) (by simp [h.lt]) (by simp [h.get])
    have k2 : FDoes Try.prog 13 [.slice o n c, .int .i64 cols] H (.slice none 0 0) H := by
      simpa [h.sl.back (id' := 0) (r := toBig [id] H.next) rfl, AVal.ren] using kk
    exact ⟨none, 0, fun _ => Qd0, .inr ⟨rfl, rfl, rfl⟩, rfl, fun i hi => by omega, k2.pad1 _⟩
  · have e : flen n = n := by unfold flen; rw [if_neg hn]
    rw [e]
    obtain ⟨out, fo, k⟩ := flow_does h cols (by omega)
    exact ⟨some ⟨H.next, 0, 0, 0, 4⟩, n, out, .inl rfl, rfl, fo, k⟩

end Go.Proofs.Ytcgcpmcjaeenlaa

namespace Go.Proofs.Ytcgcpmcjaeenlaa
open Go.Lift
set_option maxRecDepth 1000000
set_option linter.unusedSimpArgs false
set_option linter.unusedVariables false
set_option linter.unusedSectionVars false

/-! rows of pairs -/

structure Pr2 where
  a : Int
  b : Int

def Pr2.val (t : Pr2) : AVal := .agg [.int .i64 t.a, .int .i64 t.b]
structure Pr2.Fits (t : Pr2) : Prop where
  a : Fit64 t.a
  b : Fit64 t.b

theorem pr_cells (v : Nat → Value) (h : ∀ j, j < 2 → ∃ k, ([.int .i64, .int .i64] : List TK)[j]? = some k ∧ CellIs k (v j)) : ∃ t : Pr2, (List.range 2).map (fun j => ofScalar (v j)) = [.int .i64 t.a, .int .i64 t.b] ∧ t.Fits := by
  have g : ∀ j k, j < 2 → ([.int .i64, .int .i64] : List TK)[j]? = some k → CellIs k (v j) := by
    intro j k hj hk
    obtain ⟨k', h1, h2⟩ := h j hj
    rw [hk] at h1; simp only [Option.some.injEq] at h1; subst h1; exact h2
  have h0 := (g 0 _ (by omega) rfl).int
  have h1 := (g 1 _ (by omega) rfl).int
  refine ⟨⟨numA (ofScalar (v 0)), numA (ofScalar (v 1))⟩, ?_, wf_fit h0.2, wf_fit h1.2⟩
  show [ofScalar (v 0), ofScalar (v 1)] = _
  rw [← h0.1, ← h1.1]

theorem pairs_of {W : World} {x : Addr} {len : Nat} {b : ABlk} (hx : ∀ i, i < len → b.elem? 0 (0 + i) = some (elemAt W x true 2 i)) (he : ∀ i j, i < len → j < 2 → ∃ k, ([.int .i64, .int .i64] : List TK)[j]? = some k ∧ CellIs k (cellAt W x (i * 2 + j))) :
    ∃ src : Nat → Pr2, (∀ i, i < len → b.elem? 0 (0 + i) = some (src i).val) ∧ ∀ i, i < len → (src i).Fits := by
  have h : ∀ i, ∃ t : Pr2, i < len → elemAt W x true 2 i = t.val ∧ t.Fits := by
    intro i
    by_cases c : i < len
    · obtain ⟨t, h1, h2⟩ := pr_cells (fun j => cellAt W x (i * 2 + j)) (fun j hj => he i j c hj)
      refine ⟨t, fun _ => ⟨?_, h2⟩⟩
      show AVal.agg _ = AVal.agg _
      rw [h1]
    · exact ⟨⟨0, 0⟩, fun h => absurd h c⟩
  refine ⟨fun i => Classical.choose (h i), fun i hi => ?_, fun i hi => (Classical.choose_spec (h i) hi).2⟩
  rw [hx i hi, (Classical.choose_spec (h i) hi).1]

theorem vrel_le {φ : Map} {o : Option AAddr} {n c : Nat} {v : Value} (h : VRel φ (.slice o n c) v) : n ≤ c := by
  cases o with
  | none => simp only [VRel] at h; omega
  | some a => simp only [VRel] at h; obtain ⟨_, _, _, h, _⟩ := h; exact h

theorem slPair : SlTy env.D 47 48 2 16 := by
  have h1 : (env.D 48).isSome = true := by kernel_rfl
  have h2 : (env.D 48).map (fun x => (x.size, x.bytes, x.zeroFits)) = some (2, 16, true) := by kernel_rfl
  obtain ⟨xd, hx⟩ := Option.isSome_iff_exists.1 h1
  rw [hx] at h2
  simp only [Option.map_some, Option.some.injEq, Prod.mk.injEq] at h2
  exact ⟨⟨⟨.slice 48, 1, 24, some (.slice none 0 0)⟩, xd, by kernel_rfl, rfl, hx, h2.1, h2.2.1, by omega, h2.2.2⟩⟩
theorem ix_prS {o : Option AAddr} {n c id ver off : Nat} (h : SlArg o n c id ver off 2) {k : IntKind} {i : Nat} (hi : i < n) :
    aindexAddr env.D 47 (.slice o n c) (.int k i) = some (.ptr (some ⟨id, ver, off + i, 0, 2⟩)) := by
  obtain ⟨d, xd, t1, t2, t3, t4, t5, t6, t7⟩ := slPair.ty
  have := h.index (D := env.D) (t := 47) (e := 48) (d := d) (xd := xd) t1 t2 t3 t4.symm (k := k) (i := (i : Int)) (by omega) (by omega)
  simpa using this

/-! spans that say nothing of their place -/

def AnyW (C : Int) (n : Nat) (w : Nat → Qd) : Prop := ∀ j, j < n → NormZ C (w j) ∧ (w j).a = -1 ∧ (w j).b = -1

theorem any_fixed {C : Int} {w : Nat → Qd} : ∀ {n : Nat}, AnyW C n w → fixedL w n = []
  | 0, _ => rfl
  | n + 1, h => by
    have e := h n (by omega)
    have : fixedZ (w n) = false := by unfold fixedZ; rw [decide_eq_false]; omega
    simp only [fixedL, this]
    exact any_fixed (fun j hj => h j (by omega))

theorem any_taken {C : Int} {n : Nat} {w out : Nat → Qd} (h : AnyW C n w) : ∀ {i : Nat}, i ≤ n → takenL w out n i = (List.range i).map out
  | 0, _ => any_fixed h
  | i + 1, hi => by
    have e := h i (by omega)
    have : fixedZ (w i) = false := by unfold fixedZ; rw [decide_eq_false]; omega
    simp only [takenL, this]
    rw [any_taken h (by omega), List.range_succ, List.map_append]
    rfl

theorem any_at {C : Int} {n : Nat} {w out : Nat → Qd} (h : AnyW C n w) (hf : FlowZ C n w out) {i : Nat} (hi : i < n) : BehindZ ((List.range i).map out) C (w i) (curZ w out i).1 (curZ w out i).2 (out i) := by
  have e := h i hi
  have := hf i hi
  unfold PlaceZ at this
  have f : fixedZ (w i) = false := by unfold fixedZ; rw [decide_eq_false]; omega
  rw [f, if_neg (by decide), if_neg (by omega), if_neg (by omega), any_taken h (by omega)] at this
  exact this

theorem freeMap {i : Nat} {out : Nat → Qd} {s : Qd} : FreeZ ((List.range i).map out) s ↔ ∀ k, k < i → ¬ MeetsZ (out k) s := by
  unfold FreeZ
  constructor
  · intro h k hk
    exact h _ (List.mem_map.2 ⟨k, List.mem_range.2 hk, rfl⟩)
  · intro h t ht
    obtain ⟨k, hk, rfl⟩ := List.mem_map.1 ht
    exact h k (List.mem_range.1 hk)

theorem any_apart {C : Int} {n : Nat} {w out : Nat → Qd} (h : AnyW C n w) (hf : FlowZ C n w out) {i : Nat} (hi : i < n) : ∀ k, k < i → ¬ MeetsZ (out k) (out i) := by
  obtain ⟨y, x, e, h1, h2, h3, h4, h5⟩ := any_at h hf hi
  exact freeMap.1 h4

theorem FlowZ.lies {cols : Int} {n : Nat} {w out : Nat → Qd} (hw : ∀ j, j < n → NormZ cols (w j)) (h : FlowZ cols n w out) {i : Nat} (hi : i < n) : 0 ≤ (out i).a ∧ (out i).a + (out i).c ≤ cols ∧ 0 ≤ (out i).b ∧ (out i).c = (w i).c ∧ (out i).d = (w i).d ∧ (out i).b + (out i).d ≤ downM i + 4097 := by
  obtain ⟨g1, g2, g3⟩ := FlowZ.good hw h i (by omega)
  have := place_good g1 (show 8192 ≤ downM i by unfold downM; omega) g2 (hw i hi) (h i hi)
  exact ⟨this.1, this.2.1, this.2.2.1, this.2.2.2.1, this.2.2.2.2.1, this.2.2.2.2.2.1⟩

end Go.Proofs.Ytcgcpmcjaeenlaa

namespace Go.Proofs.Ytcgcpmcjaeenlaa
open Go.Lift
set_option maxRecDepth 1000000
set_option linter.unusedSimpArgs false
set_option linter.unusedVariables false
set_option linter.unusedSectionVars false

theorem lround_neg (k n : Int) (hc_0 : n ≠ 0) (hc_1 : Int.tmod k n < 0) (hc_2 : -9223372036854775808 ≤ Int.tmod k n + n ∧ Int.tmod k n + n ≤ 9223372036854775807) :
    FDoes Try.prog 24 [.int .i64 k, .int .i64 n] (⟨0, .nil⟩) (.int .i64 (Int.tmod k n + n)) (AHeap.rows 13 []) :=
  pcall_does env_ok mixed (hs := [.go 1002, .val 2001 (.bool true), .go 3002]) (rs := []) (by kernel_rfl) (All.cons hc_0 (All.cons (okT hc_1) (All.cons hc_2 (All.nil))))

theorem lround_pos (k n : Int) (hc_0 : n ≠ 0) (hc_1 : ¬ (Int.tmod k n < 0)) :
    FDoes Try.prog 24 [.int .i64 k, .int .i64 n] (⟨0, .nil⟩) (.int .i64 (Int.tmod k n)) (AHeap.rows 9 []) :=
  pcall_does env_ok mixed (hs := [.go 1002, .val 2001 (.bool false)]) (rs := []) (by kernel_rfl) (All.cons hc_0 (All.cons (okF hc_1) (All.nil)))

theorem ends_first (o : Option AAddr) (n c ver off i : Nat) (b : ABlk) (g x s : Int) (hc_0 : (i : Int) < (n : Int)) (hc_1 : aindexAddr env.D 32 (.slice o n c) (.int .i64 (i : Int)) = some (.ptr (some ⟨0, ver, off + i, 0, 1⟩))) (hc_2 : ABlk.elem? b ver (off + i) = some (.int .i64 x)) (hc_3 : (-9223372036854775808 ≤ s + if 4096 < if 0 > x then 0 else x then 4096 else if 0 > x then 0 else x) ∧ (s + if 4096 < if 0 > x then 0 else x then 4096 else if 0 > x then 0 else x) ≤ 9223372036854775807) (hc_4 : ¬ ((i : Int) > 0)) (hc_5 : -9223372036854775808 ≤ (i : Int) + 1 ∧ (i : Int) + (1 : Int) ≤ 9223372036854775807) :
    Runs Try.prog 1 31 (loopAt Try.prog 25 0) [(0, .slice o n c), (5, .int .i64 g), (6, .int .i64 s), (7, .int .i64 i)] (AHeap.rows 10 [(0, b)]) .normal [(0, .slice o n c), (5, .int .i64 g), (6, .int .i64 (s + if 4096 < if 0 > x then 0 else x then 4096 else if 0 > x then 0 else x)), (7, .int .i64 ((i : Int) + 1))] (AHeap.rows 28 [(0, b)]) :=
  ppath_runs env_ok mixed (hs := [.val 4003 (.bool true), .val 6003 (.ptr (some ⟨0, ver, off + i, 0, 1⟩)), .ld 6004 (.int .i64 x), .go 6007, .val 7001 (.bool false), .go 5001]) (keep := [0, 5, 6, 7]) (by kernel_rfl) (All.cons (okT hc_0) (All.cons hc_1 (All.cons hc_2 (All.cons hc_3 (All.cons (okF hc_4) (All.cons hc_5 (All.nil)))))))

theorem ends_more (o : Option AAddr) (n c ver off i : Nat) (b : ABlk) (g x s : Int) (hc_0 : (i : Int) < (n : Int)) (hc_1 : aindexAddr env.D 32 (.slice o n c) (.int .i64 (i : Int)) = some (.ptr (some ⟨0, ver, off + i, 0, 1⟩))) (hc_2 : ABlk.elem? b ver (off + i) = some (.int .i64 x)) (hc_3 : (-9223372036854775808 ≤ s + if 4096 < if 0 > x then 0 else x then 4096 else if 0 > x then 0 else x) ∧ (s + if 4096 < if 0 > x then 0 else x then 4096 else if 0 > x then 0 else x) ≤ 9223372036854775807) (hc_4 : (i : Int) > 0) (hc_5 : -9223372036854775808 ≤ (s + if 4096 < if 0 > x then 0 else x then 4096 else if 0 > x then 0 else x) + g ∧ (s + if 4096 < if 0 > x then 0 else x then 4096 else if 0 > x then 0 else x) + g ≤ 9223372036854775807) (hc_6 : -9223372036854775808 ≤ (i : Int) + 1 ∧ (i : Int) + (1 : Int) ≤ 9223372036854775807) :
    Runs Try.prog 1 31 (loopAt Try.prog 25 0) [(0, .slice o n c), (5, .int .i64 g), (6, .int .i64 s), (7, .int .i64 i)] (AHeap.rows 10 [(0, b)]) .normal [(0, .slice o n c), (5, .int .i64 g), (6, .int .i64 ((s + if 4096 < if 0 > x then 0 else x then 4096 else if 0 > x then 0 else x) + g)), (7, .int .i64 ((i : Int) + 1))] (AHeap.rows 32 [(0, b)]) :=
  ppath_runs env_ok mixed (hs := [.val 4003 (.bool true), .val 6003 (.ptr (some ⟨0, ver, off + i, 0, 1⟩)), .ld 6004 (.int .i64 x), .go 6007, .val 7001 (.bool true), .go 8002, .go 5001]) (keep := [0, 5, 6, 7]) (by kernel_rfl) (All.cons (okT hc_0) (All.cons hc_1 (All.cons hc_2 (All.cons hc_3 (All.cons (okT hc_4) (All.cons hc_5 (All.cons hc_6 (All.nil))))))))

theorem ends_end (o : Option AAddr) (n c ver off i : Nat) (b : ABlk) (g x s : Int) (hc_0 : ¬ ((i : Int) < (n : Int))) :
    Runs Try.prog 1 31 (loopAt Try.prog 25 0) [(0, .slice o n c), (5, .int .i64 g), (6, .int .i64 s), (7, .int .i64 i)] (AHeap.rows 10 [(0, b)]) (.exit 0) [(6, .int .i64 s)] (AHeap.rows 14 [(0, b)]) :=
  ppath_runs env_ok mixed (hs := [.val 4003 (.bool false)]) (keep := [6]) (by kernel_rfl) (All.cons (okF hc_0) (All.nil))

theorem ends_call (o : Option AAddr) (n c ver off i : Nat) (b : ABlk) (g x s : Int) (hc_0 : Runs Try.prog 1 31 (.loop (loopAt Try.prog 25 0)) [(0, .slice o n c), (5, .int .i64 (if 4096 < if 0 > g then 0 else g then 4096 else if 0 > g then 0 else g)), (6, .int .i64 0), (7, .int .i64 0)] (AHeap.rows 8 [(0, b)]) (.exit 0) [(6, .int .i64 s)] (AHeap.rows 10 [(0, b)])) :
    FDoes Try.prog 25 [.slice o n c, .int .i64 g] (AHeap.of [b]) (.int .i64 s) (AHeap.rows 12 [(0, b)]) :=
  pcall_does env_ok mixed (hs := [.keep [0, 5, 6, 7], .loop [(6, .int .i64 s)] (AHeap.rows 10 [(0, b)]) (.exit 0)]) (rs := []) (by kernel_rfl) (All.cons hc_0 (All.nil))

end Go.Proofs.Ytcgcpmcjaeenlaa

namespace Go.Proofs.Ytcgcpmcjaeenlaa
open Go.Lift
set_option maxRecDepth 1000000
set_option linter.unusedSimpArgs false
set_option linter.unusedVariables false
set_option linter.unusedSectionVars false

/-- a number as one from 0 to n - 1 -/
def roundZ (k n : Int) : Int := if Int.tmod k n < 0 then Int.tmod k n + n else Int.tmod k n
theorem tmod_range (k : Int) {n : Int} (h : 0 < n) : -n < Int.tmod k n ∧ Int.tmod k n < n := by
  refine ⟨?_, Int.tmod_lt_of_pos k h⟩
  have := Int.tmod_lt_of_pos (-k) h
  rw [Int.neg_tmod] at this
  omega
theorem lround_does (k n : Int) (h : 0 < n ∧ n ≤ 4096) (H : AHeap) : FDoes Try.prog 24 [.int .i64 k, .int .i64 n] H (.int .i64 (roundZ k n)) H := by
  have t := tmod_range k h.1
  have hb : ∀ a, a ∈ [AVal.int .i64 k, AVal.int .i64 n] → Bare a := by simp [Bare.int]
  unfold roundZ
  by_cases c : Int.tmod k n < 0
  · rw [if_pos c]
    exact (lround_neg k n (by omega) c (by omega)).bare hb (Bare.int _ _) H
  · rw [if_neg c]
    exact (lround_pos k n (by omega) c).bare hb (Bare.int _ _) H

/-- where the last one of i tracks ends -/
def endZ (x : Nat → Int) (g : Int) (i : Nat) : Int := if i = 0 then 0 else atZ x g i - g
theorem endZ_range (x : Nat → Int) {g : Int} (hg : 0 ≤ g ∧ g ≤ 4096) (i : Nat) : -4096 ≤ endZ x g i ∧ endZ x g i ≤ 8192 * i := by
  have := atZ_range x hg i
  unfold endZ; split <;> omega
theorem endZ_zero (x : Nat → Int) (g : Int) : endZ x g 0 = 0 := rfl
theorem endZ_one (x : Nat → Int) (g : Int) : endZ x g 1 = sideZ (x 0) := by
  show atZ x g 1 - g = _
  rw [atZ_succ, show atZ x g 0 = 0 from rfl]; omega
theorem endZ_succ (x : Nat → Int) (g : Int) {i : Nat} (h : 0 < i) : endZ x g (i + 1) = endZ x g i + sideZ (x i) + g := by
  unfold endZ
  rw [if_neg (by omega), if_neg (by omega), atZ_succ]; omega

section
variable {n : Nat} (hn : n ≤ 4096) {o : Option AAddr} {c ver off : Nat} {b : ABlk} (hs : SlArg o n c 0 ver off 1) (hb : BareB b) {x : Nat → Int} (hel : ∀ j, j < n → b.elem? ver (off + j) = some (.int .i64 (x j))) {g : Int} (hg : 0 ≤ g ∧ g ≤ 4096)
include hn hs hb hel hg
theorem ends_loop : ∀ (f i : Nat), i + f = n →
    Loops Try.prog 1 31 (loopAt Try.prog 25 0) [(0, .slice o n c), (5, .int .i64 g), (6, .int .i64 (endZ x g i)), (7, .int .i64 i)] (AHeap.rows 10 [(0, b)]) (.exit 0) [(6, .int .i64 (endZ x g n))] (AHeap.rows 14 [(0, b)])
  | 0, i, e => by
    obtain rfl : i = n := by omega
    exact Loops.last (by simp) (ends_end o i c ver off i b g 0 _ (by omega))
  | f + 1, i, e => by
    have d0 : Clo (Ids [0]) (.slice o n c) := hs.clo (by simp [Ids])
    have r := endZ_range x hg i
    have sd : (if 4096 < if 0 > x i then 0 else x i then 4096 else if 0 > x i then 0 else x i) = sideZ (x i) := by unfold sideZ; omega
    have s := sideZ_range (x i)
    cases i with
    | zero =>
      have st := ends_first o n c ver off 0 b g (x 0) (endZ x g 0) (by omega) (ix_intN hs (by omega)) (hel 0 (by omega)) (by rw [sd]; omega) (by omega) (by omega)
      rw [sd, show endZ x g 0 + sideZ (x 0) = endZ x g (0 + 1) by rw [endZ_one, endZ_zero]; omega] at st
      refine Loops.round st ?_ (ends_loop f (0 + 1) (by omega))
      exact Ent.drop (by kernel_rfl) (by kernel_rfl) (by kernel_rfl) (by kernel_rfl) (by simp [All_cons, All_nil, Clo, d0]) (by simp only [List.map, All_cons, All_nil, and_true]; exact hb.clo _)
    | succ p =>
      have st := ends_more o n c ver off (p + 1) b g (x (p + 1)) (endZ x g (p + 1)) (by omega) (ix_intN hs (by omega)) (hel _ (by omega)) (by rw [sd]; omega) (by omega) (by rw [sd]; omega) (by omega)
      rw [sd, ← endZ_succ x g (by omega)] at st
      refine Loops.round st ?_ (ends_loop f (p + 1 + 1) (by omega))
      exact Ent.drop (by kernel_rfl) (by kernel_rfl) (by kernel_rfl) (by kernel_rfl) (by simp [All_cons, All_nil, Clo, d0]) (by simp only [List.map, All_cons, All_nil, and_true]; exact hb.clo _)
end

theorem ends_does {H : AHeap} {o : Option AAddr} {n c id ver off : Nat} {b : ABlk} {x : Nat → Int} (h : IntsAt H o n c id ver off b x) (hn : n ≤ 4096) (gap : Int) :
    FDoes Try.prog 25 [.slice o n c, .int .i64 gap] H (.int .i64 (endZ x (sideZ gap) n)) H := by
  have s0 := h.sl.at 0
  have sd : (if 4096 < if 0 > gap then 0 else gap then 4096 else if 0 > gap then 0 else gap) = sideZ gap := by unfold sideZ; omega
  have d0 : Clo (Ids [0]) (.slice (o.map fun a => { a with id := 0 }) n c) := s0.clo (by simp [Ids])
  have p : Ent 1 31 [(0, .slice (o.map fun a => { a with id := 0 }) n c), (5, .int .i64 (sideZ gap)), (6, .int .i64 (0 : Int)), (7, .int .i64 (0 : Nat))] (AHeap.rows 8 [(0, b)]) [(0, .slice (o.map fun a => { a with id := 0 }) n c), (5, .int .i64 (sideZ gap)), (6, .int .i64 (0 : Int)), (7, .int .i64 (0 : Nat))] (AHeap.rows 10 [(0, b)]) :=
    Ent.drop (by kernel_rfl) (by kernel_rfl) (by kernel_rfl) (by kernel_rfl) (by simp [All_cons, All_nil, Clo, d0]) (by simp only [List.map, All_cons, All_nil, and_true]; exact h.bare.clo _)
  have l := (ends_loop hn s0 h.bare h.el (sideZ_range gap) n 0 (by omega)).pre p
  have e : Ent 1 31 [(6, .int .i64 (endZ x (sideZ gap) n))] (AHeap.rows 14 [(0, b)]) [(6, .int .i64 (endZ x (sideZ gap) n))] (AHeap.rows 10 [(0, b)]) :=
    Ent.drop (by kernel_rfl) (by kernel_rfl) (by kernel_rfl) (by kernel_rfl) (by simp [All_cons, All_nil, Clo]) (by simp only [List.map, All_cons, All_nil, and_true]; exact h.bare.clo _)
  have kk := (ends_call _ n c ver off 0 b gap 0 _ (Runs.of_loops (by rw [sd]; exact l.post e))).pure (by simp [h.bare]) (by kernel_rfl) (Bare.int _ _) (by simp [Clos, Clo, s0.clo]) (H := H) [id] (by simp) (by simp [h.lt]) (by simp [h.get])
  simpa [h.sl.back (id' := 0) (r := toBig [id] H.next) rfl, AVal.ren] using kk

end Go.Proofs.Ytcgcpmcjaeenlaa

namespace Go.Lift
noncomputable section
set_option linter.unusedVariables false
set_option linter.unusedSimpArgs false

section
variable {β : Type}

def fNat (n : Nat) (k : Nat → β) : β := Nat.rec (motive := fun _ => β) (k 0) (fun m _ => k (Nat.succ m)) n
theorem fNat_eq (n : Nat) (k : Nat → β) : fNat n k = k n := by cases n <;> rfl

def fInt (n : Int) (k : Int → β) : β :=
  match n with
  | .ofNat m => fNat m fun m => k (.ofNat m)
  | .negSucc m => fNat m fun m => k (.negSucc m)
theorem fInt_eq (n : Int) (k : Int → β) : fInt n k = k n := by cases n <;> simp [fInt, fNat_eq]

def fKind (d : IntKind) (k : IntKind → β) : β :=
  match d with
  | .i8 => k .i8 | .i16 => k .i16 | .i32 => k .i32 | .i64 => k .i64 | .u8 => k .u8 | .u16 => k .u16 | .u32 => k .u32 | .u64 => k .u64
theorem fKind_eq (d : IntKind) (k : IntKind → β) : fKind d k = k d := by cases d <;> rfl

def fBool (b : Bool) (k : Bool → β) : β :=
  match b with
  | true => k true
  | false => k false
theorem fBool_eq (b : Bool) (k : Bool → β) : fBool b k = k b := by cases b <;> rfl

def fAddr (a : AAddr) (k : AAddr → β) : β :=
  match a with
  | ⟨a, b, c, d, e⟩ => fNat a fun a => fNat b fun b => fNat c fun c => fNat d fun d => fNat e fun e => k ⟨a, b, c, d, e⟩
theorem fAddr_eq (a : AAddr) (k : AAddr → β) : fAddr a k = k a := by cases a; simp [fAddr, fNat_eq]

def fByte (b : UInt8) (k : UInt8 → β) : β :=
  match b with
  | ⟨⟨⟨n, h⟩⟩⟩ => fNat n fun m => k (UInt8.ofNat m)
theorem fByte_eq (b : UInt8) (k : UInt8 → β) : fByte b k = k b := by
  obtain ⟨⟨⟨n, h⟩⟩⟩ := b
  simp only [fByte, fNat_eq]
  congr 1
  apply UInt8.toNat_inj.1
  simp [UInt8.toNat, UInt8.ofNat]
  omega

def fBytes : List UInt8 → (List UInt8 → β) → β
  | [], k => k []
  | b :: r, k => fByte b fun b => fBytes r fun r => k (b :: r)
theorem fBytes_eq : ∀ (l : List UInt8) (k : List UInt8 → β), fBytes l k = k l
  | [], k => rfl
  | b :: r, k => by simp only [fBytes, fByte_eq, fBytes_eq r]

/-- a value without parts -/
def fS (v : AVal) (k : AVal → β) : β :=
  match v with
  | .undef => k .undef
  | .bool b => fBool b fun b => k (.bool b)
  | .int d n => fKind d fun d => fInt n fun n => k (.int d n)
  | .str s => fBytes s fun s => k (.str s)
  | .ptr none => k (.ptr none)
  | .ptr (some a) => fAddr a fun a => k (.ptr (some a))
  | .slice none n c => fNat n fun n => fNat c fun c => k (.slice none n c)
  | .slice (some a) n c => fAddr a fun a => fNat n fun n => fNat c fun c => k (.slice (some a) n c)
  | .nilFunc => k .nilFunc
  | .nilIface => k .nilIface
  | .func a b c => k (.func a b c)
  | .iface t v => k (.iface t v)
  | .agg l => k (.agg l)
  | .tuple l => k (.tuple l)
theorem fS_eq (v : AVal) (k : AVal → β) : fS v k = k v := by
  cases v with
  | ptr o => cases o <;> simp [fS, fAddr_eq]
  | slice o n c => cases o <;> simp [fS, fAddr_eq, fNat_eq]
  | _ => simp [fS, fBool_eq, fKind_eq, fInt_eq, fBytes_eq]

def fSs : List AVal → (List AVal → β) → β
  | [], k => k []
  | a :: r, k => fS a fun a => fSs r fun r => k (a :: r)
theorem fSs_eq : ∀ (l : List AVal) (k : List AVal → β), fSs l k = k l
  | [], k => rfl
  | a :: r, k => by simp only [fSs, fS_eq, fSs_eq r]

/-- parts of one layer -/
def fV1 (v : AVal) (k : AVal → β) : β :=
  match v with
  | .agg l => fSs l fun l => k (.agg l)
  | .iface t v => fNat t fun t => fS v fun v => k (.iface t v)
  | .func a b c => fSs b fun b => fSs c fun c => k (.func a b c)
  | .tuple l => fSs l fun l => k (.tuple l)
  | v => fS v k
theorem fV1_eq (v : AVal) (k : AVal → β) : fV1 v k = k v := by
  unfold fV1; split <;> simp [fS_eq, fSs_eq, fNat_eq]

def fV1s : List AVal → (List AVal → β) → β
  | [], k => k []
  | a :: r, k => fV1 a fun a => fV1s r fun r => k (a :: r)
theorem fV1s_eq : ∀ (l : List AVal) (k : List AVal → β), fV1s l k = k l
  | [], k => rfl
  | a :: r, k => by simp only [fV1s, fV1_eq, fV1s_eq r]

def fV (v : AVal) (k : AVal → β) : β :=
  match v with
  | .tuple l => fV1s l fun l => k (.tuple l)
  | .iface t v => fNat t fun t => fV1 v fun v => k (.iface t v)
  | v => fV1 v k
theorem fV_eq (v : AVal) (k : AVal → β) : fV v k = k v := by
  unfold fV; split <;> simp [fV1_eq, fV1s_eq, fNat_eq]

def fVs : List AVal → (List AVal → β) → β
  | [], k => k []
  | a :: r, k => fV a fun a => fVs r fun r => k (a :: r)
def fBlk (b : ABlk) (k : ABlk → β) : β :=
  match b with
  | ⟨l, es, ex, ro, v, m, f⟩ => fV1s l fun l => fNat es fun es => fBool ex fun ex => fBool ro fun ro => fNat v fun v => fNat m fun m => fNat f fun f => k ⟨l, es, ex, ro, v, m, f⟩
theorem fBlk_eq (b : ABlk) (k : ABlk → β) : fBlk b k = k b := by cases b; simp [fBlk, fV1s_eq, fNat_eq, fBool_eq]


/-! slots: a tree -/

def toL (n : Nat) (t : Trie AVal) : List AVal := (List.range n).map fun i => (t.get i).getD skipped

theorem toL_get (n : Nat) (t : Trie AVal) (i : Nat) : (toL n t)[i]? = if i < n then some ((t.get i).getD skipped) else none := by
  simp only [toL, List.getElem?_map]
  by_cases h : i < n
  · rw [List.getElem?_range h, if_pos h]; rfl
  · rw [List.getElem?_eq_none (by simpa using h), if_neg h]; rfl

def tget (n : Nat) (t : Trie AVal) (i : Nat) : Option AVal := cond (Nat.blt i n) (some (Option.rec (motive := fun _ => AVal) skipped (fun v => v) (t.get i))) none
theorem tget_eq (n : Nat) (t : Trie AVal) (i : Nat) : tget n t i = (toL n t)[i]? := by
  rw [toL_get]; unfold tget
  by_cases h : i < n
  · rw [show Nat.blt i n = true by simpa [Nat.blt_eq] using h, if_pos h]; cases t.get i <;> rfl
  · rw [show Nat.blt i n = false by cases hb : Nat.blt i n with | false => rfl | true => exact absurd (Nat.blt_eq.mp hb) h, if_neg h]; rfl

def agetT (n : Nat) (t : Trie AVal) (o : Operand) : AVal :=
  match o with
  | .tmp i => cond (Nat.blt i n) (Option.rec (motive := fun _ => AVal) skipped (fun v => v) (t.get i)) .undef
  | .const v => ofConst v
  | .global _ => .undef
  | .func f => .func (.func f) [] []
theorem agetT_eq (n : Nat) (t : Trie AVal) : agetT n t = agetOp (toL n t) := by
  funext o
  cases o with
  | tmp i =>
    have := tget_eq n t i
    simp only [agetOp, List.getD_eq_getElem?_getD, ← this]
    unfold tget
    show cond (Nat.blt i n) (Option.rec (motive := fun _ => AVal) skipped (fun v => v) (t.get i)) .undef = _
    cases Nat.blt i n <;> rfl
  | const v => rfl
  | global g => rfl
  | func f => rfl

theorem toL_set (n : Nat) (t : Trie AVal) (d : Nat) (v : AVal) : toL n (t.set d v) = (toL n t).set d v := by
  apply List.ext_getElem?
  intro i
  rw [toL_get, List.getElem?_set, toL_get]
  by_cases h : i < n
  · simp only [h, if_true, Trie.get_set]
    by_cases hd : d = i
    · subst hd; simp [toL, h]
    · simp [hd]
  · simp only [h, if_false]
    by_cases hd : d = i
    · subst hd; simp [toL, h]
    · simp [hd]

section
variable {α : Type}
def fSing (f : Nat) : Nat → α → (Trie α → β) → β :=
  Nat.rec (motive := fun _ => Nat → α → (Trie α → β) → β) (fun _ v c => c (.node (some v) .nil .nil))
    (fun _ ih k v c => cond (Nat.beq k 0) (c (.node (some v) .nil .nil)) (cond (Nat.beq (Nat.mod k 2) 1) (ih (Nat.div k 2) v fun u => c (.node none u .nil)) (ih (Nat.sub (Nat.div k 2) 1) v fun u => c (.node none .nil u)))) f
theorem fSing_eq : ∀ (f k : Nat) (v : α) (c : Trie α → β), fSing f k v c = c (Trie.sing f k v)
  | 0, k, v, c => rfl
  | f + 1, k, v, c => by
    show cond (Nat.beq k 0) (c (.node (some v) .nil .nil)) (cond (Nat.beq (k % 2) 1) (fSing f (k / 2) v fun u => c (.node none u .nil)) (fSing f (k / 2 - 1) v fun u => c (.node none .nil u))) =
      c (cond (Nat.beq k 0) (.node (some v) .nil .nil) (cond (Nat.beq (k % 2) 1) (.node none (Trie.sing f (k / 2) v) .nil) (.node none .nil (Trie.sing f (k / 2 - 1) v))))
    rw [fSing_eq f, fSing_eq f]
    cases Nat.beq k 0 <;> cases Nat.beq (k % 2) 1 <;> rfl

def fSetT (t : Trie α) : Nat → α → (Trie α → β) → β :=
  Trie.rec (motive := fun _ => Nat → α → (Trie α → β) → β) (fun k v c => fSing k k v c)
    (fun o l r sl sr k v c => cond (Nat.beq k 0) (c (.node (some v) l r)) (cond (Nat.beq (Nat.mod k 2) 1) (sl (Nat.div k 2) v fun u => c (.node o u r)) (sr (Nat.sub (Nat.div k 2) 1) v fun u => c (.node o l u)))) t
theorem fSetT_eq : ∀ (t : Trie α) (k : Nat) (v : α) (c : Trie α → β), fSetT t k v c = c (t.set k v)
  | .nil, k, v, c => fSing_eq k k v c
  | .node o l r, k, v, c => by
    show cond (Nat.beq k 0) (c (.node (some v) l r)) (cond (Nat.beq (k % 2) 1) (fSetT l (k / 2) v fun u => c (.node o u r)) (fSetT r (k / 2 - 1) v fun u => c (.node o l u))) =
      c (cond (Nat.beq k 0) (.node (some v) l r) (cond (Nat.beq (k % 2) 1) (.node o (l.set (k / 2) v) r) (.node o l (r.set (k / 2 - 1) v))))
    rw [fSetT_eq l, fSetT_eq r]
    cases Nat.beq k 0 <;> cases Nat.beq (k % 2) 1 <;> rfl

/-- the way down to a key, and what lies there, worked out -/
def fAt (f : α → (α → β) → β) (t : Trie α) : Nat → (Trie α → β) → β :=
  Trie.rec (motive := fun _ => Nat → (Trie α → β) → β) (fun _ c => c .nil)
    (fun o l r fl fr k c => cond (Nat.beq k 0) (Option.rec (motive := fun _ => β) (c (.node none l r)) (fun b => f b fun b => c (.node (some b) l r)) o) (cond (Nat.beq (Nat.mod k 2) 1) (fl (Nat.div k 2) fun u => c (.node o u r)) (fr (Nat.sub (Nat.div k 2) 1) fun u => c (.node o l u)))) t
theorem fAt_eq {f : α → (α → β) → β} (hf : ∀ a k, f a k = k a) : ∀ (t : Trie α) (k : Nat) (c : Trie α → β), fAt f t k c = c t
  | .nil, k, c => rfl
  | .node o l r, k, c => by
    show cond (Nat.beq k 0) (Option.rec (motive := fun _ => β) (c (.node none l r)) (fun b => f b fun b => c (.node (some b) l r)) o) (cond (Nat.beq (k % 2) 1) (fAt f l (k / 2) fun u => c (.node o u r)) (fAt f r (k / 2 - 1) fun u => c (.node o l u))) = _
    rw [fAt_eq hf l, fAt_eq hf r]
    cases o <;> cases Nat.beq k 0 <;> cases Nat.beq (k % 2) 1 <;> simp [hf]
end

def fPut (s : Trie AVal) (d : Option Tmp) (v : AVal) (k : Trie AVal → β) : β := Option.rec (motive := fun _ => β) (k s) (fun d => fSetT s d v k) d
theorem fPut_eq (n : Nat) (s : Trie AVal) (d : Option Tmp) (v : AVal) (k : Trie AVal → β) : fPut s d v k = k (Option.rec (motive := fun _ => Trie AVal) s (fun d => s.set d v) d) := by cases d <;> simp [fPut, fSetT_eq]
theorem toL_put (n : Nat) (s : Trie AVal) (d : Option Tmp) (v : AVal) : toL n (Option.rec (motive := fun _ => Trie AVal) s (fun d => s.set d v) d) = aput (toL n s) d v := by cases d <;> simp [aput, toL_set]

def fHeapTo (id : Nat) (h : AHeap) (k : AHeap → β) : β :=
  match h with
  | ⟨n, l⟩ => fAt fBlk l id fun l => k ⟨n, l⟩
theorem fHeapTo_eq (id : Nat) (h : AHeap) (k : AHeap → β) : fHeapTo id h k = k h := by cases h; simp [fHeapTo, fAt_eq fBlk_eq]

def fHeap (h : AHeap) (k : AHeap → β) : β :=
  match h with
  | ⟨n, l⟩ => fNat n fun n => k ⟨n, l⟩
theorem fHeap_eq (h : AHeap) (k : AHeap → β) : fHeap h k = k h := by cases h; simp [fHeap, fNat_eq]

/-- a part of memory worked out -/
inductive Turns where
  | no | at (id : Nat) | all

def fTurn (t : Turns) (h : AHeap) (k : AHeap → β) : β :=
  match t with
  | .no => k h
  | .at id => fHeapTo id h k
  | .all => fHeap h k
theorem fTurn_eq (t : Turns) (h : AHeap) (k : AHeap → β) : fTurn t h k = k h := by cases t <;> simp [fTurn, fHeapTo_eq, fHeap_eq]

/-- the head alone -/
def fW (v : AVal) (k : AVal → β) : β :=
  match v with
  | .undef => k .undef
  | .bool b => k (.bool b)
  | .int d n => k (.int d n)
  | .str s => k (.str s)
  | .ptr a => k (.ptr a)
  | .slice a n c => k (.slice a n c)
  | .nilFunc => k .nilFunc
  | .nilIface => k .nilIface
  | .func a b c => k (.func a b c)
  | .iface t v => k (.iface t v)
  | .agg l => k (.agg l)
  | .tuple l => k (.tuple l)
theorem fW_eq (v : AVal) (k : AVal → β) : fW v k = k v := by cases v <;> rfl

/-- is what it answers in some slot or row already, worked out? -/
def shallow (o : Op) : Bool :=
  match o with
  | .move (.tmp _) | .assign (.tmp _) | .pick _ (.tmp _) (.tmp _) | .extract _ _ | .load _ _ => true
  | .call c => match c.callee with | .value _ => true | _ => false
  | _ => false

def fRes (o : Op) (v : AVal) (k : AVal → β) : β := cond (shallow o) (fW v k) (fV v k)
theorem fRes_eq (o : Op) (v : AVal) (k : AVal → β) : fRes o v k = k v := by unfold fRes; cases shallow o <;> simp [fW_eq, fV_eq]
end

/-- which row an operation turns -/
def turnsOf (nid : Nat) (ρ : Operand → AVal) (o : Op) (v : AVal) : Turns :=
  match o with
  | .alloc _ | .box _ _ | .buildSlice _ _ _ | .makeSlice _ _ _ => .at nid
  | .store _ a _ => match ρ a with | .ptr (some a) => .at a.id | _ => .no
  | .call c =>
    match c.callee with
    | .value _ => .all
    | .builtin .append => match v with | .slice (some a) _ _ => .at a.id | _ => .no
    | _ => .no
  | _ => .no

section
variable {E : AEnv}

def wantedT (ops : Array Oper) (n : Nat) (s : Trie AVal) (o : Oper) : Option Bool :=
  match o.guard with
  | none => some true
  | some (j, want) =>
    match (ops[j]?).bind (·.dst) with
    | some d =>
      match tget n s d with
      | some (.bool b) => some (b == want)
      | some (.tuple []) => some false
      | _ => none
    | none => none
theorem wantedT_eq (ops : Array Oper) (n : Nat) (s : Trie AVal) (o : Oper) : wantedT ops n s o = awanted ops (toL n s) o := by
  unfold wantedT awanted
  simp only [tget_eq]
  rfl

structure FSt where
  slots : Trie AVal
  heap : AHeap

def FSt.to (n : Nat) (s : FSt) : ASt := ⟨toL n s.slots, s.heap⟩

/-- the operations of a region, one behind the other; 'draw': with the looks that a region asks that draws -/
def frun (E : AEnv) (call : ACall) (ops : Array Oper) (draw : Bool) (n n0 : Nat) (l : List Oper) : Nat → Trie AVal → AHeap → Option FSt :=
  List.rec (motive := fun _ => Nat → Trie AVal → AHeap → Option FSt) (fun _ s h => some ⟨s, h⟩)
    (fun o _ ih i s h =>
      match wantedT ops n s o with
      | some true =>
        match (cond draw (dop E call ops n0 i (agetT n s) h o.op) (aop E call (Nat.add n0 i) (agetT n s) h o.op)) with
        | some (v, h') => fRes o.op v fun v => fTurn (turnsOf (Nat.add n0 i) (agetT n s) o.op v) h' fun h' => fPut s o.dst v fun s' => ih (Nat.succ i) s' h'
        | none => none
      | some false => fPut s o.dst skipped fun s' => ih (Nat.succ i) s' h
      | none => none) l

theorem frun_cons (call : ACall) (ops : Array Oper) (draw : Bool) (n n0 i : Nat) (s : Trie AVal) (h : AHeap) (o : Oper) (r : List Oper) : frun E call ops draw n n0 (o :: r) i s h =
      match wantedT ops n s o with
      | some true =>
        match (cond draw (dop E call ops n0 i (agetT n s) h o.op) (aop E call (n0 + i) (agetT n s) h o.op)) with
        | some (v, h') => frun E call ops draw n n0 r (i + 1) (Option.rec (motive := fun _ => Trie AVal) s (fun d => s.set d v) o.dst) h'
        | none => none
      | some false => frun E call ops draw n n0 r (i + 1) (Option.rec (motive := fun _ => Trie AVal) s (fun d => s.set d skipped) o.dst) h
      | none => none := by
  show (match wantedT ops n s o with
      | some true =>
        match (cond draw (dop E call ops n0 i (agetT n s) h o.op) (aop E call (n0 + i) (agetT n s) h o.op)) with
        | some (v, h') => fRes o.op v fun v => fTurn (turnsOf (n0 + i) (agetT n s) o.op v) h' fun h' => fPut s o.dst v fun s' => frun E call ops draw n n0 r (i + 1) s' h'
        | none => none
      | some false => fPut s o.dst skipped fun s' => frun E call ops draw n n0 r (i + 1) s' h
      | none => none) = _
  simp only [fRes_eq, fTurn_eq, fPut_eq n]

theorem frun_arun {call : ACall} {ops : Array Oper} {n n0 : Nat} : ∀ (l : List Oper) (i : Nat) (s : Trie AVal) (h : AHeap), (∀ j, l[j]? = ops[i + j]?) →
    (frun E call ops false n n0 l i s h).map (FSt.to n) = arun E call ops n0 (List.range' i l.length) ⟨toL n s, h⟩
  | [], i, s, h, _ => rfl
  | o :: r, i, s, h, hl => by
    have ho : ops[i]? = some o := by have := hl 0; simpa using this.symm
    have hr : ∀ j, r[j]? = ops[i + 1 + j]? := fun j => by have := hl (j + 1); simp at this; rw [this]; congr 1; omega
    rw [frun_cons]
    simp only [List.length_cons, List.range'_succ, arun, astep, ho, wantedT_eq, agetT_eq, cond_false]
    cases hw : awanted ops (toL n s) o with
    | none => rfl
    | some b =>
      cases b with
      | true =>
        simp only
        cases ha : aop E call (n0 + i) (agetOp (toL n s)) h o.op with
        | none => rfl
        | some p =>
          obtain ⟨v, h'⟩ := p
          simp only
          rw [frun_arun r (i + 1) _ _ hr, toL_put]
      | false =>
        simp only
        rw [frun_arun r (i + 1) _ _ hr, toL_put]

theorem frun_drun {call : ACall} {ops : Array Oper} {n n0 : Nat} : ∀ (l : List Oper) (i : Nat) (s : Trie AVal) (h : AHeap), (∀ j, l[j]? = ops[i + j]?) →
    (frun E call ops true n n0 l i s h).map (FSt.to n) = drun E call ops n0 (List.range' i l.length) ⟨toL n s, h⟩
  | [], i, s, h, _ => rfl
  | o :: r, i, s, h, hl => by
    have ho : ops[i]? = some o := by have := hl 0; simpa using this.symm
    have hr : ∀ j, r[j]? = ops[i + 1 + j]? := fun j => by have := hl (j + 1); simp at this; rw [this]; congr 1; omega
    rw [frun_cons]
    simp only [List.length_cons, List.range'_succ, drun, dstep, ho, wantedT_eq, agetT_eq, cond_true]
    cases hw : awanted ops (toL n s) o with
    | none => rfl
    | some b =>
      cases b with
      | true =>
        simp only
        cases ha : dop E call ops n0 i (agetOp (toL n s)) h o.op with
        | none => rfl
        | some p =>
          obtain ⟨v, h'⟩ := p
          simp only
          rw [frun_drun r (i + 1) _ _ hr, toL_put]
      | false =>
        simp only
        rw [frun_drun r (i + 1) _ _ hr, toL_put]

def fregion (E : AEnv) (call : ACall) (ops : Array Oper) (draw : Bool) (n : Nat) (s : FSt) : Option FSt :=
  match s with
  | ⟨s, ⟨n0, l⟩⟩ => cond (!draw || drawOk ops) (fNat (Nat.add n0 ops.size) fun m => frun E call ops draw n n0 ops.toList 0 s ⟨m, l⟩) none

theorem fregion_eq (call : ACall) (ops : Array Oper) (draw : Bool) (n : Nat) (s : FSt) : (fregion E call ops draw n s).map (FSt.to n) = aregion E call ops draw (s.to n) := by
  obtain ⟨s, n0, l⟩ := s
  have hl : ∀ j : Nat, ops.toList[j]? = ops[0 + j]? := fun j => by simp
  have hr : List.range ops.size = List.range' 0 ops.toList.length := by rw [List.range_eq_range', Array.length_toList]
  unfold fregion aregion
  cases draw with
  | false => simp only [Bool.not_false, Bool.true_or, cond_true, fNat_eq, Bool.false_eq_true, if_false, frun_arun _ _ _ _ hl, hr, FSt.to, Nat.add_eq]
  | true =>
    cases hd : drawOk ops with
    | false => simp
    | true => simp only [Bool.not_true, Bool.false_or, hd, cond_true, if_true, fNat_eq, frun_drun _ _ _ _ hl, hr, FSt.to, Nat.add_eq]

def fexec (E : AEnv) (call : ACall) (n : Nat) (fuel : Nat) : Option Code → Code → FSt → Option (AExit × FSt) :=
  Nat.rec (motive := fun _ => Option Code → Code → FSt → Option (AExit × FSt)) (fun _ _ _ => none)
  (fun m ih b c s =>
  match b with
  | some body =>
    match ih none c s with
    | some (.goto l, s') =>
      match findLabel body l with
      | some rest => ih (some body) rest s'
      | none => some (.goto l, s')
    | r => r
  | none =>
    match c with
    | .skip => some (.normal, s)
    | .label _ => some (.normal, s)
    | .region _ ops draw =>
      match fregion E call ops draw n s with
      | some s' => some (.normal, s')
      | none => none
    | .seq a b =>
      match ih none a s with
      | some (.normal, s') => ih none b s'
      | r => r
    | .cond x a b =>
      match agetT n s.slots x with
      | .bool true => ih none a s
      | .bool false => ih none b s
      | _ => none
    | .block id c =>
      match ih none c s with
      | some (.exit j, s') => some (if j = id then .normal else .exit j, s')
      | r => r
    | .loop c =>
      match ih none c s with
      | some (.normal, s') => ih none (.loop c) s'
      | r => r
    | .scope c => ih (some c) c s
    | .goto l => some (.goto l, s)
    | .exit id => some (.exit id, s)
    | .ret => some (.ret, s)
    | _ => none) fuel

def toP (n : Nat) (p : AExit × FSt) : AExit × ASt := (p.1, p.2.to n)

theorem fexec_eq (call : ACall) (k : Nat) : ∀ (n : Nat) (b : Option Code) (c : Code) (s : FSt), (fexec E call k n b c s).map (toP k) = aexec E call n b c (s.to k) := by
  intro n
  induction n with
  | zero => intro b c s; rfl
  | succ n ih =>
    intro b c s
    cases b with
    | some body =>
      show Option.map (toP k) (match fexec E call k n none c s with
        | some (.goto l, s') =>
          match findLabel body l with
          | some rest => fexec E call k n (some body) rest s'
          | none => some (.goto l, s')
        | r => r) = _
      simp only [aexec, ← ih]
      cases hx : fexec E call k n none c s with
      | none => rfl
      | some p =>
        obtain ⟨e, s'⟩ := p
        cases e with
        | goto l =>
          simp only [Option.map_some, toP]
          cases hf : findLabel body l with
          | none => rfl
          | some rest => simp only [hf]; exact ih (some body) rest s'
        | _ => rfl
    | none =>
      cases c
      case region id ops draw =>
        show Option.map (toP k) (match fregion E call ops draw k s with
          | some s' => some (.normal, s')
          | none => none) = _
        simp only [aexec, ← fregion_eq]
        cases fregion E call ops draw k s <;> rfl
      case seq a b =>
        show Option.map (toP k) (match fexec E call k n none a s with
          | some (.normal, s') => fexec E call k n none b s'
          | r => r) = _
        simp only [aexec, ← ih]
        cases hx : fexec E call k n none a s with
        | none => rfl
        | some p => obtain ⟨e, s'⟩ := p; cases e <;> first | exact ih none b s' | rfl
      case cond x a b =>
        show Option.map (toP k) (match agetT k s.slots x with
          | .bool true => fexec E call k n none a s
          | .bool false => fexec E call k n none b s
          | _ => none) = _
        simp only [aexec, ← ih, agetT_eq]
        have he : agetOp (s.to k).slots x = agetOp (toL k s.slots) x := rfl
        rw [he]
        cases agetOp (toL k s.slots) x with
        | bool t => cases t <;> rfl
        | _ => rfl
      case block id c =>
        show Option.map (toP k) (match fexec E call k n none c s with
          | some (.exit j, s') => some (if j = id then .normal else .exit j, s')
          | r => r) = _
        simp only [aexec, ← ih]
        cases hx : fexec E call k n none c s with
        | none => rfl
        | some p => obtain ⟨e, s'⟩ := p; cases e <;> rfl
      case loop c =>
        show Option.map (toP k) (match fexec E call k n none c s with
          | some (.normal, s') => fexec E call k n none (.loop c) s'
          | r => r) = _
        simp only [aexec, ← ih]
        cases hx : fexec E call k n none c s with
        | none => rfl
        | some p => obtain ⟨e, s'⟩ := p; cases e <;> first | exact ih none (.loop c) s' | rfl
      case scope c => exact ih (some c) c s
      all_goals rfl

def fArgs : List AVal → Nat → Trie AVal → (Trie AVal → Option (AVal × AHeap)) → Option (AVal × AHeap)
  | [], _, t, k => k t
  | v :: r, i, t, k => fV v fun v => fSetT t i v fun t => fArgs r (Nat.succ i) t k

theorem fArgs_eq : ∀ (l : List AVal) (i : Nat) (t : Trie AVal) (k : Trie AVal → Option (AVal × AHeap)),
    ∃ t', fArgs l i t k = k t' ∧ ∀ j, t'.get j = if j < i then t.get j else if h : j - i < l.length then some l[j - i] else t.get j
  | [], i, t, k => ⟨t, rfl, fun j => by simp⟩
  | v :: r, i, t, k => by
    obtain ⟨t', h1, h2⟩ := fArgs_eq r (i + 1) (t.set i v) k
    refine ⟨t', by simp only [fArgs, fV_eq, fSetT_eq]; exact h1, fun j => ?_⟩
    rw [h2 j, Trie.get_set]
    by_cases hj : j < i
    · rw [if_pos (by omega), if_neg (by omega), if_pos hj]
    · rw [if_neg hj]
      by_cases he : i = j
      · subst he; rw [if_pos (by omega), if_pos rfl]; simp
      · rw [if_neg (by omega), if_neg he]
        by_cases hl : j - (i + 1) < r.length
        · rw [dif_pos hl, dif_pos (by simp; omega)]
          obtain ⟨m, hm⟩ : ∃ m, j - i = m + 1 := ⟨j - i - 1, by omega⟩
          have hm' : j - (i + 1) = m := by omega
          simp only [hm, hm', List.getElem_cons_succ]
        · rw [dif_neg hl, dif_neg (by simp; omega)]

theorem fArgs_toL {l : List AVal} {m : Nat} {t : Trie AVal} (h : ∀ j, t.get j = if j < 0 then (Trie.nil : Trie AVal).get j else if h : j - 0 < l.length then some l[j - 0] else (Trie.nil : Trie AVal).get j) :
    toL (l.length + (m - l.length)) t = l ++ List.replicate (m - l.length) skipped := by
  apply List.ext_getElem?
  intro i
  rw [toL_get, h i, if_neg (Nat.not_lt_zero i)]
  simp only [Nat.sub_zero, Trie.get_nil]
  by_cases hi : i < l.length
  · rw [if_pos (by omega), dif_pos hi, List.getElem?_append_left hi, List.getElem?_eq_getElem hi]; rfl
  · rw [dif_neg hi, List.getElem?_append_right (by omega), List.getElem?_replicate]
    by_cases hn : i < l.length + (m - l.length)
    · rw [if_pos hn, if_pos (by omega)]; rfl
    · rw [if_neg hn, if_neg (by omega)]

def fresults (D : Tys) (n : Nat) (rs : List ResultVar) (s : FSt) : Option (List AVal) :=
  match rs with
  | [] => some []
  | .tmp t :: r => (fresults D n r s).map fun l => agetT n s.slots (.tmp t) :: l
  | .cell a t :: r =>
    match agetT n s.slots (.tmp a) with
    | .ptr (some p) =>
      match aload D t p s.heap, fresults D n r s with
      | some v, some l => some (v :: l)
      | _, _ => none
    | _ => none
theorem fresults_eq (D : Tys) (n : Nat) (s : FSt) : ∀ (rs : List ResultVar), fresults D n rs s = aresults D rs (s.to n)
  | [] => rfl
  | .tmp t :: r => by simp only [fresults, aresults, fresults_eq D n s r, agetT_eq]; rfl
  | .cell a t :: r => by simp only [fresults, aresults, fresults_eq D n s r, agetT_eq]; rfl

def fOut (r : Option (AVal × AHeap)) : Option (AVal × AHeap) :=
  match r with
  | some (v, ⟨n, l⟩) => fNat n fun n => fV v fun v => some (v, ⟨n, l⟩)
  | none => none
theorem fOut_eq (r : Option (AVal × AHeap)) : fOut r = r := by
  cases r with
  | none => rfl
  | some p => obtain ⟨v, n, l⟩ := p; simp [fOut, fNat_eq, fV_eq]

def fcall (P : Program) (E : AEnv) (fuel : Nat) : ACall :=
  Nat.rec (motive := fun _ => ACall) (fun _ _ _ => none)
  (fun n ih f args h =>
    match E.prim f with
    | some g => g args h
    | none =>
    match P.funcs[f]? with
    | some fn =>
      match fn.body with
      | some c =>
        fNat (args.length + (fn.ntmps - args.length)) fun k => fArgs args 0 .nil fun sl =>
        match fexec E ih k n none c ⟨sl, h⟩ with
        | some (.exit _, _) => none
        | some (.goto _, _) => none
        | some (_, s) =>
          match fresults E.D k fn.results.toList s with
          | some l => fOut (some (aresult l, s.heap))
          | none => none
        | none => none
      | none => none
    | none => none) fuel

theorem fcall_eq (P : Program) (E : AEnv) : ∀ (n : Nat), fcall P E n = acall P E n := by
  intro n
  induction n with
  | zero => rfl
  | succ n ih =>
    funext f args h
    show (match E.prim f with
    | some g => g args h
    | none =>
    match P.funcs[f]? with
    | some fn =>
      match fn.body with
      | some c =>
        fNat (args.length + (fn.ntmps - args.length)) fun k => fArgs args 0 .nil fun sl =>
        match fexec E (fcall P E n) k n none c ⟨sl, h⟩ with
        | some (.exit _, _) => none
        | some (.goto _, _) => none
        | some (_, s) =>
          match fresults E.D k fn.results.toList s with
          | some l => fOut (some (aresult l, s.heap))
          | none => none
        | none => none
      | none => none
    | none => none) = _
    simp only [acall, ih, fNat_eq, fOut_eq]
    cases E.prim f with
    | some g => rfl
    | none =>
    simp only
    cases hf : P.funcs[f]? with
    | none => rfl
    | some fn =>
      simp only
      cases fn.body with
      | none => rfl
      | some c =>
        simp only
        obtain ⟨t, h1, h2⟩ := fArgs_eq args 0 .nil fun sl =>
          match fexec E (acall P E n) (args.length + (fn.ntmps - args.length)) n none c ⟨sl, h⟩ with
          | some (.exit _, _) => none
          | some (.goto _, _) => none
          | some (_, s) =>
            match fresults E.D (args.length + (fn.ntmps - args.length)) fn.results.toList s with
            | some l => some (aresult l, s.heap)
            | none => none
          | none => none
        rw [h1]
        have hs : (FSt.mk t h).to (args.length + (fn.ntmps - args.length)) = ⟨args ++ List.replicate (fn.ntmps - args.length) skipped, h⟩ := by
          simp only [FSt.to, fArgs_toL h2]
        have hx := fexec_eq (E := E) (acall P E n) (args.length + (fn.ntmps - args.length)) n none c ⟨t, h⟩
        rw [hs] at hx
        rw [← hx]
        cases hy : fexec E (acall P E n) (args.length + (fn.ntmps - args.length)) n none c ⟨t, h⟩ with
        | none => rfl
        | some p =>
          obtain ⟨e, s⟩ := p
          simp only [Option.map_some, toP]
          cases e with
          | exit id => rfl
          | goto l => rfl
          | normal => simp only [fresults_eq]; cases aresults E.D fn.results.toList (s.to (args.length + (fn.ntmps - args.length))) <;> rfl
          | ret => simp only [fresults_eq]; cases aresults E.D fn.results.toList (s.to (args.length + (fn.ntmps - args.length))) <;> rfl

theorem fcall_true {P : Program} {E : AEnv} {n : Nat} {f : FuncId} {args : List AVal} {h : AHeap} (k : saysTrue (fcall P E n f args h) = true) : ∃ h', acall P E n f args h = some (.bool true, h') := by
  rw [fcall_eq] at k; exact saysTrue_spec k
end
end
end Go.Lift

namespace Go.Proofs.Ytcgcpmcjaeenlaa
open Go.Lift
set_option maxRecDepth 1000000
theorem alive_run : saysTrue (fcall Try.prog env 300 16 [] ⟨0, .nil⟩) = true := by decide +kernel
theorem alive_does (H : AHeap) : FDoes Try.prog 16 [] H (.bool true) H := by
  obtain ⟨h', hc⟩ := fcall_true alive_run
  exact (FDoes.of_acall env_ok mixed hc).bare (by simp) (Bare.bool _) H
end Go.Proofs.Ytcgcpmcjaeenlaa

namespace Go.Proofs.Ytcgcpmcjaeenlaa
open Go.Lift
set_option maxRecDepth 1000000
set_option linter.unusedSimpArgs false
set_option linter.unusedVariables false
set_option linter.unusedSectionVars false

theorem bg_step (o : Option AAddr) (n c ver off i : Nat) (b : ABlk) (l : List AVal) (g x acc old : Int) (hc_0 : (i : Int) < (n : Int)) (hc_1 : aindexAddr env.D 32 (.slice o n c) (.int .i64 (i : Int)) = some (.ptr (some ⟨0, ver, off + i, 0, 1⟩))) (hc_2 : ABlk.elem? b ver (off + i) = some (.int .i64 x)) (hc_3 : -9223372036854775808 ≤ (i : Int) + 1 ∧ (i : Int) + (1 : Int) ≤ 9223372036854775807) (hc_4 : 0 ≤ (i : Int) ∧ (i : Int) < (↑(n + 1) : Int) ∧ 1 = 1) (hc_5 : ABlk.elem? (.made l 1 true) 0 (0 + Int.toNat (i : Int)) = some (.int .i64 acc)) (hc_8 : -9223372036854775808 ≤ acc + sideZ x ∧ acc + sideZ x ≤ 9223372036854775807) (hc_9 : -9223372036854775808 ≤ acc + sideZ x + g ∧ acc + sideZ x + g ≤ 9223372036854775807) (hc_10 : 0 ≤ (i : Int) + 1 ∧ (i : Int) + 1 < (↑(n + 1) : Int) ∧ 1 = 1) (hc_11 : 0 = 0 ∧ l[0 + Int.toNat ((i : Int) + 1)]? = some (.int .i64 old)) (hc_12 : -9223372036854775808 ≤ (i : Int) + 1 ∧ (i : Int) + (1 : Int) ≤ 9223372036854775807) :
    Runs Try.prog 1 34 (loopAt Try.prog 47 0) [(1, .int .i64 g), (5, .slice (some ⟨5, 0, 0, 0, 1⟩) (n + 1) (n + 1)), (12, .slice o n c), (13, .int .i64 n), (14, .int .i64 i)] (AHeap.rows 10 [(0, b), (5, .made l 1 true)]) .normal [(1, .int .i64 g), (5, .slice (some ⟨5, 0, 0, 0, 1⟩) (n + 1) (n + 1)), (12, .slice o n c), (13, .int .i64 (n : Int)), (14, .int .i64 ((i : Int) + 1))] (AHeap.rows 32 [(0, b), (5, (.made (List.set l (0 + Int.toNat ((i : Int) + 1)) (.int .i64 (acc + sideZ x + g))) 1 true))]) :=
  ppath_runs env_ok mixed (hs := [.val 3000 (.bool true), .val 4001 (.ptr (some ⟨0, ver, off + i, 0, 1⟩)), .ld 4002 (.int .i64 x), .go 5002, .go 5005, .ld 5006 (.int .i64 acc), .val 5008 (.int .i64 (sideZ x)), .go 5009, .go 5011, .go 5012, .st 5013 (.int .i64 old), .go 6000]) (keep := [1, 5, 12, 13, 14]) (by kernel_rfl) (All.cons (okT hc_0) (All.cons hc_1 (All.cons hc_2 (All.cons hc_3 (All.cons hc_4 (All.cons hc_5 (All.cons (show CallT Try.prog 30 [.int .i64 x, .int .i64 0, .int .i64 4096] (AHeap.rows 30 [(0, b), (5, .made l 1 true)]) (.int .i64 (sideZ x)) (AHeap.rows 30 [(0, b), (5, .made l 1 true)]) from ⟨(gside_does _ _)⟩) (All.cons (show sameOld 30 (AHeap.rows 30 [(0, b), (5, .made l 1 true)]) (AHeap.rows 30 [(0, b), (5, .made l 1 true)]) = true from sameOld_refl _ _) (All.cons hc_8 (All.cons hc_9 (All.cons hc_10 (All.cons hc_11 (All.cons hc_12 (All.nil))))))))))))))

theorem bg_end (o : Option AAddr) (n c i : Nat) (b : ABlk) (l : List AVal) (g : Int) (hc_0 : ¬ ((i : Int) < (n : Int))) :
    Runs Try.prog 1 34 (loopAt Try.prog 47 0) [(1, .int .i64 g), (5, .slice (some ⟨5, 0, 0, 0, 1⟩) (n + 1) (n + 1)), (12, .slice o n c), (13, .int .i64 n), (14, .int .i64 i)] (AHeap.rows 10 [(0, b), (5, .made l 1 true)]) (.exit 0) [(5, .slice (some ⟨5, 0, 0, 0, 1⟩) (n + 1) (n + 1))] (AHeap.rows 11 [(0, b), (5, .made l 1 true)]) :=
  ppath_runs env_ok mixed (hs := [.val 3000 (.bool false)]) (keep := [5]) (by kernel_rfl) (All.cons (okF hc_0) (All.nil))

theorem bg_call (o : Option AAddr) (n c : Nat) (b : ABlk) (l : List AVal) (g : Int) (hc_0 : -9223372036854775808 ≤ (n : Int) + 1 ∧ (n : Int) + (1 : Int) ≤ 9223372036854775807) (hc_1 : 0 ≤ (n : Int) + 1 ∧ (n : Int) + 1 ≤ (n : Int) + 1 ∧ (n : Int) + (1 : Int) < 4611686018427387904 ∧ (8 : Int) * ((n : Int) + 1) ≤ 281474976710656) (hc_2 : Runs Try.prog 1 34 (.loop (loopAt Try.prog 47 0)) [(1, .int .i64 g), (5, .slice (some ⟨5, 0, 0, 0, 1⟩) (n + 1) (n + 1)), (12, .slice o n c), (13, .int .i64 (n : Int)), (14, .int .i64 0)] (AHeap.rows 10 [(0, b), (5, .made (List.replicate (n + 1) (.int .i64 0)) 1 true)]) (.exit 0) [(5, .slice (some ⟨5, 0, 0, 0, 1⟩) (n + 1) (n + 1))] (AHeap.rows 11 [(0, b), (5, .made l 1 true)])) :
    FDoes Try.prog 47 [.slice o n c, .int .i64 g] (AHeap.of [b]) (.slice (some ⟨5, 0, 0, 0, 1⟩) (n + 1) (n + 1)) (AHeap.rows 13 [(0, b), (5, .made l 1 true)]) :=
  pcall_does env_ok mixed (hs := [.go 1002, .go 1003, .keep [1, 5, 12, 13, 14], .loop [(5, .slice (some ⟨5, 0, 0, 0, 1⟩) (n + 1) (n + 1))] (AHeap.rows 11 [(0, b), (5, .made l 1 true)]) (.exit 0)]) (rs := []) (by kernel_rfl) (All.cons hc_0 (All.cons hc_1 (All.cons hc_2 (All.nil))))

theorem gs_neg_nT (o : Option AAddr) (n c ver off : Nat) (b : ABlk) (g p m x y : Int) (hc_0 : -9223372036854775808 ≤ (↑(n + 1) : Int) - 1 ∧ (↑(n + 1) : Int) - (1 : Int) ≤ 9223372036854775807) (hc_1 : p < 0) (hc_2 : -9223372036854775808 ≤ (if 1 > m then 1 else m) + p ∧ (if 1 > m then 1 else m) + p ≤ 9223372036854775807) (hc_3 : 0 ≥ (↑(n + 1) : Int) - 1) :
    FDoes Try.prog 48 [.slice o (n + 1) c, .int .i64 g, .int .i64 p, .int .i64 m] (AHeap.of [b]) (.tuple [.int .i64 0, .int .i64 0, AVal.bool false]) (AHeap.rows 28 [(0, b)]) :=
  pcall_does env_ok mixed (hs := [.go 1002, .val 3001 (.bool true), .go 4002, .val 6002 (.bool true)]) (rs := []) (by kernel_rfl) (All.cons hc_0 (All.cons (okT hc_1) (All.cons hc_2 (All.cons (okT hc_3) (All.nil)))))

theorem gs_pos_nT (o : Option AAddr) (n c ver off : Nat) (b : ABlk) (g p m x y : Int) (hc_0 : -9223372036854775808 ≤ (↑(n + 1) : Int) - 1 ∧ (↑(n + 1) : Int) - (1 : Int) ≤ 9223372036854775807) (hc_1 : ¬ (p < 0)) (hc_2 : p ≥ (↑(n + 1) : Int) - 1) :
    FDoes Try.prog 48 [.slice o (n + 1) c, .int .i64 g, .int .i64 p, .int .i64 m] (AHeap.of [b]) (.tuple [.int .i64 0, .int .i64 0, AVal.bool false]) (AHeap.rows 23 [(0, b)]) :=
  pcall_does env_ok mixed (hs := [.go 1002, .val 3001 (.bool false), .val 6002 (.bool true)]) (rs := []) (by kernel_rfl) (All.cons hc_0 (All.cons (okF hc_1) (All.cons (okT hc_2) (All.nil))))

theorem gs_neg_nFT (o : Option AAddr) (n c ver off : Nat) (b : ABlk) (g p m x y : Int) (hc_0 : -9223372036854775808 ≤ (↑(n + 1) : Int) - 1 ∧ (↑(n + 1) : Int) - (1 : Int) ≤ 9223372036854775807) (hc_1 : p < 0) (hc_2 : -9223372036854775808 ≤ (if 1 > m then 1 else m) + p ∧ (if 1 > m then 1 else m) + p ≤ 9223372036854775807) (hc_3 : ¬ (0 ≥ (↑(n + 1) : Int) - 1)) (hc_4 : (if 1 > m then 1 else m) + p < 1) :
    FDoes Try.prog 48 [.slice o (n + 1) c, .int .i64 g, .int .i64 p, .int .i64 m] (AHeap.of [b]) (.tuple [.int .i64 0, .int .i64 0, AVal.bool false]) (AHeap.rows 28 [(0, b)]) :=
  pcall_does env_ok mixed (hs := [.go 1002, .val 3001 (.bool true), .go 4002, .val 6002 (.bool false), .val 6005 (.bool true)]) (rs := []) (by kernel_rfl) (All.cons hc_0 (All.cons (okT hc_1) (All.cons hc_2 (All.cons (okF hc_3) (All.cons (okT hc_4) (All.nil))))))

theorem gs_neg_ok (o : Option AAddr) (n c ver off : Nat) (b : ABlk) (g p m x y : Int) (q : Nat) (hc_0 : -9223372036854775808 ≤ (↑(n + 1) : Int) - 1 ∧ (↑(n + 1) : Int) - (1 : Int) ≤ 9223372036854775807) (hc_1 : p < 0) (hc_2 : -9223372036854775808 ≤ (if 1 > m then 1 else m) + p ∧ (if 1 > m then 1 else m) + p ≤ 9223372036854775807) (hc_3 : ¬ (0 ≥ (↑(n + 1) : Int) - 1)) (hc_4 : ¬ ((if 1 > m then 1 else m) + p < 1)) (hc_5 : -9223372036854775808 ≤ (↑(n + 1) : Int) - 1 - 0 ∧ (↑(n + 1) : Int) - 1 - (0 : Int) ≤ 9223372036854775807) (hc_6 : aindexAddr env.D 32 (.slice o (n + 1) c) (.int .i64 0) = some (.ptr (some ⟨0, ver, off + 0, 0, 1⟩))) (hc_7 : ABlk.elem? b ver (off + 0) = some (.int .i64 x)) (hc_8 : (-9223372036854775808 ≤ 0 + if (↑(n + 1) : Int) - 1 - 0 < (if 1 > m then 1 else m) + p then (↑(n + 1) : Int) - 1 - 0 else (if 1 > m then 1 else m) + p) ∧ (0 + if (↑(n + 1) : Int) - 1 - 0 < (if 1 > m then 1 else m) + p then (↑(n + 1) : Int) - 1 - 0 else (if 1 > m then 1 else m) + p) ≤ 9223372036854775807) (hc_9 : aindexAddr env.D 32 (.slice o (n + 1) c) (.int .i64 (0 + if (↑(n + 1) : Int) - 1 - 0 < (if 1 > m then 1 else m) + p then (↑(n + 1) : Int) - 1 - 0 else (if 1 > m then 1 else m) + p)) = some (.ptr (some ⟨0, ver, off + q, 0, 1⟩))) (hc_10 : ABlk.elem? b ver (off + q) = some (.int .i64 y)) (hc_11 : -9223372036854775808 ≤ y - g ∧ y - g ≤ 9223372036854775807) (hc_12 : aindexAddr env.D 32 (.slice o (n + 1) c) (.int .i64 0) = some (.ptr (some ⟨0, ver, off + 0, 0, 1⟩))) (hc_13 : ABlk.elem? b ver (off + 0) = some (.int .i64 x)) (hc_14 : -9223372036854775808 ≤ y - g - x ∧ y - g - x ≤ 9223372036854775807) :
    FDoes Try.prog 48 [.slice o (n + 1) c, .int .i64 g, .int .i64 p, .int .i64 m] (AHeap.of [b]) (.tuple [.int .i64 x, .int .i64 (y - g - x), AVal.bool true]) (AHeap.rows 51 [(0, b)]) :=
  pcall_does env_ok mixed (hs := [.go 1002, .val 3001 (.bool true), .go 4002, .val 6002 (.bool false), .val 6005 (.bool false), .go 8003, .val 9002 (.ptr (some ⟨0, ver, off + 0, 0, 1⟩)), .ld 9003 (.int .i64 x), .go 9007, .val 9008 (.ptr (some ⟨0, ver, off + q, 0, 1⟩)), .ld 9009 (.int .i64 y), .go 9011, .val 9014 (.ptr (some ⟨0, ver, off + 0, 0, 1⟩)), .ld 9015 (.int .i64 x), .go 9016]) (rs := []) (by kernel_rfl) (All.cons hc_0 (All.cons (okT hc_1) (All.cons hc_2 (All.cons (okF hc_3) (All.cons (okF hc_4) (All.cons hc_5 (All.cons hc_6 (All.cons hc_7 (All.cons hc_8 (All.cons hc_9 (All.cons hc_10 (All.cons hc_11 (All.cons hc_12 (All.cons hc_13 (All.cons hc_14 (All.nil))))))))))))))))

theorem gs_pos_ok (o : Option AAddr) (n c ver off : Nat) (b : ABlk) (g p m x y : Int) (q r : Nat) (hc_0 : -9223372036854775808 ≤ (↑(n + 1) : Int) - 1 ∧ (↑(n + 1) : Int) - (1 : Int) ≤ 9223372036854775807) (hc_1 : ¬ (p < 0)) (hc_2 : ¬ (p ≥ (↑(n + 1) : Int) - 1)) (hc_3 : ¬ ((if 1 > m then 1 else m) < 1)) (hc_4 : -9223372036854775808 ≤ (↑(n + 1) : Int) - 1 - p ∧ (↑(n + 1) : Int) - 1 - p ≤ 9223372036854775807) (hc_5 : aindexAddr env.D 32 (.slice o (n + 1) c) (.int .i64 p) = some (.ptr (some ⟨0, ver, off + r, 0, 1⟩))) (hc_6 : ABlk.elem? b ver (off + r) = some (.int .i64 x)) (hc_7 : (-9223372036854775808 ≤ p + if (↑(n + 1) : Int) - 1 - p < if 1 > m then 1 else m then (↑(n + 1) : Int) - 1 - p else if 1 > m then 1 else m) ∧ (p + if (↑(n + 1) : Int) - 1 - p < if 1 > m then 1 else m then (↑(n + 1) : Int) - 1 - p else if 1 > m then 1 else m) ≤ 9223372036854775807) (hc_8 : aindexAddr env.D 32 (.slice o (n + 1) c) (.int .i64 (p + if (↑(n + 1) : Int) - 1 - p < if 1 > m then 1 else m then (↑(n + 1) : Int) - 1 - p else if 1 > m then 1 else m)) = some (.ptr (some ⟨0, ver, off + q, 0, 1⟩))) (hc_9 : ABlk.elem? b ver (off + q) = some (.int .i64 y)) (hc_10 : -9223372036854775808 ≤ y - g ∧ y - g ≤ 9223372036854775807) (hc_11 : aindexAddr env.D 32 (.slice o (n + 1) c) (.int .i64 p) = some (.ptr (some ⟨0, ver, off + r, 0, 1⟩))) (hc_12 : ABlk.elem? b ver (off + r) = some (.int .i64 x)) (hc_13 : -9223372036854775808 ≤ y - g - x ∧ y - g - x ≤ 9223372036854775807) :
    FDoes Try.prog 48 [.slice o (n + 1) c, .int .i64 g, .int .i64 p, .int .i64 m] (AHeap.of [b]) (.tuple [.int .i64 x, .int .i64 (y - g - x), AVal.bool true]) (AHeap.rows 46 [(0, b)]) :=
  pcall_does env_ok mixed (hs := [.go 1002, .val 3001 (.bool false), .val 6002 (.bool false), .val 6005 (.bool false), .go 8003, .val 9002 (.ptr (some ⟨0, ver, off + r, 0, 1⟩)), .ld 9003 (.int .i64 x), .go 9007, .val 9008 (.ptr (some ⟨0, ver, off + q, 0, 1⟩)), .ld 9009 (.int .i64 y), .go 9011, .val 9014 (.ptr (some ⟨0, ver, off + r, 0, 1⟩)), .ld 9015 (.int .i64 x), .go 9016]) (rs := []) (by kernel_rfl) (All.cons hc_0 (All.cons (okF hc_1) (All.cons (okF hc_2) (All.cons (okF hc_3) (All.cons hc_4 (All.cons hc_5 (All.cons hc_6 (All.cons hc_7 (All.cons hc_8 (All.cons hc_9 (All.cons hc_10 (All.cons hc_11 (All.cons hc_12 (All.cons hc_13 (All.nil)))))))))))))))

theorem rx_TT (o : Option AAddr) (n m k c ver off i : Nat) (b0 b1 b r0 r1 : ABlk) (l : List AVal) (g qa qb qc qd bx wx by_ wy : Int) (u : Bool) (hc_0 : (i : Int) < (k : Int)) (hc_1 : aindexAddr env.D 22 (.slice o k c) (.int .i64 (i : Int)) = some (.ptr (some ⟨2, ver, off + i, 0, 4⟩))) (hc_2 : ABlk.elem? b ver (off + i) = some (.agg [.int .i64 qa, .int .i64 qb, .int .i64 qc, .int .i64 qd])) (hc_3 : FDoes Try.prog 48 [.slice (some ⟨23, 0, 0, 0, 1⟩) (n + 1) (n + 1), .int .i64 g, .int .i64 qa, .int .i64 qc] (AHeap.rows 53 [(0, b0), (1, b1), (2, b), (23, r0), (24, r1), (27, .made l 4 true), (36, (.made ([.agg [.int .i64 qa, .int .i64 qb, .int .i64 qc, .int .i64 qd]]) 4 true))]) (.tuple [.int .i64 bx, .int .i64 wx, AVal.bool true]) (AHeap.rows 53 [(0, b0), (1, b1), (2, b), (23, r0), (24, r1), (27, .made l 4 true), (36, (.made ([.agg [.int .i64 qa, .int .i64 qb, .int .i64 qc, .int .i64 qd]]) 4 true))])) (hc_4 : FDoes Try.prog 48 [.slice (some ⟨24, 0, 0, 0, 1⟩) (m + 1) (m + 1), .int .i64 g, .int .i64 qb, .int .i64 qd] (AHeap.rows 67 [(0, b0), (1, b1), (2, b), (23, r0), (24, r1), (27, .made l 4 true), (36, (.made ([.agg [.int .i64 qa, .int .i64 qb, .int .i64 qc, .int .i64 qd]]) 4 true))]) (.tuple [.int .i64 by_, .int .i64 wy, AVal.bool true]) (AHeap.rows 67 [(0, b0), (1, b1), (2, b), (23, r0), (24, r1), (27, .made l 4 true), (36, (.made ([.agg [.int .i64 qa, .int .i64 qb, .int .i64 qc, .int .i64 qd]]) 4 true))])) (hc_5 : 0 ≤ (i : Int) ∧ (i : Int) < (k : Int) ∧ 4 = 4) (hc_6 : 0 = 0 ∧ l[0 + Int.toNat (i : Int)]? = some (.agg [.int .i64 0, .int .i64 0, .int .i64 0, .int .i64 0])) (hc_7 : -9223372036854775808 ≤ (i : Int) + 1 ∧ (i : Int) + (1 : Int) ≤ 9223372036854775807) :
    Runs Try.prog 3 82 (loopAt Try.prog 21 0) [(2, .int .i64 g), (9, .slice (some ⟨23, 0, 0, 0, 1⟩) (n + 1) (n + 1)), (10, .slice (some ⟨24, 0, 0, 0, 1⟩) (m + 1) (m + 1)), (11, .slice (some ⟨27, 0, 0, 0, 4⟩) k k), (39, .slice o k c), (40, .int .i64 k), (41, .int .i64 i)] (AHeap.rows 32 [(0, b0), (1, b1), (2, b), (23, r0), (24, r1), (27, .made l 4 true)]) .normal [(2, .int .i64 g), (9, .slice (some ⟨23, 0, 0, 0, 1⟩) (n + 1) (n + 1)), (10, .slice (some ⟨24, 0, 0, 0, 1⟩) (m + 1) (m + 1)), (11, .slice (some ⟨27, 0, 0, 0, 4⟩) k k), (39, .slice o k c), (40, .int .i64 (k : Int)), (41, .int .i64 ((i : Int) + 1))] (AHeap.rows 82 [(0, b0), (1, b1), (2, b), (23, r0), (24, r1), (27, (.made (List.set l (0 + Int.toNat (i : Int)) (.agg [.int .i64 bx, .int .i64 by_, .int .i64 wx, .int .i64 wy])) 4 true)), (36, (.made ([.agg [.int .i64 qa, .int .i64 qb, .int .i64 qc, .int .i64 qd]]) 4 true))]) :=
  ppath_runs env_ok mixed (hs := [.val 7000 (.bool true), .val 8001 (.ptr (some ⟨2, ver, off + i, 0, 4⟩)), .ld 8002 (.agg [.int .i64 qa, .int .i64 qb, .int .i64 qc, .int .i64 qd]), .val 9006 (.tuple [.int .i64 bx, .int .i64 wx, .bool true]), .val 10006 (.tuple [.int .i64 by_, .int .i64 wy, .bool true]), .go 12007, .st 12008 (.agg [.int .i64 0, .int .i64 0, .int .i64 0, .int .i64 0]), .go 13000]) (keep := [2, 9, 10, 11, 39, 40, 41]) (by kernel_rfl) (All.cons (okT hc_0) (All.cons hc_1 (All.cons hc_2 (All.cons (CallT.mk hc_3) (All.cons (CallT.mk hc_4) (All.cons hc_5 (All.cons hc_6 (All.cons hc_7 (All.nil)))))))))

theorem rx_TF (o : Option AAddr) (n m k c ver off i : Nat) (b0 b1 b r0 r1 : ABlk) (l : List AVal) (g qa qb qc qd bx wx by_ wy : Int) (u : Bool) (hc_0 : (i : Int) < (k : Int)) (hc_1 : aindexAddr env.D 22 (.slice o k c) (.int .i64 (i : Int)) = some (.ptr (some ⟨2, ver, off + i, 0, 4⟩))) (hc_2 : ABlk.elem? b ver (off + i) = some (.agg [.int .i64 qa, .int .i64 qb, .int .i64 qc, .int .i64 qd])) (hc_3 : FDoes Try.prog 48 [.slice (some ⟨23, 0, 0, 0, 1⟩) (n + 1) (n + 1), .int .i64 g, .int .i64 qa, .int .i64 qc] (AHeap.rows 53 [(0, b0), (1, b1), (2, b), (23, r0), (24, r1), (27, .made l 4 true), (36, (.made ([.agg [.int .i64 qa, .int .i64 qb, .int .i64 qc, .int .i64 qd]]) 4 true))]) (.tuple [.int .i64 bx, .int .i64 wx, AVal.bool true]) (AHeap.rows 53 [(0, b0), (1, b1), (2, b), (23, r0), (24, r1), (27, .made l 4 true), (36, (.made ([.agg [.int .i64 qa, .int .i64 qb, .int .i64 qc, .int .i64 qd]]) 4 true))])) (hc_4 : FDoes Try.prog 48 [.slice (some ⟨24, 0, 0, 0, 1⟩) (m + 1) (m + 1), .int .i64 g, .int .i64 qb, .int .i64 qd] (AHeap.rows 67 [(0, b0), (1, b1), (2, b), (23, r0), (24, r1), (27, .made l 4 true), (36, (.made ([.agg [.int .i64 qa, .int .i64 qb, .int .i64 qc, .int .i64 qd]]) 4 true))]) (.tuple [.int .i64 by_, .int .i64 wy, AVal.bool false]) (AHeap.rows 67 [(0, b0), (1, b1), (2, b), (23, r0), (24, r1), (27, .made l 4 true), (36, (.made ([.agg [.int .i64 qa, .int .i64 qb, .int .i64 qc, .int .i64 qd]]) 4 true))])) (hc_5 : -9223372036854775808 ≤ (i : Int) + 1 ∧ (i : Int) + (1 : Int) ≤ 9223372036854775807) :
    Runs Try.prog 3 82 (loopAt Try.prog 21 0) [(2, .int .i64 g), (9, .slice (some ⟨23, 0, 0, 0, 1⟩) (n + 1) (n + 1)), (10, .slice (some ⟨24, 0, 0, 0, 1⟩) (m + 1) (m + 1)), (11, .slice (some ⟨27, 0, 0, 0, 4⟩) k k), (39, .slice o k c), (40, .int .i64 k), (41, .int .i64 i)] (AHeap.rows 32 [(0, b0), (1, b1), (2, b), (23, r0), (24, r1), (27, .made l 4 true)]) .normal [(2, .int .i64 g), (9, .slice (some ⟨23, 0, 0, 0, 1⟩) (n + 1) (n + 1)), (10, .slice (some ⟨24, 0, 0, 0, 1⟩) (m + 1) (m + 1)), (11, .slice (some ⟨27, 0, 0, 0, 4⟩) k k), (39, .slice o k c), (40, .int .i64 (k : Int)), (41, .int .i64 ((i : Int) + 1))] (AHeap.rows 73 [(0, b0), (1, b1), (2, b), (23, r0), (24, r1), (27, .made l 4 true), (36, (.made ([.agg [.int .i64 qa, .int .i64 qb, .int .i64 qc, .int .i64 qd]]) 4 true))]) :=
  ppath_runs env_ok mixed (hs := [.val 7000 (.bool true), .val 8001 (.ptr (some ⟨2, ver, off + i, 0, 4⟩)), .ld 8002 (.agg [.int .i64 qa, .int .i64 qb, .int .i64 qc, .int .i64 qd]), .val 9006 (.tuple [.int .i64 bx, .int .i64 wx, .bool true]), .val 10006 (.tuple [.int .i64 by_, .int .i64 wy, .bool false]), .go 13000]) (keep := [2, 9, 10, 11, 39, 40, 41]) (by kernel_rfl) (All.cons (okT hc_0) (All.cons hc_1 (All.cons hc_2 (All.cons (CallT.mk hc_3) (All.cons (CallT.mk hc_4) (All.cons hc_5 (All.nil)))))))

theorem rx_F (o : Option AAddr) (n m k c ver off i : Nat) (b0 b1 b r0 r1 : ABlk) (l : List AVal) (g qa qb qc qd bx wx by_ wy : Int) (u : Bool) (hc_0 : (i : Int) < (k : Int)) (hc_1 : aindexAddr env.D 22 (.slice o k c) (.int .i64 (i : Int)) = some (.ptr (some ⟨2, ver, off + i, 0, 4⟩))) (hc_2 : ABlk.elem? b ver (off + i) = some (.agg [.int .i64 qa, .int .i64 qb, .int .i64 qc, .int .i64 qd])) (hc_3 : FDoes Try.prog 48 [.slice (some ⟨23, 0, 0, 0, 1⟩) (n + 1) (n + 1), .int .i64 g, .int .i64 qa, .int .i64 qc] (AHeap.rows 53 [(0, b0), (1, b1), (2, b), (23, r0), (24, r1), (27, .made l 4 true), (36, (.made ([.agg [.int .i64 qa, .int .i64 qb, .int .i64 qc, .int .i64 qd]]) 4 true))]) (.tuple [.int .i64 bx, .int .i64 wx, AVal.bool false]) (AHeap.rows 53 [(0, b0), (1, b1), (2, b), (23, r0), (24, r1), (27, .made l 4 true), (36, (.made ([.agg [.int .i64 qa, .int .i64 qb, .int .i64 qc, .int .i64 qd]]) 4 true))])) (hc_4 : FDoes Try.prog 48 [.slice (some ⟨24, 0, 0, 0, 1⟩) (m + 1) (m + 1), .int .i64 g, .int .i64 qb, .int .i64 qd] (AHeap.rows 67 [(0, b0), (1, b1), (2, b), (23, r0), (24, r1), (27, .made l 4 true), (36, (.made ([.agg [.int .i64 qa, .int .i64 qb, .int .i64 qc, .int .i64 qd]]) 4 true))]) (.tuple [.int .i64 by_, .int .i64 wy, AVal.bool u]) (AHeap.rows 67 [(0, b0), (1, b1), (2, b), (23, r0), (24, r1), (27, .made l 4 true), (36, (.made ([.agg [.int .i64 qa, .int .i64 qb, .int .i64 qc, .int .i64 qd]]) 4 true))])) (hc_5 : -9223372036854775808 ≤ (i : Int) + 1 ∧ (i : Int) + (1 : Int) ≤ 9223372036854775807) :
    Runs Try.prog 3 82 (loopAt Try.prog 21 0) [(2, .int .i64 g), (9, .slice (some ⟨23, 0, 0, 0, 1⟩) (n + 1) (n + 1)), (10, .slice (some ⟨24, 0, 0, 0, 1⟩) (m + 1) (m + 1)), (11, .slice (some ⟨27, 0, 0, 0, 4⟩) k k), (39, .slice o k c), (40, .int .i64 k), (41, .int .i64 i)] (AHeap.rows 32 [(0, b0), (1, b1), (2, b), (23, r0), (24, r1), (27, .made l 4 true)]) .normal [(2, .int .i64 g), (9, .slice (some ⟨23, 0, 0, 0, 1⟩) (n + 1) (n + 1)), (10, .slice (some ⟨24, 0, 0, 0, 1⟩) (m + 1) (m + 1)), (11, .slice (some ⟨27, 0, 0, 0, 4⟩) k k), (39, .slice o k c), (40, .int .i64 (k : Int)), (41, .int .i64 ((i : Int) + 1))] (AHeap.rows 73 [(0, b0), (1, b1), (2, b), (23, r0), (24, r1), (27, .made l 4 true), (36, (.made ([.agg [.int .i64 qa, .int .i64 qb, .int .i64 qc, .int .i64 qd]]) 4 true))]) :=
  ppath_runs env_ok mixed (hs := [.val 7000 (.bool true), .val 8001 (.ptr (some ⟨2, ver, off + i, 0, 4⟩)), .ld 8002 (.agg [.int .i64 qa, .int .i64 qb, .int .i64 qc, .int .i64 qd]), .val 9006 (.tuple [.int .i64 bx, .int .i64 wx, .bool false]), .val 10006 (.tuple [.int .i64 by_, .int .i64 wy, .bool u]), .go 13000]) (keep := [2, 9, 10, 11, 39, 40, 41]) (by kernel_rfl) (All.cons (okT hc_0) (All.cons hc_1 (All.cons hc_2 (All.cons (CallT.mk hc_3) (All.cons (CallT.mk hc_4) (All.cons hc_5 (All.nil)))))))

theorem rx_end (o : Option AAddr) (n m k c ver off i : Nat) (b0 b1 b r0 r1 : ABlk) (l : List AVal) (g qa qb qc qd bx wx by_ wy : Int) (u : Bool) (hc_0 : ¬ ((i : Int) < (k : Int))) :
    Runs Try.prog 3 82 (loopAt Try.prog 21 0) [(2, .int .i64 g), (9, .slice (some ⟨23, 0, 0, 0, 1⟩) (n + 1) (n + 1)), (10, .slice (some ⟨24, 0, 0, 0, 1⟩) (m + 1) (m + 1)), (11, .slice (some ⟨27, 0, 0, 0, 4⟩) k k), (39, .slice o k c), (40, .int .i64 k), (41, .int .i64 i)] (AHeap.rows 32 [(0, b0), (1, b1), (2, b), (23, r0), (24, r1), (27, .made l 4 true)]) (.exit 0) [(11, .slice (some ⟨27, 0, 0, 0, 4⟩) k k)] (AHeap.rows 33 [(0, b0), (1, b1), (2, b), (23, r0), (24, r1), (27, .made l 4 true)]) :=
  ppath_runs env_ok mixed (hs := [.val 7000 (.bool false)]) (keep := [11]) (by kernel_rfl) (All.cons (okF hc_0) (All.nil))

theorem rx_nil (o0 o1 o : Option AAddr) (n c0 m c1 k c : Nat) (b0 b1 b r0 r1 : ABlk) (l : List AVal) (gap : Int) (hc_0 : (if (k : Int) > if (m : Int) > (n : Int) then (m : Int) else (n : Int) then (k : Int) else if (m : Int) > (n : Int) then (m : Int) else (n : Int)) > 4096) :
    FDoes Try.prog 21 [.slice o0 n c0, .slice o1 m c1, .int .i64 gap, .slice o k c] (AHeap.of [b0, b1, b]) (.slice none 0 0) (AHeap.rows 13 [(0, b0), (1, b1), (2, b)]) :=
  pcall_does env_ok mixed (hs := [.val 1007 (.bool true)]) (rs := []) (by kernel_rfl) (All.cons (okT hc_0) (All.nil))

theorem rx_call (o0 o1 o : Option AAddr) (n c0 m c1 k c : Nat) (b0 b1 b r0 r1 : ABlk) (l : List AVal) (gap : Int) (hc_0 : ¬ ((if (k : Int) > if (m : Int) > (n : Int) then (m : Int) else (n : Int) then (k : Int) else if (m : Int) > (n : Int) then (m : Int) else (n : Int)) > 4096)) (hc_2 : FDoes Try.prog 47 [.slice o0 n c0, .int .i64 (sideZ gap)] (AHeap.rows 23 [(0, b0), (1, b1), (2, b)]) (.slice (some ⟨23, 0, 0, 0, 1⟩) (n + 1) (n + 1)) (AHeap.rows 24 [(0, b0), (1, b1), (2, b), (23, r0)])) (hc_3 : FDoes Try.prog 47 [.slice o1 m c1, .int .i64 (sideZ gap)] (AHeap.rows 24 [(0, b0), (1, b1), (2, b), (23, r0)]) (.slice (some ⟨24, 0, 0, 0, 1⟩) (m + 1) (m + 1)) (AHeap.rows 25 [(0, b0), (1, b1), (2, b), (23, r0), (24, r1)])) (hc_5 : 0 ≤ (k : Int) ∧ (k : Int) ≤ (k : Int) ∧ (k : Int) < 4611686018427387904 ∧ (32 : Int) * (k : Int) ≤ 281474976710656) (hc_6 : Runs Try.prog 3 82 (.loop (loopAt Try.prog 21 0)) [(2, .int .i64 (sideZ gap)), (9, .slice (some ⟨23, 0, 0, 0, 1⟩) (n + 1) (n + 1)), (10, .slice (some ⟨24, 0, 0, 0, 1⟩) (m + 1) (m + 1)), (11, .slice (some ⟨27, 0, 0, 0, 4⟩) k k), (39, .slice o k c), (40, .int .i64 (k : Int)), (41, .int .i64 0)] (AHeap.rows 32 [(0, b0), (1, b1), (2, b), (23, r0), (24, r1), (27, .made (List.replicate k (.agg [.int .i64 0, .int .i64 0, .int .i64 0, .int .i64 0])) 4 true)]) (.exit 0) [(11, .slice (some ⟨27, 0, 0, 0, 4⟩) k k)] (AHeap.rows 33 [(0, b0), (1, b1), (2, b), (27, .made l 4 true)])) :
    FDoes Try.prog 21 [.slice o0 n c0, .slice o1 m c1, .int .i64 gap, .slice o k c] (AHeap.of [b0, b1, b]) (.slice (some ⟨27, 0, 0, 0, 4⟩) k k) (AHeap.rows 35 [(0, b0), (1, b1), (2, b), (27, .made l 4 true)]) :=
  pcall_does env_ok mixed (hs := [.val 1007 (.bool false), .val 3001 (.int .i64 (sideZ gap)), .act 4002 (.slice (some ⟨23, 0, 0, 0, 1⟩) (n + 1) (n + 1)) (fun h => h.upd [] [r0]), .act 4005 (.slice (some ⟨24, 0, 0, 0, 1⟩) (m + 1) (m + 1)) (fun h => h.upd [] [r1]), .go 5002, .keep [2, 9, 10, 11, 39, 40, 41], .loop [(11, .slice (some ⟨27, 0, 0, 0, 4⟩) k k)] (AHeap.rows 33 [(0, b0), (1, b1), (2, b), (27, .made l 4 true)]) (.exit 0)]) (rs := []) (by kernel_rfl) (All.cons (okF hc_0) (All.cons (show CallT Try.prog 30 [.int .i64 gap, .int .i64 0, .int .i64 4096] (AHeap.rows 15 [(0, b0), (1, b1), (2, b)]) (.int .i64 (sideZ gap)) (AHeap.rows 15 [(0, b0), (1, b1), (2, b)]) from ⟨(gside_does _ _)⟩) (All.cons (CallT.mk hc_2) (All.cons (CallT.mk hc_3) (All.cons (show Agree [.slice o0 n c0, .int .i64 (sideZ gap)] [.slice o1 m c1, .int .i64 (sideZ gap)] (AHeap.rows 23 [(0, b0), (1, b1), (2, b)]) (AHeap.rows 24 [(0, b0), (1, b1), (2, b), (23, r0)]) (.slice (some ⟨23, 0, 0, 0, 1⟩) (n + 1) (n + 1)) (.slice (some ⟨24, 0, 0, 0, 1⟩) (m + 1) (m + 1)) (AHeap.rows 24 [(0, b0), (1, b1), (2, b), (23, r0)]) (AHeap.rows 25 [(0, b0), (1, b1), (2, b), (23, r0), (24, r1)]) from ⟨by intro hh hk; first | (simp at hh; done) | exact nxAbs hk (by decide) | (simp at hh; simp [hh]) | exact ⟨rfl, rfl⟩⟩) (All.cons hc_5 (All.cons hc_6 (All.nil))))))))

end Go.Proofs.Ytcgcpmcjaeenlaa

namespace Go.Proofs.Ytcgcpmcjaeenlaa
open Go.Lift
set_option maxRecDepth 1000000
set_option linter.unusedSimpArgs false
set_option linter.unusedVariables false
set_option linter.unusedSectionVars false

section
variable {n : Nat} (hn : n ≤ 4096) {o : Option AAddr} {c ver off : Nat} {b : ABlk} (hs : SlArg o n c 0 ver off 1) (hb : BareB b) {x : Nat → Int} (hel : ∀ j, j < n → b.elem? ver (off + j) = some (.int .i64 (x j))) {g : Int} (hg : 0 ≤ g ∧ g ≤ 4096)
include hn hs hb hel hg

theorem bg_loop : ∀ (k i : Nat), i + k = n →
    Loops Try.prog 1 34 (loopAt Try.prog 47 0) [(1, .int .i64 g), (5, .slice (some ⟨5, 0, 0, 0, 1⟩) (n + 1) (n + 1)), (12, .slice o n c), (13, .int .i64 n), (14, .int .i64 i)] (AHeap.rows 10 [(0, b), (5, .made (ints (n + 1) fun j => if j < i + 1 then atZ x g j else 0) 1 true)]) (.exit 0)
      [(5, .slice (some ⟨5, 0, 0, 0, 1⟩) (n + 1) (n + 1))] (AHeap.rows 11 [(0, b), (5, .made (ints (n + 1) (atZ x g)) 1 true)])
  | 0, i, e => by
    obtain rfl : i = n := by omega
    rw [show (ints (i + 1) fun j => if j < i + 1 then atZ x g j else 0) = ints (i + 1) (atZ x g) from ints_congr fun j hj => by rw [if_pos hj]]
    exact Loops.last (by simp) (bg_end o i c i b _ g (by omega))
  | k + 1, i, e => by
    have hc : Clo (Ids [0, 5]) (.slice o n c) := hs.clo (by simp [Ids])
    have r := atZ_range x hg i
    have sx := sideZ_range (x i)
    have st := bg_step o n c ver off i b (ints (n + 1) fun j => if j < i + 1 then atZ x g j else 0) g (x i) (atZ x g i) 0 (by omega) (ix_intN hs (by omega)) (hel i (by omega)) (by omega) ⟨by omega, by omega, rfl⟩
      (by rw [show 0 + Int.toNat (i : Int) = i by simp]; exact elem_made (by rw [ints_get (by omega)]; simp)) (by omega) (by omega) ⟨by omega, by omega, rfl⟩ ⟨rfl, by rw [show 0 + Int.toNat ((i : Int) + 1) = i + 1 by omega, ints_get (by omega)]; simp⟩ (by omega)
    rw [show 0 + Int.toNat ((i : Int) + 1) = i + 1 by omega, show atZ x g i + sideZ (x i) + g = atZ x g (i + 1) by rw [atZ_succ]; omega, ints_step (y := atZ x g) (z := fun _ => 0) (i := i + 1)] at st
    refine Loops.round st ?_ (bg_loop k (i + 1) (by omega))
    exact Ent.drop (by kernel_rfl) (by kernel_rfl) (by kernel_rfl) (by kernel_rfl) (by simp [All_cons, All_nil, Clo, hc]; simp [Ids]) (by simp only [List.map, All_cons, All_nil, and_true]; exact ⟨hb.clo _, fun e he => (ints_bare _ _ e he).clo _⟩)
end

theorem begins_does {H : AHeap} {o : Option AAddr} {n c id ver off : Nat} {b : ABlk} {x : Nat → Int} (h1 : IntsAt H o n c id ver off b x) (hn : n ≤ 4096) {g : Int} (hg : 0 ≤ g ∧ g ≤ 4096) :
    FDoes Try.prog 47 [.slice o n c, .int .i64 g] H (.slice (some ⟨H.next, 0, 0, 0, 1⟩) (n + 1) (n + 1)) (H.upd [] [IRow (n + 1) (atZ x g)]) := by
  have s1 := h1.sl.at 0
  have l := bg_loop hn s1 h1.bare h1.el hg n 0 (by omega)
  rw [show (ints (n + 1) fun j => if j < 0 + 1 then atZ x g j else 0) = List.replicate (n + 1) (AVal.int .i64 0) by
    rw [ints_zero]; refine ints_congr fun j _ => ?_
    by_cases c : j < 0 + 1
    · rw [if_pos c, show j = 0 by omega]; rfl
    · rw [if_neg c]] at l
  have k := (bg_call _ n c b _ g (by omega) ⟨by omega, by omega, by omega, by omega⟩ (Runs.of_loops l)).new1 (bn := IRow (n + 1) (atZ x g)) (by simp [h1.bare]) (irow_bare _ _) (by kernel_rfl) (by kernel_rfl) (by simp) (by simp [Clos, Clo, s1.clo]) (H := H) [id] (by simp) (by simp [h1.lt]) (by simp [h1.get])
  simpa [h1.sl.back (id' := 0) (r := toBig [id] H.next) rfl, AVal.ren] using k

theorem max_if (m : Int) : (if 1 > m then 1 else m) = max m 1 := by split <;> omega

/-- grid.stretch -/
theorem stretch_does {H : AHeap} {n id : Nat} {x : Nat → Int} {g : Int} (hg : 0 ≤ g ∧ g ≤ 4096) (hn : n ≤ 4096) (hget : H.get id = some (IRow (n + 1) (atZ x g))) (hlt : id < H.next) (p m : Int) (hp : Fit64 p) (hm : Fit64 m) :
    FDoes Try.prog 48 [.slice (some ⟨id, 0, 0, 0, 1⟩) (n + 1) (n + 1), .int .i64 g, .int .i64 p, .int .i64 m] H (.tuple [.int .i64 (begZ x g n p m), .int .i64 (sizZ x g n p m), .bool (decide (okZ n p m))]) H := by
  have hs : SlArg (some ⟨0, 0, 0, 0, 1⟩) (n + 1) (n + 1) 0 0 0 1 := .inl rfl
  have el : ∀ j, j < n + 1 → (IRow (n + 1) (atZ x g)).elem? 0 (0 + j) = some (.int .i64 (atZ x g j)) := fun j hj => by rw [Nat.zero_add]; exact elem_made (ints_get hj)
  have fin : ∀ {v : AVal} {h' : AHeap}, Bare v → FDoes Try.prog 48 [.slice (some ⟨0, 0, 0, 0, 1⟩) (n + 1) (n + 1), .int .i64 g, .int .i64 p, .int .i64 m] (AHeap.of [IRow (n + 1) (atZ x g)]) v h' → h'.get 0 = some (IRow (n + 1) (atZ x g)) →
      FDoes Try.prog 48 [.slice (some ⟨id, 0, 0, 0, 1⟩) (n + 1) (n + 1), .int .i64 g, .int .i64 p, .int .i64 m] H v H := by
    intro v h' hv k hg'
    have k2 := k.pure (by simp; exact irow_bare _ _) (by simp [hg']) hv (by simp [Clos, Clo]) (H := H) [id] (by simp) (by simp [hlt]) (by simp [hget])
    simpa [AVal.ren, AAddr.ren, toBig] using k2
  have bt : ∀ (a b : Int) (t : Bool), Bare (.tuple [.int .i64 a, .int .i64 b, .bool t]) := fun a b t => ⟨fun r => by simp [AVal.ren, AVal.rens], by simp [Clo, Clos]⟩
  have sz := sizZ_range x hg n p m
  have hp1 : -9223372036854775808 ≤ p ∧ p ≤ 9223372036854775807 := hp
  have hm1 : -9223372036854775808 ≤ m ∧ m ≤ 9223372036854775807 := hm
  have no : ¬ okZ n p m → (AVal.tuple [.int .i64 (begZ x g n p m), .int .i64 (sizZ x g n p m), .bool (decide (okZ n p m))]) = .tuple [.int .i64 0, .int .i64 0, .bool false] := fun h => by
    unfold begZ sizZ; rw [if_neg h, if_neg h, decide_eq_false h]
  by_cases h0 : p < 0
  · have l0 : lenZ p m = max m 1 + p := by unfold lenZ; rw [if_pos h0]
    by_cases h1 : n = 0
    · rw [no (fun h => by have := h.1; omega)]
      exact fin (bt _ _ _) (gs_neg_nT (some ⟨0, 0, 0, 0, 1⟩) n (n + 1) 0 0 _ g p m 0 0 (by omega) h0 (by rw [max_if]; omega) (by omega)) (by kernel_rfl)
    · by_cases h2 : max m 1 + p < 1
      · rw [no (fun h => by have := h.2; omega)]
        exact fin (bt _ _ _) (gs_neg_nFT (some ⟨0, 0, 0, 0, 1⟩) n (n + 1) 0 0 _ g p m 0 0 (by omega) h0 (by rw [max_if]; omega) (by omega) (by rw [max_if]; omega)) (by kernel_rfl)
      · have ok : okZ n p m := ⟨by omega, by omega⟩
        have e0 : p.toNat = 0 := by omega
        have eh : hiZ n p m = min n (max m 1 + p).toNat := by unfold hiZ; rw [e0, l0, Nat.zero_add]
        have hq : (0 : Int) + (if ((n + 1 : Nat) : Int) - 1 - 0 < max m 1 + p then ((n + 1 : Nat) : Int) - 1 - 0 else max m 1 + p) = (hiZ n p m : Nat) := by rw [eh]; split <;> omega
        have hh : hiZ n p m ≤ n := by unfold hiZ; omega
        have r := atZ_range x hg (hiZ n p m)
        have ev : (AVal.tuple [.int .i64 (begZ x g n p m), .int .i64 (sizZ x g n p m), .bool (decide (okZ n p m))]) = .tuple [.int .i64 (atZ x g 0), .int .i64 (atZ x g (hiZ n p m) - g - atZ x g 0), .bool true] := by
          unfold begZ sizZ; rw [if_pos ok, if_pos ok, decide_eq_true ok, e0]
        have r0 : atZ x g 0 = 0 := rfl
        rw [ev]
        refine fin (bt _ _ _) (gs_neg_ok (some ⟨0, 0, 0, 0, 1⟩) n (n + 1) 0 0 _ g p m (atZ x g 0) (atZ x g (hiZ n p m)) (hiZ n p m) (by omega) h0 (by rw [max_if]; omega) (by omega) (by rw [max_if]; omega) (by omega) (ix_intN (i := 0) hs (by omega)) (el 0 (by omega)) (by rw [max_if, hq]; omega) (by rw [max_if, hq]; exact ix_intN hs (by omega)) (el _ (by omega)) (by omega) (ix_intN (i := 0) hs (by omega)) (el 0 (by omega)) (by omega)) (by kernel_rfl)
  · have l0 : lenZ p m = max m 1 := by unfold lenZ; rw [if_neg h0]
    by_cases h1 : p ≥ n
    · rw [no (fun h => by have := h.1; omega)]
      exact fin (bt _ _ _) (gs_pos_nT (some ⟨0, 0, 0, 0, 1⟩) n (n + 1) 0 0 _ g p m 0 0 (by omega) h0 (by omega)) (by kernel_rfl)
    · have ok : okZ n p m := ⟨by omega, by omega⟩
      have eh : hiZ n p m = min n (p.toNat + (max m 1).toNat) := by unfold hiZ; rw [l0]
      have hq : p + (if ((n + 1 : Nat) : Int) - 1 - p < max m 1 then ((n + 1 : Nat) : Int) - 1 - p else max m 1) = (hiZ n p m : Nat) := by rw [eh]; split <;> omega
      have hh : hiZ n p m ≤ n := by unfold hiZ; omega
      have r := atZ_range x hg (hiZ n p m)
      have r1 := atZ_range x hg p.toNat
      have ep : p = (p.toNat : Int) := by omega
      have ev : (AVal.tuple [.int .i64 (begZ x g n p m), .int .i64 (sizZ x g n p m), .bool (decide (okZ n p m))]) = .tuple [.int .i64 (atZ x g p.toNat), .int .i64 (atZ x g (hiZ n p m) - g - atZ x g p.toNat), .bool true] := by
        unfold begZ sizZ; rw [if_pos ok, if_pos ok, decide_eq_true ok]
      have ixp : aindexAddr (AEnv.D env) 32 (AVal.slice (some ⟨0, 0, 0, 0, 1⟩) (n + 1) (n + 1)) (AVal.int IntKind.i64 p) = some (AVal.ptr (some ⟨0, 0, 0 + p.toNat, 0, 1⟩)) := ix_int hs (by omega) (by omega)
      rw [ev]
      refine fin (bt _ _ _) (gs_pos_ok (some ⟨0, 0, 0, 0, 1⟩) n (n + 1) 0 0 _ g p m (atZ x g p.toNat) (atZ x g (hiZ n p m)) (hiZ n p m) p.toNat (by omega) h0 (by omega) (by rw [max_if]; omega) (by omega) ixp (el _ (by omega)) (by rw [max_if, hq]; omega) (by rw [max_if, hq]; exact ix_intN hs (by omega)) (el _ (by omega)) (by omega) ixp (el _ (by omega)) (by omega)) (by kernel_rfl)

section
variable {n m k : Nat} (hn : n ≤ 4096) (hm : m ≤ 4096) (hk : k ≤ 4096) {o : Option AAddr} {c ver off : Nat} {b0 b1 b : ABlk} (hs : SlArg o k c 2 ver off 4) (hb0 : BareB b0) (hb1 : BareB b1) (hb : BareB b) {w : Nat → Qd} (hel : ∀ j, j < k → b.elem? ver (off + j) = some (w j).val) (hw : ∀ j, j < k → (w j).Fits) {x y : Nat → Int} {g : Int} (hg : 0 ≤ g ∧ g ≤ 4096)
include hn hm hk hs hb0 hb1 hb hel hg hw

theorem rx_loop : ∀ (f i : Nat), i + f = k →
    Loops Try.prog 3 82 (loopAt Try.prog 21 0) [(2, .int .i64 g), (9, .slice (some ⟨23, 0, 0, 0, 1⟩) (n + 1) (n + 1)), (10, .slice (some ⟨24, 0, 0, 0, 1⟩) (m + 1) (m + 1)), (11, .slice (some ⟨27, 0, 0, 0, 4⟩) k k), (39, .slice o k c), (40, .int .i64 k), (41, .int .i64 i)]
      (AHeap.rows 32 [(0, b0), (1, b1), (2, b), (23, IRow (n + 1) (atZ x g)), (24, IRow (m + 1) (atZ y g)), (27, .made (qrows k fun j => if j < i then rectZ x n y m g (w j) else Qd0) 4 true)]) (.exit 0)
      [(11, .slice (some ⟨27, 0, 0, 0, 4⟩) k k)] (AHeap.rows 33 [(0, b0), (1, b1), (2, b), (27, .made (qrows k fun j => rectZ x n y m g (w j)) 4 true)])
  | 0, i, e => by
    obtain rfl : i = k := by omega
    rw [show (qrows i fun j => if j < i then rectZ x n y m g (w j) else Qd0) = (qrows i fun j => rectZ x n y m g (w j)) from qrows_congr fun j hj => by rw [if_pos hj]]
    refine (Loops.last (by simp) (rx_end o n m i c 0 0 i b0 b1 b _ _ _ g 0 0 0 0 0 0 0 0 false (by omega))).post ?_
    exact Ent.drop (by kernel_rfl) (by kernel_rfl) (by kernel_rfl) (by kernel_rfl) (by simp [All_cons, All_nil, Clo, Ids]) (by simp only [List.map, All_cons, All_nil, and_true]; exact ⟨hb0.clo _, hb1.clo _, hb.clo _, (qrows_bare _ _).clo _⟩)
  | f + 1, i, e => by
    have hi : i < k := by omega
    have hc : Clo (Ids [0, 1, 2, 23, 24, 27]) (.slice o k c) := hs.clo (by simp [Ids])
    have fw := hw i hi
    have ih := rx_loop f (i + 1) (by omega)
    have dr : ∀ K v, Ent 3 82 [(2, .int .i64 g), (9, .slice (some ⟨23, 0, 0, 0, 1⟩) (n + 1) (n + 1)), (10, .slice (some ⟨24, 0, 0, 0, 1⟩) (m + 1) (m + 1)), (11, .slice (some ⟨27, 0, 0, 0, 4⟩) k k), (39, .slice o k c), (40, .int .i64 k), (41, .int .i64 (i + 1 : Nat))]
        (AHeap.rows K [(0, b0), (1, b1), (2, b), (23, IRow (n + 1) (atZ x g)), (24, IRow (m + 1) (atZ y g)), (27, .made (qrows k fun j => if j < i + 1 then rectZ x n y m g (w j) else Qd0) 4 true), (36, v)])
        [(2, .int .i64 g), (9, .slice (some ⟨23, 0, 0, 0, 1⟩) (n + 1) (n + 1)), (10, .slice (some ⟨24, 0, 0, 0, 1⟩) (m + 1) (m + 1)), (11, .slice (some ⟨27, 0, 0, 0, 4⟩) k k), (39, .slice o k c), (40, .int .i64 k), (41, .int .i64 (i + 1 : Nat))]
        (AHeap.rows 32 [(0, b0), (1, b1), (2, b), (23, IRow (n + 1) (atZ x g)), (24, IRow (m + 1) (atZ y g)), (27, .made (qrows k fun j => if j < i + 1 then rectZ x n y m g (w j) else Qd0) 4 true)]) := fun K v =>
      Ent.drop (by kernel_rfl) (by kernel_rfl) (by kernel_rfl) (by kernel_rfl) (by simp [All_cons, All_nil, Clo, hc]; simp [Ids]) (by simp only [List.map, All_cons, All_nil, and_true]; exact ⟨hb0.clo _, hb1.clo _, hb.clo _, (irow_bare _ _).clo _, (irow_bare _ _).clo _, (qrows_bare _ _).clo _⟩)
    have no : ¬ (okZ n (w i).a (w i).c ∧ okZ m (w i).b (w i).d) → (qrows k fun j => if j < i then rectZ x n y m g (w j) else Qd0) = (qrows k fun j => if j < i + 1 then rectZ x n y m g (w j) else Qd0) := fun h => qrows_congr fun j _ => by
      by_cases e1 : j = i
      · subst e1; simp [rectZ, h]
      · by_cases e2 : j < i
        · rw [if_pos e2, if_pos (by omega)]
        · rw [if_neg e2, if_neg (by omega)]
    have sx := fun (K : Nat) (v : ABlk) => stretch_does (x := x) (n := n) (H := AHeap.rows K [(0, b0), (1, b1), (2, b), (23, IRow (n + 1) (atZ x g)), (24, IRow (m + 1) (atZ y g)), (27, .made (qrows k fun j => if j < i then rectZ x n y m g (w j) else Qd0) 4 true), (36, v)]) (id := 23) hg hn (by kernel_rfl)
    have sy := fun (K : Nat) (v : ABlk) => stretch_does (x := y) (n := m) (H := AHeap.rows K [(0, b0), (1, b1), (2, b), (23, IRow (n + 1) (atZ x g)), (24, IRow (m + 1) (atZ y g)), (27, .made (qrows k fun j => if j < i then rectZ x n y m g (w j) else Qd0) 4 true), (36, v)]) (id := 24) hg hm (by kernel_rfl)
    by_cases h1 : okZ n (w i).a (w i).c
    · by_cases h2 : okZ m (w i).b (w i).d
      · have st := rx_TT o n m k c ver off i b0 b1 b _ _ (qrows k fun j => if j < i then rectZ x n y m g (w j) else Qd0) g (w i).a (w i).b (w i).c (w i).d _ _ _ _ false (by omega) (ix_spS hs hi) (hel i hi)
          (by have := sx 53 (.made [(w i).val] 4 true) (by rw [AHeap.rows_next]; omega) (w i).a (w i).c fw.a fw.c; rwa [decide_eq_true h1] at this) (by have := sy 67 (.made [(w i).val] 4 true) (by rw [AHeap.rows_next]; omega) (w i).b (w i).d fw.b fw.d; rwa [decide_eq_true h2] at this)
          ⟨by omega, by omega, rfl⟩ ⟨rfl, by rw [show 0 + Int.toNat (i : Int) = i by simp, qrows_get hi]; simp; rfl⟩ (by omega)
        have er : (AVal.agg [.int .i64 (begZ x g n (w i).a (w i).c), .int .i64 (begZ y g m (w i).b (w i).d), .int .i64 (sizZ x g n (w i).a (w i).c), .int .i64 (sizZ y g m (w i).b (w i).d)]) = (rectZ x n y m g (w i)).val := by unfold rectZ; rw [if_pos ⟨h1, h2⟩]; rfl
        rw [er, show 0 + Int.toNat (i : Int) = i by simp, qrows_step (y := fun j => rectZ x n y m g (w j)) (z := fun _ => Qd0) (i := i)] at st
        exact Loops.round st (dr _ _) ih
      · have st := rx_TF o n m k c ver off i b0 b1 b _ _ (qrows k fun j => if j < i then rectZ x n y m g (w j) else Qd0) g (w i).a (w i).b (w i).c (w i).d _ _ _ _ false (by omega) (ix_spS hs hi) (hel i hi)
          (by have := sx 53 (.made [(w i).val] 4 true) (by rw [AHeap.rows_next]; omega) (w i).a (w i).c fw.a fw.c; rwa [decide_eq_true h1] at this) (by have := sy 67 (.made [(w i).val] 4 true) (by rw [AHeap.rows_next]; omega) (w i).b (w i).d fw.b fw.d; rwa [decide_eq_false h2] at this) (by omega)
        rw [no (fun h => h2 h.2)] at st
        rw [no (fun h => h2 h.2)]
        exact Loops.round st (dr _ _) ih
    · have st := rx_F o n m k c ver off i b0 b1 b _ _ (qrows k fun j => if j < i then rectZ x n y m g (w j) else Qd0) g (w i).a (w i).b (w i).c (w i).d _ _ _ _ (decide (okZ m (w i).b (w i).d)) (by omega) (ix_spS hs hi) (hel i hi)
        (by have := sx 53 (.made [(w i).val] 4 true) (by rw [AHeap.rows_next]; omega) (w i).a (w i).c fw.a fw.c; rwa [decide_eq_false h1] at this) (sy 67 (.made [(w i).val] 4 true) (by rw [AHeap.rows_next]; omega) (w i).b (w i).d fw.b fw.d) (by omega)
      rw [no (fun h => h1 h.1)] at st
      rw [no (fun h => h1 h.1)]
      exact Loops.round st (dr _ _) ih
end

end Go.Proofs.Ytcgcpmcjaeenlaa

namespace Go.Proofs.Ytcgcpmcjaeenlaa
open Go.Lift
set_option maxRecDepth 1000000
set_option linter.unusedSimpArgs false
set_option linter.unusedVariables false
set_option linter.unusedSectionVars false

end Go.Proofs.Ytcgcpmcjaeenlaa

namespace Go.Proofs.Ytcgcpmcjaeenlaa
open Go.Lift
set_option maxRecDepth 1000000
set_option linter.unusedSimpArgs false
set_option linter.unusedVariables false
set_option linter.unusedSectionVars false

/-- how many rectangles are told -/
def rlen (n m k : Nat) : Nat := if 4096 < n ∨ 4096 < m ∨ 4096 < k then 0 else k
theorem rects_does {H : AHeap} {o0 o1 o : Option AAddr} {n c0 m c1 k c id0 id1 id2 v0 f0 v1 f1 ver off : Nat} {b0 b1 b : ABlk} {x y : Nat → Int} {w : Nat → Qd} (h0 : IntsAt H o0 n c0 id0 v0 f0 b0 x) (h1 : IntsAt H o1 m c1 id1 v1 f1 b1 y) (h2 : QdsAt H o k c id2 ver off b w)
    (hne : [id0, id1, id2].Nodup) (hw : ∀ j, j < k → (w j).Fits) (gap : Int) (hn : n ≤ 4096) (hm : m ≤ 4096) (hk : k ≤ 4096) :
    FDoes Try.prog 21 [.slice o0 n c0, .slice o1 m c1, .int .i64 gap, .slice o k c] H (.slice (some ⟨H.next, 0, 0, 0, 4⟩) k k) (H.upd [] [.made (qrows k fun j => rectZ x n y m (sideZ gap) (w j)) 4 true]) := by
  have s0 := h0.sl.at 0
  have s1 := h1.sl.at 1
  have s2 := h2.sl.at 2
  have l := rx_loop hn hm hk s2 h0.bare h1.bare h2.bare h2.el hw (x := x) (y := y) (sideZ_range gap) k 0 (by omega)
  rw [show (qrows k fun j => if j < 0 then rectZ x n y m (sideZ gap) (w j) else Qd0) = List.replicate k Qd0.val from (qrows_zero2 _ _).symm] at l
  have g1 := begins_does (H := AHeap.rows 23 [(0, b0), (1, b1), (2, b)]) (x := x) ⟨s0, by kernel_rfl, by rw [AHeap.rows_next]; omega, h0.bare, h0.el⟩ hn (sideZ_range gap)
  have g2 := begins_does (H := AHeap.rows 24 [(0, b0), (1, b1), (2, b), (23, IRow (n + 1) (atZ x (sideZ gap)))]) (x := y) ⟨s1, by kernel_rfl, by rw [AHeap.rows_next]; omega, h1.bare, h1.el⟩ hm (sideZ_range gap)
  rw [AHeap.rows_next] at g1 g2
  have kk := (rx_call _ _ _ n c0 m c1 k c b0 b1 b _ _ _ gap (by split <;> (try split) <;> omega) (g1.to (by kernel_rfl)) (g2.to (by kernel_rfl)) ⟨by omega, by omega, by omega, by omega⟩ (Runs.of_loops l)).new1 (bn := .made (qrows k fun j => rectZ x n y m (sideZ gap) (w j)) 4 true)
    (by simp [h0.bare, h1.bare, h2.bare]) (qrows_bare _ _) (by kernel_rfl) (by kernel_rfl) (by simp) (by simp [Clos, Clo, s0.clo, s1.clo, s2.clo]) (H := H) [id0, id1, id2] hne (by simp [h0.lt, h1.lt, h2.lt]) (by simp [h0.get, h1.get, h2.get])
  simpa [h0.sl.back (id' := 0) (r := toBig [id0, id1, id2] H.next) rfl, h1.sl.back (id' := 1) (r := toBig [id0, id1, id2] H.next) rfl, h2.sl.back (id' := 2) (r := toBig [id0, id1, id2] H.next) rfl, AVal.ren] using kk

theorem rects_any {H : AHeap} {o0 o1 o : Option AAddr} {n c0 m c1 k c id0 id1 id2 v0 f0 v1 f1 ver off : Nat} {b0 b1 b : ABlk} {x y : Nat → Int} {w : Nat → Qd} (h0 : IntsAt H o0 n c0 id0 v0 f0 b0 x) (h1 : IntsAt H o1 m c1 id1 v1 f1 b1 y) (h2 : QdsAt H o k c id2 ver off b w)
    (hne : [id0, id1, id2].Nodup) (hw : ∀ j, j < k → (w j).Fits) (gap : Int) {N : Nat} (hN : H.next = N) :
    ∃ (o' : Option AAddr) (c' : Nat), SlArg o' (rlen n m k) c' N 0 0 4 ∧ c' = rlen n m k ∧ FDoes Try.prog 21 [.slice o0 n c0, .slice o1 m c1, .int .i64 gap, .slice o k c] H (.slice o' (rlen n m k) c') (H.upd [] [.made (qrows (rlen n m k) fun j => rectZ x n y m (sideZ gap) (w j)) 4 true]) := by
  subst hN
  by_cases h : 4096 < n ∨ 4096 < m ∨ 4096 < k
  · have e : rlen n m k = 0 := by unfold rlen; rw [if_pos h]
    rw [e]
    have s0 := h0.sl.at 0
    have s1 := h1.sl.at 1
    have s2 := h2.sl.at 2
    have kk := (rx_nil (o0.map fun a => { a with id := 0 }) (o1.map fun a => { a with id := 1 }) (o.map fun a => { a with id := 2 }) n c0 m c1 k c b0 b1 b b0 b0 [] gap (by split <;> (try split) <;> omega)).pure (by simp [h0.bare, h1.bare, h2.bare]) (by kernel_rfl) ⟨fun r => rfl, trivial⟩ (by simp [Clos, Clo, s0.clo, s1.clo, s2.clo]) (H := H) [id0, id1, id2] hne (by simp [h0.lt, h1.lt, h2.lt]) (by simp [h0.get, h1.get, h2.get])
    have k2 : FDoes Try.prog 21 [.slice o0 n c0, .slice o1 m c1, .int .i64 gap, .slice o k c] H (.slice none 0 0) H := by
      simpa [h0.sl.back (id' := 0) (r := toBig [id0, id1, id2] H.next) rfl, h1.sl.back (id' := 1) (r := toBig [id0, id1, id2] H.next) rfl, h2.sl.back (id' := 2) (r := toBig [id0, id1, id2] H.next) rfl, AVal.ren] using kk
    exact ⟨none, 0, .inr ⟨rfl, rfl, rfl⟩, rfl, k2.pad1 _⟩
  · have e : rlen n m k = k := by unfold rlen; rw [if_neg h]
    rw [e]
    exact ⟨some ⟨H.next, 0, 0, 0, 4⟩, k, .inl rfl, rfl, rects_does h0 h1 h2 hne hw gap (by omega) (by omega) (by omega)⟩

/-! the document's -/
section
variable {n : Nat} (hn : n ≤ 4096) {o : Option AAddr} {c ver off : Nat} {b : ABlk} (hs : SlArg o n c 0 ver off 1) (hb : BareB b) {x : Nat → Int} (hel : ∀ j, j < n → b.elem? ver (off + j) = some (.int .i64 (x j))) {g : Int} (hg : 0 ≤ g ∧ g ≤ 4096) {p m : Int} (hp : Fit64 p) (hm : Fit64 m)
include hn hs hb hel hg hp hm

end

end Go.Proofs.Ytcgcpmcjaeenlaa

namespace Go.Proofs.Ytcgcpmcjaeenlaa
open Go.Lift
set_option maxRecDepth 1000000
set_option linter.unusedSimpArgs false
set_option linter.unusedVariables false
set_option linter.unusedSectionVars false

theorem gp_new (o o1 o2 : Option AAddr) (n c n1 c1 n2 c2 ver off v q i : Nat) (b0 b1 b2 r r2 : ABlk) (gap pa pb : Int) (hc_0 : (i : Int) < (n : Int)) (hc_1 : (i : Int) < 300) (hc_2 : aindexAddr env.D 47 (.slice o n c) (.int .i64 (i : Int)) = some (.ptr (some ⟨0, ver, off + i, 0, 2⟩))) (hc_3 : ABlk.elem? b0 ver (off + i) = some (.agg [.int .i64 pa, .int .i64 pb])) (hc_4 : aindexAddr env.D 47 (.slice o n c) (.int .i64 (i : Int)) = some (.ptr (some ⟨0, ver, off + i, 0, 2⟩))) (hc_5 : ABlk.elem? b0 ver (off + i) = some (.agg [.int .i64 pa, .int .i64 pb])) (hc_8 : abuiltin env Builtin.append { toList := [22, 22] } [.slice none 0 0, .slice (some ⟨31, 0, 0, 0, 4⟩) 1 1] 32 (AHeap.set (AHeap.rows 34 [(0, b0), (1, b1), (2, b2)]) 31 (.made [.agg [.int .i64 (-1), .int .i64 (-1), .int .i64 pa, .int .i64 (roundZ pb 4)]] 4 true)) = some (.slice (some ⟨32, 0, 0, 0, 4⟩) 1 1, (AHeap.rows 34 [(0, b0), (1, b1), (2, b2), (31, .made [.agg [.int .i64 (-1), .int .i64 (-1), .int .i64 pa, .int .i64 (roundZ pb 4)]] 4 true), (32, r2)]))) (hc_9 : -9223372036854775808 ≤ (i : Int) + 1 ∧ (i : Int) + (1 : Int) ≤ 9223372036854775807) :
    Runs Try.prog 3 253 (loopAt Try.prog 9 0) [(0, .slice o n c), (1, .slice o1 n1 c1), (2, .slice o2 n2 c2), (3, .int .i64 gap), (9, .slice none 0 0), (10, .int .i64 i)] (AHeap.rows 10 [(0, b0), (1, b1), (2, b2)]) .normal [(0, .slice o n c), (1, .slice o1 n1 c1), (2, .slice o2 n2 c2), (3, .int .i64 gap), (9, .slice (some ⟨32, 0, 0, 0, 4⟩) 1 1), (10, .int .i64 ((i : Int) + 1))] (AHeap.rows 37 [(0, b0), (1, b1), (2, b2), (31, .made [.agg [.int .i64 (-1), .int .i64 (-1), .int .i64 pa, .int .i64 (roundZ pb 4)]] 4 true), (32, r2)]) :=
  ppath_runs env_ok mixed (hs := [.val 7003 (.bool true), .val 7006 (.bool true), .val 9003 (.ptr (some ⟨0, ver, off + i, 0, 2⟩)), .ld 9005 (.agg [.int .i64 pa, .int .i64 pb]), .val 9008 (.ptr (some ⟨0, ver, off + i, 0, 2⟩)), .ld 9010 (.agg [.int .i64 pa, .int .i64 pb]), .val 9011 (.int .i64 (roundZ pb 4)), .act 9014 (.slice (some ⟨32, 0, 0, 0, 4⟩) 1 1) (fun h => h.set 32 r2), .go 8001]) (keep := [0, 1, 2, 3, 9, 10]) (by kernel_rfl) (All.cons (okT hc_0) (All.cons (okT hc_1) (All.cons hc_2 (All.cons hc_3 (All.cons hc_4 (All.cons hc_5 (All.cons (show CallT Try.prog 24 [.int .i64 pb, .int .i64 4] (AHeap.rows 34 [(0, b0), (1, b1), (2, b2)]) (.int .i64 (roundZ pb 4)) (AHeap.rows 34 [(0, b0), (1, b1), (2, b2)]) from ⟨(lround_does _ _ (by omega) _)⟩) (All.cons (show sameOld 34 (AHeap.rows 34 [(0, b0), (1, b1), (2, b2)]) (AHeap.rows 34 [(0, b0), (1, b1), (2, b2)]) = true from sameOld_refl _ _) (All.cons hc_8 (All.cons hc_9 (All.nil)))))))))))

theorem gp_grow (o o1 o2 : Option AAddr) (n c n1 c1 n2 c2 ver off v q i : Nat) (b0 b1 b2 r r2 : ABlk) (gap pa pb : Int) (hc_0 : (i : Int) < (n : Int)) (hc_1 : (i : Int) < 300) (hc_2 : aindexAddr env.D 47 (.slice o n c) (.int .i64 (i : Int)) = some (.ptr (some ⟨0, ver, off + i, 0, 2⟩))) (hc_3 : ABlk.elem? b0 ver (off + i) = some (.agg [.int .i64 pa, .int .i64 pb])) (hc_4 : aindexAddr env.D 47 (.slice o n c) (.int .i64 (i : Int)) = some (.ptr (some ⟨0, ver, off + i, 0, 2⟩))) (hc_5 : ABlk.elem? b0 ver (off + i) = some (.agg [.int .i64 pa, .int .i64 pb])) (hc_8 : abuiltin env Builtin.append { toList := [22, 22] } [.slice (some ⟨32, v, 0, 0, 4⟩) q q, .slice (some ⟨54, 0, 0, 0, 4⟩) 1 1] 55 (AHeap.set (AHeap.rows 57 [(0, b0), (1, b1), (2, b2), (32, r)]) 54 (.made [.agg [.int .i64 (-1), .int .i64 (-1), .int .i64 pa, .int .i64 (roundZ pb 4)]] 4 true)) = some (.slice (some ⟨32, v + 1, 0, 0, 4⟩) (q + 1) (q + 1), (AHeap.rows 57 [(0, b0), (1, b1), (2, b2), (32, r2), (54, .made [.agg [.int .i64 (-1), .int .i64 (-1), .int .i64 pa, .int .i64 (roundZ pb 4)]] 4 true)]))) (hc_9 : -9223372036854775808 ≤ (i : Int) + 1 ∧ (i : Int) + (1 : Int) ≤ 9223372036854775807) :
    Runs Try.prog 3 253 (loopAt Try.prog 9 0) [(0, .slice o n c), (1, .slice o1 n1 c1), (2, .slice o2 n2 c2), (3, .int .i64 gap), (9, .slice (some ⟨32, v, 0, 0, 4⟩) q q), (10, .int .i64 i)] (AHeap.rows 33 [(0, b0), (1, b1), (2, b2), (32, r)]) .normal [(0, .slice o n c), (1, .slice o1 n1 c1), (2, .slice o2 n2 c2), (3, .int .i64 gap), (9, .slice (some ⟨32, v + 1, 0, 0, 4⟩) (q + 1) (q + 1)), (10, .int .i64 ((i : Int) + 1))] (AHeap.rows 60 [(0, b0), (1, b1), (2, b2), (32, r2), (54, .made [.agg [.int .i64 (-1), .int .i64 (-1), .int .i64 pa, .int .i64 (roundZ pb 4)]] 4 true)]) :=
  ppath_runs env_ok mixed (hs := [.val 7003 (.bool true), .val 7006 (.bool true), .val 9003 (.ptr (some ⟨0, ver, off + i, 0, 2⟩)), .ld 9005 (.agg [.int .i64 pa, .int .i64 pb]), .val 9008 (.ptr (some ⟨0, ver, off + i, 0, 2⟩)), .ld 9010 (.agg [.int .i64 pa, .int .i64 pb]), .val 9011 (.int .i64 (roundZ pb 4)), .act 9014 (.slice (some ⟨32, v + 1, 0, 0, 4⟩) (q + 1) (q + 1)) (fun h => h.set 32 r2), .go 8001]) (keep := [0, 1, 2, 3, 9, 10]) (by kernel_rfl) (All.cons (okT hc_0) (All.cons (okT hc_1) (All.cons hc_2 (All.cons hc_3 (All.cons hc_4 (All.cons hc_5 (All.cons (show CallT Try.prog 24 [.int .i64 pb, .int .i64 4] (AHeap.rows 57 [(0, b0), (1, b1), (2, b2), (32, r)]) (.int .i64 (roundZ pb 4)) (AHeap.rows 57 [(0, b0), (1, b1), (2, b2), (32, r)]) from ⟨(lround_does _ _ (by omega) _)⟩) (All.cons (show sameOld 57 (AHeap.rows 57 [(0, b0), (1, b1), (2, b2), (32, r)]) (AHeap.rows 57 [(0, b0), (1, b1), (2, b2), (32, r)]) = true from sameOld_refl _ _) (All.cons hc_8 (All.cons hc_9 (All.nil)))))))))))

theorem gp_endN (o o1 o2 : Option AAddr) (n c n1 c1 n2 c2 ver off v q i : Nat) (b0 b1 b2 r r2 : ABlk) (gap pa pb : Int) (sl : AVal) (hc_0 : ¬ ((i : Int) < (n : Int))) :
    Runs Try.prog 3 253 (loopAt Try.prog 9 0) [(0, .slice o n c), (1, .slice o1 n1 c1), (2, .slice o2 n2 c2), (3, .int .i64 gap), (9, sl), (10, .int .i64 i)] (AHeap.rows 33 [(0, b0), (1, b1), (2, b2), (32, r)]) (.exit 0) [(1, .slice o1 n1 c1), (2, .slice o2 n2 c2), (3, .int .i64 gap), (9, sl)] (AHeap.rows 41 [(0, b0), (1, b1), (2, b2), (32, r)]) :=
  ppath_runs env_ok mixed (hs := [.val 7003 (.bool false)]) (keep := [1, 2, 3, 9]) (by kernel_rfl) (All.cons (okF hc_0) (All.nil))

theorem gp_endM (o o1 o2 : Option AAddr) (n c n1 c1 n2 c2 ver off v q i : Nat) (b0 b1 b2 r r2 : ABlk) (gap pa pb : Int) (sl : AVal) (hc_0 : (i : Int) < (n : Int)) (hc_1 : ¬ ((i : Int) < 300)) :
    Runs Try.prog 3 253 (loopAt Try.prog 9 0) [(0, .slice o n c), (1, .slice o1 n1 c1), (2, .slice o2 n2 c2), (3, .int .i64 gap), (9, sl), (10, .int .i64 i)] (AHeap.rows 33 [(0, b0), (1, b1), (2, b2), (32, r)]) (.exit 0) [(1, .slice o1 n1 c1), (2, .slice o2 n2 c2), (3, .int .i64 gap), (9, sl)] (AHeap.rows 41 [(0, b0), (1, b1), (2, b2), (32, r)]) :=
  ppath_runs env_ok mixed (hs := [.val 7003 (.bool true), .val 7006 (.bool false)]) (keep := [1, 2, 3, 9]) (by kernel_rfl) (All.cons (okT hc_0) (All.cons (okF hc_1) (All.nil)))

theorem gp_check (orr : Option AAddr) (n cr i k : Nat) (b0 b1 b2 rr : ABlk) (ew eh ia ib ic id_ ka kb kc kd : Int) (hc_0 : (i : Int) < (n : Int)) (hc_1 : aindexAddr env.D 41 (.slice orr n cr) (.int .i64 (i : Int)) = some (.ptr (some ⟨45, 0, 0 + i, 0, 4⟩))) (hc_2 : ABlk.elem? rr 0 (0 + i) = some (.agg [.int .i64 ia, .int .i64 ib, .int .i64 ic, .int .i64 id_])) (hc_3 : ¬ (ia < 0)) (hc_4 : aindexAddr env.D 41 (.slice orr n cr) (.int .i64 (i : Int)) = some (.ptr (some ⟨45, 0, 0 + i, 0, 4⟩))) (hc_5 : ABlk.elem? rr 0 (0 + i) = some (.agg [.int .i64 ia, .int .i64 ib, .int .i64 ic, .int .i64 id_])) (hc_6 : ¬ (ib < 0)) (hc_7 : aindexAddr env.D 41 (.slice orr n cr) (.int .i64 (i : Int)) = some (.ptr (some ⟨45, 0, 0 + i, 0, 4⟩))) (hc_8 : ABlk.elem? rr 0 (0 + i) = some (.agg [.int .i64 ia, .int .i64 ib, .int .i64 ic, .int .i64 id_])) (hc_9 : ¬ (ic < 0)) (hc_10 : aindexAddr env.D 41 (.slice orr n cr) (.int .i64 (i : Int)) = some (.ptr (some ⟨45, 0, 0 + i, 0, 4⟩))) (hc_11 : ABlk.elem? rr 0 (0 + i) = some (.agg [.int .i64 ia, .int .i64 ib, .int .i64 ic, .int .i64 id_])) (hc_12 : ¬ (id_ < 0)) (hc_13 : aindexAddr env.D 41 (.slice orr n cr) (.int .i64 (i : Int)) = some (.ptr (some ⟨45, 0, 0 + i, 0, 4⟩))) (hc_14 : ABlk.elem? rr 0 (0 + i) = some (.agg [.int .i64 ia, .int .i64 ib, .int .i64 ic, .int .i64 id_])) (hc_15 : aindexAddr env.D 41 (.slice orr n cr) (.int .i64 (i : Int)) = some (.ptr (some ⟨45, 0, 0 + i, 0, 4⟩))) (hc_16 : ABlk.elem? rr 0 (0 + i) = some (.agg [.int .i64 ia, .int .i64 ib, .int .i64 ic, .int .i64 id_])) (hc_17 : -9223372036854775808 ≤ ia + ic ∧ ia + ic ≤ 9223372036854775807) (hc_18 : ¬ (ia + ic > ew)) (hc_19 : aindexAddr env.D 41 (.slice orr n cr) (.int .i64 (i : Int)) = some (.ptr (some ⟨45, 0, 0 + i, 0, 4⟩))) (hc_20 : ABlk.elem? rr 0 (0 + i) = some (.agg [.int .i64 ia, .int .i64 ib, .int .i64 ic, .int .i64 id_])) (hc_21 : aindexAddr env.D 41 (.slice orr n cr) (.int .i64 (i : Int)) = some (.ptr (some ⟨45, 0, 0 + i, 0, 4⟩))) (hc_22 : ABlk.elem? rr 0 (0 + i) = some (.agg [.int .i64 ia, .int .i64 ib, .int .i64 ic, .int .i64 id_])) (hc_23 : -9223372036854775808 ≤ ib + id_ ∧ ib + id_ ≤ 9223372036854775807) (hc_24 : ¬ (ib + id_ > eh)) (hc_25 : Runs Try.prog 3 253 (.loop (loopAt Try.prog 9 2)) [(12, .slice orr n cr), (13, .int .i64 ew), (14, .int .i64 eh), (15, .int .i64 (i : Int)), (16, .int .i64 0)] (AHeap.rows 129 [(0, b0), (1, b1), (2, b2), (45, rr)]) (.exit 4) [(12, .slice orr n cr), (13, .int .i64 ew), (14, .int .i64 eh), (15, .int .i64 (i : Int))] (AHeap.rows 130 [(0, b0), (1, b1), (2, b2), (45, rr)])) (hc_26 : -9223372036854775808 ≤ (i : Int) + 1 ∧ (i : Int) + (1 : Int) ≤ 9223372036854775807) :
    Runs Try.prog 3 253 (loopAt Try.prog 9 1) [(12, .slice orr n cr), (13, .int .i64 ew), (14, .int .i64 eh), (15, .int .i64 i)] (AHeap.rows 64 [(0, b0), (1, b1), (2, b2), (45, rr)]) .normal [(12, .slice orr n cr), (13, .int .i64 ew), (14, .int .i64 eh), (15, .int .i64 ((i : Int) + 1))] (AHeap.rows 133 [(0, b0), (1, b1), (2, b2), (45, rr)]) :=
  ppath_runs env_ok mixed (hs := [.val 17003 (.bool true), .val 19002 (.ptr (some ⟨45, 0, 0 + i, 0, 4⟩)), .ld 19004 (.agg [.int .i64 ia, .int .i64 ib, .int .i64 ic, .int .i64 id_]), .val 19005 (.bool false), .val 19009 (.ptr (some ⟨45, 0, 0 + i, 0, 4⟩)), .ld 19011 (.agg [.int .i64 ia, .int .i64 ib, .int .i64 ic, .int .i64 id_]), .val 19012 (.bool false), .val 19017 (.ptr (some ⟨45, 0, 0 + i, 0, 4⟩)), .ld 19019 (.agg [.int .i64 ia, .int .i64 ib, .int .i64 ic, .int .i64 id_]), .val 19020 (.bool false), .val 19025 (.ptr (some ⟨45, 0, 0 + i, 0, 4⟩)), .ld 19027 (.agg [.int .i64 ia, .int .i64 ib, .int .i64 ic, .int .i64 id_]), .val 19028 (.bool false), .val 19033 (.ptr (some ⟨45, 0, 0 + i, 0, 4⟩)), .ld 19035 (.agg [.int .i64 ia, .int .i64 ib, .int .i64 ic, .int .i64 id_]), .val 19038 (.ptr (some ⟨45, 0, 0 + i, 0, 4⟩)), .ld 19040 (.agg [.int .i64 ia, .int .i64 ib, .int .i64 ic, .int .i64 id_]), .go 19041, .val 19043 (.bool false), .val 19048 (.ptr (some ⟨45, 0, 0 + i, 0, 4⟩)), .ld 19050 (.agg [.int .i64 ia, .int .i64 ib, .int .i64 ic, .int .i64 id_]), .val 19053 (.ptr (some ⟨45, 0, 0 + i, 0, 4⟩)), .ld 19055 (.agg [.int .i64 ia, .int .i64 ib, .int .i64 ic, .int .i64 id_]), .go 19056, .val 19058 (.bool false), .keep [12, 13, 14, 15, 16], .loop [(12, .slice orr n cr), (13, .int .i64 ew), (14, .int .i64 eh), (15, .int .i64 i)] (AHeap.rows 130 [(0, b0), (1, b1), (2, b2), (45, rr)]) (.exit 4), .go 18001]) (keep := [12, 13, 14, 15]) (by kernel_rfl) (All.cons (okT hc_0) (All.cons hc_1 (All.cons hc_2 (All.cons (okF hc_3) (All.cons hc_4 (All.cons hc_5 (All.cons (okF hc_6) (All.cons hc_7 (All.cons hc_8 (All.cons (okF hc_9) (All.cons hc_10 (All.cons hc_11 (All.cons (okF hc_12) (All.cons hc_13 (All.cons hc_14 (All.cons hc_15 (All.cons hc_16 (All.cons hc_17 (All.cons (okF hc_18) (All.cons hc_19 (All.cons hc_20 (All.cons hc_21 (All.cons hc_22 (All.cons hc_23 (All.cons (okF hc_24) (All.cons hc_25 (All.cons hc_26 (All.nil))))))))))))))))))))))))))))

theorem gp_checkEnd (orr : Option AAddr) (n cr i k : Nat) (b0 b1 b2 rr : ABlk) (ew eh ia ib ic id_ ka kb kc kd : Int) (hc_0 : ¬ ((i : Int) < (n : Int))) :
    Runs Try.prog 3 253 (loopAt Try.prog 9 1) [(12, .slice orr n cr), (13, .int .i64 ew), (14, .int .i64 eh), (15, .int .i64 i)] (AHeap.rows 64 [(0, b0), (1, b1), (2, b2), (45, rr)]) (.exit 2) [] (AHeap.rows 68 [(0, b0), (1, b1), (2, b2), (45, rr)]) :=
  ppath_runs env_ok mixed (hs := [.val 17003 (.bool false)]) (keep := []) (by kernel_rfl) (All.cons (okF hc_0) (All.nil))

theorem gp_in0 (orr : Option AAddr) (n cr i k : Nat) (b0 b1 b2 rr : ABlk) (ew eh ia ib ic id_ ka kb kc kd : Int) (hc_0 : (k : Int) < (i : Int)) (hc_1 : aindexAddr env.D 41 (.slice orr n cr) (.int .i64 (i : Int)) = some (.ptr (some ⟨45, 0, 0 + i, 0, 4⟩))) (hc_2 : ABlk.elem? rr 0 (0 + i) = some (.agg [.int .i64 ia, .int .i64 ib, .int .i64 ic, .int .i64 id_])) (hc_3 : ¬ (ic > 0)) (hc_4 : -9223372036854775808 ≤ (k : Int) + 1 ∧ (k : Int) + (1 : Int) ≤ 9223372036854775807) :
    Runs Try.prog 3 253 (loopAt Try.prog 9 2) [(12, .slice orr n cr), (13, .int .i64 ew), (14, .int .i64 eh), (15, .int .i64 i), (16, .int .i64 k)] (AHeap.rows 64 [(0, b0), (1, b1), (2, b2), (45, rr)]) .normal [(12, .slice orr n cr), (13, .int .i64 ew), (14, .int .i64 eh), (15, .int .i64 (i : Int)), (16, .int .i64 ((k : Int) + 1))] (AHeap.rows 176 [(0, b0), (1, b1), (2, b2), (45, rr)]) :=
  ppath_runs env_ok mixed (hs := [.val 22002 (.bool true), .val 24002 (.ptr (some ⟨45, 0, 0 + i, 0, 4⟩)), .ld 24004 (.agg [.int .i64 ia, .int .i64 ib, .int .i64 ic, .int .i64 id_]), .val 24005 (.bool false), .go 23001]) (keep := [12, 13, 14, 15, 16]) (by kernel_rfl) (All.cons (okT hc_0) (All.cons hc_1 (All.cons hc_2 (All.cons (okF hc_3) (All.cons hc_4 (All.nil))))))

theorem gp_in1 (orr : Option AAddr) (n cr i k : Nat) (b0 b1 b2 rr : ABlk) (ew eh ia ib ic id_ ka kb kc kd : Int) (hc_0 : (k : Int) < (i : Int)) (hc_1 : aindexAddr env.D 41 (.slice orr n cr) (.int .i64 (i : Int)) = some (.ptr (some ⟨45, 0, 0 + i, 0, 4⟩))) (hc_2 : ABlk.elem? rr 0 (0 + i) = some (.agg [.int .i64 ia, .int .i64 ib, .int .i64 ic, .int .i64 id_])) (hc_3 : ic > 0) (hc_4 : aindexAddr env.D 41 (.slice orr n cr) (.int .i64 (i : Int)) = some (.ptr (some ⟨45, 0, 0 + i, 0, 4⟩))) (hc_5 : ABlk.elem? rr 0 (0 + i) = some (.agg [.int .i64 ia, .int .i64 ib, .int .i64 ic, .int .i64 id_])) (hc_6 : ¬ (id_ > 0)) (hc_7 : -9223372036854775808 ≤ (k : Int) + 1 ∧ (k : Int) + (1 : Int) ≤ 9223372036854775807) :
    Runs Try.prog 3 253 (loopAt Try.prog 9 2) [(12, .slice orr n cr), (13, .int .i64 ew), (14, .int .i64 eh), (15, .int .i64 i), (16, .int .i64 k)] (AHeap.rows 64 [(0, b0), (1, b1), (2, b2), (45, rr)]) .normal [(12, .slice orr n cr), (13, .int .i64 ew), (14, .int .i64 eh), (15, .int .i64 (i : Int)), (16, .int .i64 ((k : Int) + 1))] (AHeap.rows 176 [(0, b0), (1, b1), (2, b2), (45, rr)]) :=
  ppath_runs env_ok mixed (hs := [.val 22002 (.bool true), .val 24002 (.ptr (some ⟨45, 0, 0 + i, 0, 4⟩)), .ld 24004 (.agg [.int .i64 ia, .int .i64 ib, .int .i64 ic, .int .i64 id_]), .val 24005 (.bool true), .val 24009 (.ptr (some ⟨45, 0, 0 + i, 0, 4⟩)), .ld 24011 (.agg [.int .i64 ia, .int .i64 ib, .int .i64 ic, .int .i64 id_]), .val 24012 (.bool false), .go 23001]) (keep := [12, 13, 14, 15, 16]) (by kernel_rfl) (All.cons (okT hc_0) (All.cons hc_1 (All.cons hc_2 (All.cons (okT hc_3) (All.cons hc_4 (All.cons hc_5 (All.cons (okF hc_6) (All.cons hc_7 (All.nil)))))))))

theorem gp_in2 (orr : Option AAddr) (n cr i k : Nat) (b0 b1 b2 rr : ABlk) (ew eh ia ib ic id_ ka kb kc kd : Int) (hc_0 : (k : Int) < (i : Int)) (hc_1 : aindexAddr env.D 41 (.slice orr n cr) (.int .i64 (i : Int)) = some (.ptr (some ⟨45, 0, 0 + i, 0, 4⟩))) (hc_2 : ABlk.elem? rr 0 (0 + i) = some (.agg [.int .i64 ia, .int .i64 ib, .int .i64 ic, .int .i64 id_])) (hc_3 : ic > 0) (hc_4 : aindexAddr env.D 41 (.slice orr n cr) (.int .i64 (i : Int)) = some (.ptr (some ⟨45, 0, 0 + i, 0, 4⟩))) (hc_5 : ABlk.elem? rr 0 (0 + i) = some (.agg [.int .i64 ia, .int .i64 ib, .int .i64 ic, .int .i64 id_])) (hc_6 : id_ > 0) (hc_7 : aindexAddr env.D 41 (.slice orr n cr) (.int .i64 (k : Int)) = some (.ptr (some ⟨45, 0, 0 + k, 0, 4⟩))) (hc_8 : ABlk.elem? rr 0 (0 + k) = some (.agg [.int .i64 ka, .int .i64 kb, .int .i64 kc, .int .i64 kd])) (hc_9 : ¬ (kc > 0)) (hc_10 : -9223372036854775808 ≤ (k : Int) + 1 ∧ (k : Int) + (1 : Int) ≤ 9223372036854775807) :
    Runs Try.prog 3 253 (loopAt Try.prog 9 2) [(12, .slice orr n cr), (13, .int .i64 ew), (14, .int .i64 eh), (15, .int .i64 i), (16, .int .i64 k)] (AHeap.rows 64 [(0, b0), (1, b1), (2, b2), (45, rr)]) .normal [(12, .slice orr n cr), (13, .int .i64 ew), (14, .int .i64 eh), (15, .int .i64 (i : Int)), (16, .int .i64 ((k : Int) + 1))] (AHeap.rows 176 [(0, b0), (1, b1), (2, b2), (45, rr)]) :=
  ppath_runs env_ok mixed (hs := [.val 22002 (.bool true), .val 24002 (.ptr (some ⟨45, 0, 0 + i, 0, 4⟩)), .ld 24004 (.agg [.int .i64 ia, .int .i64 ib, .int .i64 ic, .int .i64 id_]), .val 24005 (.bool true), .val 24009 (.ptr (some ⟨45, 0, 0 + i, 0, 4⟩)), .ld 24011 (.agg [.int .i64 ia, .int .i64 ib, .int .i64 ic, .int .i64 id_]), .val 24012 (.bool true), .val 24017 (.ptr (some ⟨45, 0, 0 + k, 0, 4⟩)), .ld 24019 (.agg [.int .i64 ka, .int .i64 kb, .int .i64 kc, .int .i64 kd]), .val 24020 (.bool false), .go 23001]) (keep := [12, 13, 14, 15, 16]) (by kernel_rfl) (All.cons (okT hc_0) (All.cons hc_1 (All.cons hc_2 (All.cons (okT hc_3) (All.cons hc_4 (All.cons hc_5 (All.cons (okT hc_6) (All.cons hc_7 (All.cons hc_8 (All.cons (okF hc_9) (All.cons hc_10 (All.nil))))))))))))

theorem gp_in3 (orr : Option AAddr) (n cr i k : Nat) (b0 b1 b2 rr : ABlk) (ew eh ia ib ic id_ ka kb kc kd : Int) (hc_0 : (k : Int) < (i : Int)) (hc_1 : aindexAddr env.D 41 (.slice orr n cr) (.int .i64 (i : Int)) = some (.ptr (some ⟨45, 0, 0 + i, 0, 4⟩))) (hc_2 : ABlk.elem? rr 0 (0 + i) = some (.agg [.int .i64 ia, .int .i64 ib, .int .i64 ic, .int .i64 id_])) (hc_3 : ic > 0) (hc_4 : aindexAddr env.D 41 (.slice orr n cr) (.int .i64 (i : Int)) = some (.ptr (some ⟨45, 0, 0 + i, 0, 4⟩))) (hc_5 : ABlk.elem? rr 0 (0 + i) = some (.agg [.int .i64 ia, .int .i64 ib, .int .i64 ic, .int .i64 id_])) (hc_6 : id_ > 0) (hc_7 : aindexAddr env.D 41 (.slice orr n cr) (.int .i64 (k : Int)) = some (.ptr (some ⟨45, 0, 0 + k, 0, 4⟩))) (hc_8 : ABlk.elem? rr 0 (0 + k) = some (.agg [.int .i64 ka, .int .i64 kb, .int .i64 kc, .int .i64 kd])) (hc_9 : kc > 0) (hc_10 : aindexAddr env.D 41 (.slice orr n cr) (.int .i64 (k : Int)) = some (.ptr (some ⟨45, 0, 0 + k, 0, 4⟩))) (hc_11 : ABlk.elem? rr 0 (0 + k) = some (.agg [.int .i64 ka, .int .i64 kb, .int .i64 kc, .int .i64 kd])) (hc_12 : ¬ (kd > 0)) (hc_13 : -9223372036854775808 ≤ (k : Int) + 1 ∧ (k : Int) + (1 : Int) ≤ 9223372036854775807) :
    Runs Try.prog 3 253 (loopAt Try.prog 9 2) [(12, .slice orr n cr), (13, .int .i64 ew), (14, .int .i64 eh), (15, .int .i64 i), (16, .int .i64 k)] (AHeap.rows 64 [(0, b0), (1, b1), (2, b2), (45, rr)]) .normal [(12, .slice orr n cr), (13, .int .i64 ew), (14, .int .i64 eh), (15, .int .i64 (i : Int)), (16, .int .i64 ((k : Int) + 1))] (AHeap.rows 176 [(0, b0), (1, b1), (2, b2), (45, rr)]) :=
  ppath_runs env_ok mixed (hs := [.val 22002 (.bool true), .val 24002 (.ptr (some ⟨45, 0, 0 + i, 0, 4⟩)), .ld 24004 (.agg [.int .i64 ia, .int .i64 ib, .int .i64 ic, .int .i64 id_]), .val 24005 (.bool true), .val 24009 (.ptr (some ⟨45, 0, 0 + i, 0, 4⟩)), .ld 24011 (.agg [.int .i64 ia, .int .i64 ib, .int .i64 ic, .int .i64 id_]), .val 24012 (.bool true), .val 24017 (.ptr (some ⟨45, 0, 0 + k, 0, 4⟩)), .ld 24019 (.agg [.int .i64 ka, .int .i64 kb, .int .i64 kc, .int .i64 kd]), .val 24020 (.bool true), .val 24025 (.ptr (some ⟨45, 0, 0 + k, 0, 4⟩)), .ld 24027 (.agg [.int .i64 ka, .int .i64 kb, .int .i64 kc, .int .i64 kd]), .val 24028 (.bool false), .go 23001]) (keep := [12, 13, 14, 15, 16]) (by kernel_rfl) (All.cons (okT hc_0) (All.cons hc_1 (All.cons hc_2 (All.cons (okT hc_3) (All.cons hc_4 (All.cons hc_5 (All.cons (okT hc_6) (All.cons hc_7 (All.cons hc_8 (All.cons (okT hc_9) (All.cons hc_10 (All.cons hc_11 (All.cons (okF hc_12) (All.cons hc_13 (All.nil)))))))))))))))

theorem gp_in4 (orr : Option AAddr) (n cr i k : Nat) (b0 b1 b2 rr : ABlk) (ew eh ia ib ic id_ ka kb kc kd : Int) (hc_0 : (k : Int) < (i : Int)) (hc_1 : aindexAddr env.D 41 (.slice orr n cr) (.int .i64 (i : Int)) = some (.ptr (some ⟨45, 0, 0 + i, 0, 4⟩))) (hc_2 : ABlk.elem? rr 0 (0 + i) = some (.agg [.int .i64 ia, .int .i64 ib, .int .i64 ic, .int .i64 id_])) (hc_3 : ic > 0) (hc_4 : aindexAddr env.D 41 (.slice orr n cr) (.int .i64 (i : Int)) = some (.ptr (some ⟨45, 0, 0 + i, 0, 4⟩))) (hc_5 : ABlk.elem? rr 0 (0 + i) = some (.agg [.int .i64 ia, .int .i64 ib, .int .i64 ic, .int .i64 id_])) (hc_6 : id_ > 0) (hc_7 : aindexAddr env.D 41 (.slice orr n cr) (.int .i64 (k : Int)) = some (.ptr (some ⟨45, 0, 0 + k, 0, 4⟩))) (hc_8 : ABlk.elem? rr 0 (0 + k) = some (.agg [.int .i64 ka, .int .i64 kb, .int .i64 kc, .int .i64 kd])) (hc_9 : kc > 0) (hc_10 : aindexAddr env.D 41 (.slice orr n cr) (.int .i64 (k : Int)) = some (.ptr (some ⟨45, 0, 0 + k, 0, 4⟩))) (hc_11 : ABlk.elem? rr 0 (0 + k) = some (.agg [.int .i64 ka, .int .i64 kb, .int .i64 kc, .int .i64 kd])) (hc_12 : kd > 0) (hc_13 : aindexAddr env.D 41 (.slice orr n cr) (.int .i64 (i : Int)) = some (.ptr (some ⟨45, 0, 0 + i, 0, 4⟩))) (hc_14 : ABlk.elem? rr 0 (0 + i) = some (.agg [.int .i64 ia, .int .i64 ib, .int .i64 ic, .int .i64 id_])) (hc_15 : aindexAddr env.D 41 (.slice orr n cr) (.int .i64 (k : Int)) = some (.ptr (some ⟨45, 0, 0 + k, 0, 4⟩))) (hc_16 : ABlk.elem? rr 0 (0 + k) = some (.agg [.int .i64 ka, .int .i64 kb, .int .i64 kc, .int .i64 kd])) (hc_17 : aindexAddr env.D 41 (.slice orr n cr) (.int .i64 (k : Int)) = some (.ptr (some ⟨45, 0, 0 + k, 0, 4⟩))) (hc_18 : ABlk.elem? rr 0 (0 + k) = some (.agg [.int .i64 ka, .int .i64 kb, .int .i64 kc, .int .i64 kd])) (hc_19 : -9223372036854775808 ≤ ka + kc ∧ ka + kc ≤ 9223372036854775807) (hc_20 : ¬ (ia < ka + kc)) (hc_21 : -9223372036854775808 ≤ (k : Int) + 1 ∧ (k : Int) + (1 : Int) ≤ 9223372036854775807) :
    Runs Try.prog 3 253 (loopAt Try.prog 9 2) [(12, .slice orr n cr), (13, .int .i64 ew), (14, .int .i64 eh), (15, .int .i64 i), (16, .int .i64 k)] (AHeap.rows 64 [(0, b0), (1, b1), (2, b2), (45, rr)]) .normal [(12, .slice orr n cr), (13, .int .i64 ew), (14, .int .i64 eh), (15, .int .i64 (i : Int)), (16, .int .i64 ((k : Int) + 1))] (AHeap.rows 176 [(0, b0), (1, b1), (2, b2), (45, rr)]) :=
  ppath_runs env_ok mixed (hs := [.val 22002 (.bool true), .val 24002 (.ptr (some ⟨45, 0, 0 + i, 0, 4⟩)), .ld 24004 (.agg [.int .i64 ia, .int .i64 ib, .int .i64 ic, .int .i64 id_]), .val 24005 (.bool true), .val 24009 (.ptr (some ⟨45, 0, 0 + i, 0, 4⟩)), .ld 24011 (.agg [.int .i64 ia, .int .i64 ib, .int .i64 ic, .int .i64 id_]), .val 24012 (.bool true), .val 24017 (.ptr (some ⟨45, 0, 0 + k, 0, 4⟩)), .ld 24019 (.agg [.int .i64 ka, .int .i64 kb, .int .i64 kc, .int .i64 kd]), .val 24020 (.bool true), .val 24025 (.ptr (some ⟨45, 0, 0 + k, 0, 4⟩)), .ld 24027 (.agg [.int .i64 ka, .int .i64 kb, .int .i64 kc, .int .i64 kd]), .val 24028 (.bool true), .val 24033 (.ptr (some ⟨45, 0, 0 + i, 0, 4⟩)), .ld 24035 (.agg [.int .i64 ia, .int .i64 ib, .int .i64 ic, .int .i64 id_]), .val 24038 (.ptr (some ⟨45, 0, 0 + k, 0, 4⟩)), .ld 24040 (.agg [.int .i64 ka, .int .i64 kb, .int .i64 kc, .int .i64 kd]), .val 24043 (.ptr (some ⟨45, 0, 0 + k, 0, 4⟩)), .ld 24045 (.agg [.int .i64 ka, .int .i64 kb, .int .i64 kc, .int .i64 kd]), .go 24046, .val 24047 (.bool false), .go 23001]) (keep := [12, 13, 14, 15, 16]) (by kernel_rfl) (All.cons (okT hc_0) (All.cons hc_1 (All.cons hc_2 (All.cons (okT hc_3) (All.cons hc_4 (All.cons hc_5 (All.cons (okT hc_6) (All.cons hc_7 (All.cons hc_8 (All.cons (okT hc_9) (All.cons hc_10 (All.cons hc_11 (All.cons (okT hc_12) (All.cons hc_13 (All.cons hc_14 (All.cons hc_15 (All.cons hc_16 (All.cons hc_17 (All.cons hc_18 (All.cons hc_19 (All.cons (okF hc_20) (All.cons hc_21 (All.nil)))))))))))))))))))))))

theorem gp_in5 (orr : Option AAddr) (n cr i k : Nat) (b0 b1 b2 rr : ABlk) (ew eh ia ib ic id_ ka kb kc kd : Int) (hc_0 : (k : Int) < (i : Int)) (hc_1 : aindexAddr env.D 41 (.slice orr n cr) (.int .i64 (i : Int)) = some (.ptr (some ⟨45, 0, 0 + i, 0, 4⟩))) (hc_2 : ABlk.elem? rr 0 (0 + i) = some (.agg [.int .i64 ia, .int .i64 ib, .int .i64 ic, .int .i64 id_])) (hc_3 : ic > 0) (hc_4 : aindexAddr env.D 41 (.slice orr n cr) (.int .i64 (i : Int)) = some (.ptr (some ⟨45, 0, 0 + i, 0, 4⟩))) (hc_5 : ABlk.elem? rr 0 (0 + i) = some (.agg [.int .i64 ia, .int .i64 ib, .int .i64 ic, .int .i64 id_])) (hc_6 : id_ > 0) (hc_7 : aindexAddr env.D 41 (.slice orr n cr) (.int .i64 (k : Int)) = some (.ptr (some ⟨45, 0, 0 + k, 0, 4⟩))) (hc_8 : ABlk.elem? rr 0 (0 + k) = some (.agg [.int .i64 ka, .int .i64 kb, .int .i64 kc, .int .i64 kd])) (hc_9 : kc > 0) (hc_10 : aindexAddr env.D 41 (.slice orr n cr) (.int .i64 (k : Int)) = some (.ptr (some ⟨45, 0, 0 + k, 0, 4⟩))) (hc_11 : ABlk.elem? rr 0 (0 + k) = some (.agg [.int .i64 ka, .int .i64 kb, .int .i64 kc, .int .i64 kd])) (hc_12 : kd > 0) (hc_13 : aindexAddr env.D 41 (.slice orr n cr) (.int .i64 (i : Int)) = some (.ptr (some ⟨45, 0, 0 + i, 0, 4⟩))) (hc_14 : ABlk.elem? rr 0 (0 + i) = some (.agg [.int .i64 ia, .int .i64 ib, .int .i64 ic, .int .i64 id_])) (hc_15 : aindexAddr env.D 41 (.slice orr n cr) (.int .i64 (k : Int)) = some (.ptr (some ⟨45, 0, 0 + k, 0, 4⟩))) (hc_16 : ABlk.elem? rr 0 (0 + k) = some (.agg [.int .i64 ka, .int .i64 kb, .int .i64 kc, .int .i64 kd])) (hc_17 : aindexAddr env.D 41 (.slice orr n cr) (.int .i64 (k : Int)) = some (.ptr (some ⟨45, 0, 0 + k, 0, 4⟩))) (hc_18 : ABlk.elem? rr 0 (0 + k) = some (.agg [.int .i64 ka, .int .i64 kb, .int .i64 kc, .int .i64 kd])) (hc_19 : -9223372036854775808 ≤ ka + kc ∧ ka + kc ≤ 9223372036854775807) (hc_20 : ia < ka + kc) (hc_21 : aindexAddr env.D 41 (.slice orr n cr) (.int .i64 (k : Int)) = some (.ptr (some ⟨45, 0, 0 + k, 0, 4⟩))) (hc_22 : ABlk.elem? rr 0 (0 + k) = some (.agg [.int .i64 ka, .int .i64 kb, .int .i64 kc, .int .i64 kd])) (hc_23 : aindexAddr env.D 41 (.slice orr n cr) (.int .i64 (i : Int)) = some (.ptr (some ⟨45, 0, 0 + i, 0, 4⟩))) (hc_24 : ABlk.elem? rr 0 (0 + i) = some (.agg [.int .i64 ia, .int .i64 ib, .int .i64 ic, .int .i64 id_])) (hc_25 : aindexAddr env.D 41 (.slice orr n cr) (.int .i64 (i : Int)) = some (.ptr (some ⟨45, 0, 0 + i, 0, 4⟩))) (hc_26 : ABlk.elem? rr 0 (0 + i) = some (.agg [.int .i64 ia, .int .i64 ib, .int .i64 ic, .int .i64 id_])) (hc_27 : -9223372036854775808 ≤ ia + ic ∧ ia + ic ≤ 9223372036854775807) (hc_28 : ¬ (ka < ia + ic)) (hc_29 : -9223372036854775808 ≤ (k : Int) + 1 ∧ (k : Int) + (1 : Int) ≤ 9223372036854775807) :
    Runs Try.prog 3 253 (loopAt Try.prog 9 2) [(12, .slice orr n cr), (13, .int .i64 ew), (14, .int .i64 eh), (15, .int .i64 i), (16, .int .i64 k)] (AHeap.rows 64 [(0, b0), (1, b1), (2, b2), (45, rr)]) .normal [(12, .slice orr n cr), (13, .int .i64 ew), (14, .int .i64 eh), (15, .int .i64 (i : Int)), (16, .int .i64 ((k : Int) + 1))] (AHeap.rows 176 [(0, b0), (1, b1), (2, b2), (45, rr)]) :=
  ppath_runs env_ok mixed (hs := [.val 22002 (.bool true), .val 24002 (.ptr (some ⟨45, 0, 0 + i, 0, 4⟩)), .ld 24004 (.agg [.int .i64 ia, .int .i64 ib, .int .i64 ic, .int .i64 id_]), .val 24005 (.bool true), .val 24009 (.ptr (some ⟨45, 0, 0 + i, 0, 4⟩)), .ld 24011 (.agg [.int .i64 ia, .int .i64 ib, .int .i64 ic, .int .i64 id_]), .val 24012 (.bool true), .val 24017 (.ptr (some ⟨45, 0, 0 + k, 0, 4⟩)), .ld 24019 (.agg [.int .i64 ka, .int .i64 kb, .int .i64 kc, .int .i64 kd]), .val 24020 (.bool true), .val 24025 (.ptr (some ⟨45, 0, 0 + k, 0, 4⟩)), .ld 24027 (.agg [.int .i64 ka, .int .i64 kb, .int .i64 kc, .int .i64 kd]), .val 24028 (.bool true), .val 24033 (.ptr (some ⟨45, 0, 0 + i, 0, 4⟩)), .ld 24035 (.agg [.int .i64 ia, .int .i64 ib, .int .i64 ic, .int .i64 id_]), .val 24038 (.ptr (some ⟨45, 0, 0 + k, 0, 4⟩)), .ld 24040 (.agg [.int .i64 ka, .int .i64 kb, .int .i64 kc, .int .i64 kd]), .val 24043 (.ptr (some ⟨45, 0, 0 + k, 0, 4⟩)), .ld 24045 (.agg [.int .i64 ka, .int .i64 kb, .int .i64 kc, .int .i64 kd]), .go 24046, .val 24047 (.bool true), .val 24052 (.ptr (some ⟨45, 0, 0 + k, 0, 4⟩)), .ld 24054 (.agg [.int .i64 ka, .int .i64 kb, .int .i64 kc, .int .i64 kd]), .val 24057 (.ptr (some ⟨45, 0, 0 + i, 0, 4⟩)), .ld 24059 (.agg [.int .i64 ia, .int .i64 ib, .int .i64 ic, .int .i64 id_]), .val 24062 (.ptr (some ⟨45, 0, 0 + i, 0, 4⟩)), .ld 24064 (.agg [.int .i64 ia, .int .i64 ib, .int .i64 ic, .int .i64 id_]), .go 24065, .val 24066 (.bool false), .go 23001]) (keep := [12, 13, 14, 15, 16]) (by kernel_rfl) (All.cons (okT hc_0) (All.cons hc_1 (All.cons hc_2 (All.cons (okT hc_3) (All.cons hc_4 (All.cons hc_5 (All.cons (okT hc_6) (All.cons hc_7 (All.cons hc_8 (All.cons (okT hc_9) (All.cons hc_10 (All.cons hc_11 (All.cons (okT hc_12) (All.cons hc_13 (All.cons hc_14 (All.cons hc_15 (All.cons hc_16 (All.cons hc_17 (All.cons hc_18 (All.cons hc_19 (All.cons (okT hc_20) (All.cons hc_21 (All.cons hc_22 (All.cons hc_23 (All.cons hc_24 (All.cons hc_25 (All.cons hc_26 (All.cons hc_27 (All.cons (okF hc_28) (All.cons hc_29 (All.nil)))))))))))))))))))))))))))))))

theorem gp_in6 (orr : Option AAddr) (n cr i k : Nat) (b0 b1 b2 rr : ABlk) (ew eh ia ib ic id_ ka kb kc kd : Int) (hc_0 : (k : Int) < (i : Int)) (hc_1 : aindexAddr env.D 41 (.slice orr n cr) (.int .i64 (i : Int)) = some (.ptr (some ⟨45, 0, 0 + i, 0, 4⟩))) (hc_2 : ABlk.elem? rr 0 (0 + i) = some (.agg [.int .i64 ia, .int .i64 ib, .int .i64 ic, .int .i64 id_])) (hc_3 : ic > 0) (hc_4 : aindexAddr env.D 41 (.slice orr n cr) (.int .i64 (i : Int)) = some (.ptr (some ⟨45, 0, 0 + i, 0, 4⟩))) (hc_5 : ABlk.elem? rr 0 (0 + i) = some (.agg [.int .i64 ia, .int .i64 ib, .int .i64 ic, .int .i64 id_])) (hc_6 : id_ > 0) (hc_7 : aindexAddr env.D 41 (.slice orr n cr) (.int .i64 (k : Int)) = some (.ptr (some ⟨45, 0, 0 + k, 0, 4⟩))) (hc_8 : ABlk.elem? rr 0 (0 + k) = some (.agg [.int .i64 ka, .int .i64 kb, .int .i64 kc, .int .i64 kd])) (hc_9 : kc > 0) (hc_10 : aindexAddr env.D 41 (.slice orr n cr) (.int .i64 (k : Int)) = some (.ptr (some ⟨45, 0, 0 + k, 0, 4⟩))) (hc_11 : ABlk.elem? rr 0 (0 + k) = some (.agg [.int .i64 ka, .int .i64 kb, .int .i64 kc, .int .i64 kd])) (hc_12 : kd > 0) (hc_13 : aindexAddr env.D 41 (.slice orr n cr) (.int .i64 (i : Int)) = some (.ptr (some ⟨45, 0, 0 + i, 0, 4⟩))) (hc_14 : ABlk.elem? rr 0 (0 + i) = some (.agg [.int .i64 ia, .int .i64 ib, .int .i64 ic, .int .i64 id_])) (hc_15 : aindexAddr env.D 41 (.slice orr n cr) (.int .i64 (k : Int)) = some (.ptr (some ⟨45, 0, 0 + k, 0, 4⟩))) (hc_16 : ABlk.elem? rr 0 (0 + k) = some (.agg [.int .i64 ka, .int .i64 kb, .int .i64 kc, .int .i64 kd])) (hc_17 : aindexAddr env.D 41 (.slice orr n cr) (.int .i64 (k : Int)) = some (.ptr (some ⟨45, 0, 0 + k, 0, 4⟩))) (hc_18 : ABlk.elem? rr 0 (0 + k) = some (.agg [.int .i64 ka, .int .i64 kb, .int .i64 kc, .int .i64 kd])) (hc_19 : -9223372036854775808 ≤ ka + kc ∧ ka + kc ≤ 9223372036854775807) (hc_20 : ia < ka + kc) (hc_21 : aindexAddr env.D 41 (.slice orr n cr) (.int .i64 (k : Int)) = some (.ptr (some ⟨45, 0, 0 + k, 0, 4⟩))) (hc_22 : ABlk.elem? rr 0 (0 + k) = some (.agg [.int .i64 ka, .int .i64 kb, .int .i64 kc, .int .i64 kd])) (hc_23 : aindexAddr env.D 41 (.slice orr n cr) (.int .i64 (i : Int)) = some (.ptr (some ⟨45, 0, 0 + i, 0, 4⟩))) (hc_24 : ABlk.elem? rr 0 (0 + i) = some (.agg [.int .i64 ia, .int .i64 ib, .int .i64 ic, .int .i64 id_])) (hc_25 : aindexAddr env.D 41 (.slice orr n cr) (.int .i64 (i : Int)) = some (.ptr (some ⟨45, 0, 0 + i, 0, 4⟩))) (hc_26 : ABlk.elem? rr 0 (0 + i) = some (.agg [.int .i64 ia, .int .i64 ib, .int .i64 ic, .int .i64 id_])) (hc_27 : -9223372036854775808 ≤ ia + ic ∧ ia + ic ≤ 9223372036854775807) (hc_28 : ka < ia + ic) (hc_29 : aindexAddr env.D 41 (.slice orr n cr) (.int .i64 (i : Int)) = some (.ptr (some ⟨45, 0, 0 + i, 0, 4⟩))) (hc_30 : ABlk.elem? rr 0 (0 + i) = some (.agg [.int .i64 ia, .int .i64 ib, .int .i64 ic, .int .i64 id_])) (hc_31 : aindexAddr env.D 41 (.slice orr n cr) (.int .i64 (k : Int)) = some (.ptr (some ⟨45, 0, 0 + k, 0, 4⟩))) (hc_32 : ABlk.elem? rr 0 (0 + k) = some (.agg [.int .i64 ka, .int .i64 kb, .int .i64 kc, .int .i64 kd])) (hc_33 : aindexAddr env.D 41 (.slice orr n cr) (.int .i64 (k : Int)) = some (.ptr (some ⟨45, 0, 0 + k, 0, 4⟩))) (hc_34 : ABlk.elem? rr 0 (0 + k) = some (.agg [.int .i64 ka, .int .i64 kb, .int .i64 kc, .int .i64 kd])) (hc_35 : -9223372036854775808 ≤ kb + kd ∧ kb + kd ≤ 9223372036854775807) (hc_36 : ¬ (ib < kb + kd)) (hc_37 : -9223372036854775808 ≤ (k : Int) + 1 ∧ (k : Int) + (1 : Int) ≤ 9223372036854775807) :
    Runs Try.prog 3 253 (loopAt Try.prog 9 2) [(12, .slice orr n cr), (13, .int .i64 ew), (14, .int .i64 eh), (15, .int .i64 i), (16, .int .i64 k)] (AHeap.rows 64 [(0, b0), (1, b1), (2, b2), (45, rr)]) .normal [(12, .slice orr n cr), (13, .int .i64 ew), (14, .int .i64 eh), (15, .int .i64 (i : Int)), (16, .int .i64 ((k : Int) + 1))] (AHeap.rows 176 [(0, b0), (1, b1), (2, b2), (45, rr)]) :=
  ppath_runs env_ok mixed (hs := [.val 22002 (.bool true), .val 24002 (.ptr (some ⟨45, 0, 0 + i, 0, 4⟩)), .ld 24004 (.agg [.int .i64 ia, .int .i64 ib, .int .i64 ic, .int .i64 id_]), .val 24005 (.bool true), .val 24009 (.ptr (some ⟨45, 0, 0 + i, 0, 4⟩)), .ld 24011 (.agg [.int .i64 ia, .int .i64 ib, .int .i64 ic, .int .i64 id_]), .val 24012 (.bool true), .val 24017 (.ptr (some ⟨45, 0, 0 + k, 0, 4⟩)), .ld 24019 (.agg [.int .i64 ka, .int .i64 kb, .int .i64 kc, .int .i64 kd]), .val 24020 (.bool true), .val 24025 (.ptr (some ⟨45, 0, 0 + k, 0, 4⟩)), .ld 24027 (.agg [.int .i64 ka, .int .i64 kb, .int .i64 kc, .int .i64 kd]), .val 24028 (.bool true), .val 24033 (.ptr (some ⟨45, 0, 0 + i, 0, 4⟩)), .ld 24035 (.agg [.int .i64 ia, .int .i64 ib, .int .i64 ic, .int .i64 id_]), .val 24038 (.ptr (some ⟨45, 0, 0 + k, 0, 4⟩)), .ld 24040 (.agg [.int .i64 ka, .int .i64 kb, .int .i64 kc, .int .i64 kd]), .val 24043 (.ptr (some ⟨45, 0, 0 + k, 0, 4⟩)), .ld 24045 (.agg [.int .i64 ka, .int .i64 kb, .int .i64 kc, .int .i64 kd]), .go 24046, .val 24047 (.bool true), .val 24052 (.ptr (some ⟨45, 0, 0 + k, 0, 4⟩)), .ld 24054 (.agg [.int .i64 ka, .int .i64 kb, .int .i64 kc, .int .i64 kd]), .val 24057 (.ptr (some ⟨45, 0, 0 + i, 0, 4⟩)), .ld 24059 (.agg [.int .i64 ia, .int .i64 ib, .int .i64 ic, .int .i64 id_]), .val 24062 (.ptr (some ⟨45, 0, 0 + i, 0, 4⟩)), .ld 24064 (.agg [.int .i64 ia, .int .i64 ib, .int .i64 ic, .int .i64 id_]), .go 24065, .val 24066 (.bool true), .val 24071 (.ptr (some ⟨45, 0, 0 + i, 0, 4⟩)), .ld 24073 (.agg [.int .i64 ia, .int .i64 ib, .int .i64 ic, .int .i64 id_]), .val 24076 (.ptr (some ⟨45, 0, 0 + k, 0, 4⟩)), .ld 24078 (.agg [.int .i64 ka, .int .i64 kb, .int .i64 kc, .int .i64 kd]), .val 24081 (.ptr (some ⟨45, 0, 0 + k, 0, 4⟩)), .ld 24083 (.agg [.int .i64 ka, .int .i64 kb, .int .i64 kc, .int .i64 kd]), .go 24084, .val 24085 (.bool false), .go 23001]) (keep := [12, 13, 14, 15, 16]) (by kernel_rfl) (All.cons (okT hc_0) (All.cons hc_1 (All.cons hc_2 (All.cons (okT hc_3) (All.cons hc_4 (All.cons hc_5 (All.cons (okT hc_6) (All.cons hc_7 (All.cons hc_8 (All.cons (okT hc_9) (All.cons hc_10 (All.cons hc_11 (All.cons (okT hc_12) (All.cons hc_13 (All.cons hc_14 (All.cons hc_15 (All.cons hc_16 (All.cons hc_17 (All.cons hc_18 (All.cons hc_19 (All.cons (okT hc_20) (All.cons hc_21 (All.cons hc_22 (All.cons hc_23 (All.cons hc_24 (All.cons hc_25 (All.cons hc_26 (All.cons hc_27 (All.cons (okT hc_28) (All.cons hc_29 (All.cons hc_30 (All.cons hc_31 (All.cons hc_32 (All.cons hc_33 (All.cons hc_34 (All.cons hc_35 (All.cons (okF hc_36) (All.cons hc_37 (All.nil)))))))))))))))))))))))))))))))))))))))

theorem gp_in7 (orr : Option AAddr) (n cr i k : Nat) (b0 b1 b2 rr : ABlk) (ew eh ia ib ic id_ ka kb kc kd : Int) (hc_0 : (k : Int) < (i : Int)) (hc_1 : aindexAddr env.D 41 (.slice orr n cr) (.int .i64 (i : Int)) = some (.ptr (some ⟨45, 0, 0 + i, 0, 4⟩))) (hc_2 : ABlk.elem? rr 0 (0 + i) = some (.agg [.int .i64 ia, .int .i64 ib, .int .i64 ic, .int .i64 id_])) (hc_3 : ic > 0) (hc_4 : aindexAddr env.D 41 (.slice orr n cr) (.int .i64 (i : Int)) = some (.ptr (some ⟨45, 0, 0 + i, 0, 4⟩))) (hc_5 : ABlk.elem? rr 0 (0 + i) = some (.agg [.int .i64 ia, .int .i64 ib, .int .i64 ic, .int .i64 id_])) (hc_6 : id_ > 0) (hc_7 : aindexAddr env.D 41 (.slice orr n cr) (.int .i64 (k : Int)) = some (.ptr (some ⟨45, 0, 0 + k, 0, 4⟩))) (hc_8 : ABlk.elem? rr 0 (0 + k) = some (.agg [.int .i64 ka, .int .i64 kb, .int .i64 kc, .int .i64 kd])) (hc_9 : kc > 0) (hc_10 : aindexAddr env.D 41 (.slice orr n cr) (.int .i64 (k : Int)) = some (.ptr (some ⟨45, 0, 0 + k, 0, 4⟩))) (hc_11 : ABlk.elem? rr 0 (0 + k) = some (.agg [.int .i64 ka, .int .i64 kb, .int .i64 kc, .int .i64 kd])) (hc_12 : kd > 0) (hc_13 : aindexAddr env.D 41 (.slice orr n cr) (.int .i64 (i : Int)) = some (.ptr (some ⟨45, 0, 0 + i, 0, 4⟩))) (hc_14 : ABlk.elem? rr 0 (0 + i) = some (.agg [.int .i64 ia, .int .i64 ib, .int .i64 ic, .int .i64 id_])) (hc_15 : aindexAddr env.D 41 (.slice orr n cr) (.int .i64 (k : Int)) = some (.ptr (some ⟨45, 0, 0 + k, 0, 4⟩))) (hc_16 : ABlk.elem? rr 0 (0 + k) = some (.agg [.int .i64 ka, .int .i64 kb, .int .i64 kc, .int .i64 kd])) (hc_17 : aindexAddr env.D 41 (.slice orr n cr) (.int .i64 (k : Int)) = some (.ptr (some ⟨45, 0, 0 + k, 0, 4⟩))) (hc_18 : ABlk.elem? rr 0 (0 + k) = some (.agg [.int .i64 ka, .int .i64 kb, .int .i64 kc, .int .i64 kd])) (hc_19 : -9223372036854775808 ≤ ka + kc ∧ ka + kc ≤ 9223372036854775807) (hc_20 : ia < ka + kc) (hc_21 : aindexAddr env.D 41 (.slice orr n cr) (.int .i64 (k : Int)) = some (.ptr (some ⟨45, 0, 0 + k, 0, 4⟩))) (hc_22 : ABlk.elem? rr 0 (0 + k) = some (.agg [.int .i64 ka, .int .i64 kb, .int .i64 kc, .int .i64 kd])) (hc_23 : aindexAddr env.D 41 (.slice orr n cr) (.int .i64 (i : Int)) = some (.ptr (some ⟨45, 0, 0 + i, 0, 4⟩))) (hc_24 : ABlk.elem? rr 0 (0 + i) = some (.agg [.int .i64 ia, .int .i64 ib, .int .i64 ic, .int .i64 id_])) (hc_25 : aindexAddr env.D 41 (.slice orr n cr) (.int .i64 (i : Int)) = some (.ptr (some ⟨45, 0, 0 + i, 0, 4⟩))) (hc_26 : ABlk.elem? rr 0 (0 + i) = some (.agg [.int .i64 ia, .int .i64 ib, .int .i64 ic, .int .i64 id_])) (hc_27 : -9223372036854775808 ≤ ia + ic ∧ ia + ic ≤ 9223372036854775807) (hc_28 : ka < ia + ic) (hc_29 : aindexAddr env.D 41 (.slice orr n cr) (.int .i64 (i : Int)) = some (.ptr (some ⟨45, 0, 0 + i, 0, 4⟩))) (hc_30 : ABlk.elem? rr 0 (0 + i) = some (.agg [.int .i64 ia, .int .i64 ib, .int .i64 ic, .int .i64 id_])) (hc_31 : aindexAddr env.D 41 (.slice orr n cr) (.int .i64 (k : Int)) = some (.ptr (some ⟨45, 0, 0 + k, 0, 4⟩))) (hc_32 : ABlk.elem? rr 0 (0 + k) = some (.agg [.int .i64 ka, .int .i64 kb, .int .i64 kc, .int .i64 kd])) (hc_33 : aindexAddr env.D 41 (.slice orr n cr) (.int .i64 (k : Int)) = some (.ptr (some ⟨45, 0, 0 + k, 0, 4⟩))) (hc_34 : ABlk.elem? rr 0 (0 + k) = some (.agg [.int .i64 ka, .int .i64 kb, .int .i64 kc, .int .i64 kd])) (hc_35 : -9223372036854775808 ≤ kb + kd ∧ kb + kd ≤ 9223372036854775807) (hc_36 : ib < kb + kd) (hc_37 : aindexAddr env.D 41 (.slice orr n cr) (.int .i64 (k : Int)) = some (.ptr (some ⟨45, 0, 0 + k, 0, 4⟩))) (hc_38 : ABlk.elem? rr 0 (0 + k) = some (.agg [.int .i64 ka, .int .i64 kb, .int .i64 kc, .int .i64 kd])) (hc_39 : aindexAddr env.D 41 (.slice orr n cr) (.int .i64 (i : Int)) = some (.ptr (some ⟨45, 0, 0 + i, 0, 4⟩))) (hc_40 : ABlk.elem? rr 0 (0 + i) = some (.agg [.int .i64 ia, .int .i64 ib, .int .i64 ic, .int .i64 id_])) (hc_41 : aindexAddr env.D 41 (.slice orr n cr) (.int .i64 (i : Int)) = some (.ptr (some ⟨45, 0, 0 + i, 0, 4⟩))) (hc_42 : ABlk.elem? rr 0 (0 + i) = some (.agg [.int .i64 ia, .int .i64 ib, .int .i64 ic, .int .i64 id_])) (hc_43 : -9223372036854775808 ≤ ib + id_ ∧ ib + id_ ≤ 9223372036854775807) (hc_44 : ¬ (kb < ib + id_)) (hc_45 : -9223372036854775808 ≤ (k : Int) + 1 ∧ (k : Int) + (1 : Int) ≤ 9223372036854775807) :
    Runs Try.prog 3 253 (loopAt Try.prog 9 2) [(12, .slice orr n cr), (13, .int .i64 ew), (14, .int .i64 eh), (15, .int .i64 i), (16, .int .i64 k)] (AHeap.rows 64 [(0, b0), (1, b1), (2, b2), (45, rr)]) .normal [(12, .slice orr n cr), (13, .int .i64 ew), (14, .int .i64 eh), (15, .int .i64 (i : Int)), (16, .int .i64 ((k : Int) + 1))] (AHeap.rows 176 [(0, b0), (1, b1), (2, b2), (45, rr)]) :=
  ppath_runs env_ok mixed (hs := [.val 22002 (.bool true), .val 24002 (.ptr (some ⟨45, 0, 0 + i, 0, 4⟩)), .ld 24004 (.agg [.int .i64 ia, .int .i64 ib, .int .i64 ic, .int .i64 id_]), .val 24005 (.bool true), .val 24009 (.ptr (some ⟨45, 0, 0 + i, 0, 4⟩)), .ld 24011 (.agg [.int .i64 ia, .int .i64 ib, .int .i64 ic, .int .i64 id_]), .val 24012 (.bool true), .val 24017 (.ptr (some ⟨45, 0, 0 + k, 0, 4⟩)), .ld 24019 (.agg [.int .i64 ka, .int .i64 kb, .int .i64 kc, .int .i64 kd]), .val 24020 (.bool true), .val 24025 (.ptr (some ⟨45, 0, 0 + k, 0, 4⟩)), .ld 24027 (.agg [.int .i64 ka, .int .i64 kb, .int .i64 kc, .int .i64 kd]), .val 24028 (.bool true), .val 24033 (.ptr (some ⟨45, 0, 0 + i, 0, 4⟩)), .ld 24035 (.agg [.int .i64 ia, .int .i64 ib, .int .i64 ic, .int .i64 id_]), .val 24038 (.ptr (some ⟨45, 0, 0 + k, 0, 4⟩)), .ld 24040 (.agg [.int .i64 ka, .int .i64 kb, .int .i64 kc, .int .i64 kd]), .val 24043 (.ptr (some ⟨45, 0, 0 + k, 0, 4⟩)), .ld 24045 (.agg [.int .i64 ka, .int .i64 kb, .int .i64 kc, .int .i64 kd]), .go 24046, .val 24047 (.bool true), .val 24052 (.ptr (some ⟨45, 0, 0 + k, 0, 4⟩)), .ld 24054 (.agg [.int .i64 ka, .int .i64 kb, .int .i64 kc, .int .i64 kd]), .val 24057 (.ptr (some ⟨45, 0, 0 + i, 0, 4⟩)), .ld 24059 (.agg [.int .i64 ia, .int .i64 ib, .int .i64 ic, .int .i64 id_]), .val 24062 (.ptr (some ⟨45, 0, 0 + i, 0, 4⟩)), .ld 24064 (.agg [.int .i64 ia, .int .i64 ib, .int .i64 ic, .int .i64 id_]), .go 24065, .val 24066 (.bool true), .val 24071 (.ptr (some ⟨45, 0, 0 + i, 0, 4⟩)), .ld 24073 (.agg [.int .i64 ia, .int .i64 ib, .int .i64 ic, .int .i64 id_]), .val 24076 (.ptr (some ⟨45, 0, 0 + k, 0, 4⟩)), .ld 24078 (.agg [.int .i64 ka, .int .i64 kb, .int .i64 kc, .int .i64 kd]), .val 24081 (.ptr (some ⟨45, 0, 0 + k, 0, 4⟩)), .ld 24083 (.agg [.int .i64 ka, .int .i64 kb, .int .i64 kc, .int .i64 kd]), .go 24084, .val 24085 (.bool true), .val 24090 (.ptr (some ⟨45, 0, 0 + k, 0, 4⟩)), .ld 24092 (.agg [.int .i64 ka, .int .i64 kb, .int .i64 kc, .int .i64 kd]), .val 24095 (.ptr (some ⟨45, 0, 0 + i, 0, 4⟩)), .ld 24097 (.agg [.int .i64 ia, .int .i64 ib, .int .i64 ic, .int .i64 id_]), .val 24100 (.ptr (some ⟨45, 0, 0 + i, 0, 4⟩)), .ld 24102 (.agg [.int .i64 ia, .int .i64 ib, .int .i64 ic, .int .i64 id_]), .go 24103, .val 24104 (.bool false), .go 23001]) (keep := [12, 13, 14, 15, 16]) (by kernel_rfl) (All.cons (okT hc_0) (All.cons hc_1 (All.cons hc_2 (All.cons (okT hc_3) (All.cons hc_4 (All.cons hc_5 (All.cons (okT hc_6) (All.cons hc_7 (All.cons hc_8 (All.cons (okT hc_9) (All.cons hc_10 (All.cons hc_11 (All.cons (okT hc_12) (All.cons hc_13 (All.cons hc_14 (All.cons hc_15 (All.cons hc_16 (All.cons hc_17 (All.cons hc_18 (All.cons hc_19 (All.cons (okT hc_20) (All.cons hc_21 (All.cons hc_22 (All.cons hc_23 (All.cons hc_24 (All.cons hc_25 (All.cons hc_26 (All.cons hc_27 (All.cons (okT hc_28) (All.cons hc_29 (All.cons hc_30 (All.cons hc_31 (All.cons hc_32 (All.cons hc_33 (All.cons hc_34 (All.cons hc_35 (All.cons (okT hc_36) (All.cons hc_37 (All.cons hc_38 (All.cons hc_39 (All.cons hc_40 (All.cons hc_41 (All.cons hc_42 (All.cons hc_43 (All.cons (okF hc_44) (All.cons hc_45 (All.nil)))))))))))))))))))))))))))))))))))))))))))))))

theorem gp_inEnd (orr : Option AAddr) (n cr i k : Nat) (b0 b1 b2 rr : ABlk) (ew eh ia ib ic id_ ka kb kc kd : Int) (hc_0 : ¬ ((k : Int) < (i : Int))) :
    Runs Try.prog 3 253 (loopAt Try.prog 9 2) [(12, .slice orr n cr), (13, .int .i64 ew), (14, .int .i64 eh), (15, .int .i64 i), (16, .int .i64 k)] (AHeap.rows 64 [(0, b0), (1, b1), (2, b2), (45, rr)]) (.exit 4) [(12, .slice orr n cr), (13, .int .i64 ew), (14, .int .i64 eh), (15, .int .i64 (i : Int))] (AHeap.rows 67 [(0, b0), (1, b1), (2, b2), (45, rr)]) :=
  ppath_runs env_ok mixed (hs := [.val 22002 (.bool false)]) (keep := [12, 13, 14, 15]) (by kernel_rfl) (All.cons (okF hc_0) (All.nil))

theorem gp_callTT (o o1 o2 ol om orr : Option AAddr) (n c n1 c1 n2 c2 k cl cm cr : Nat) (b0 b1 b2 rl rm rr : ABlk) (gap ew eh : Int) (hc_0 : (n1 : Int) > 64) (hc_1 : aslice env.D 32 (.slice o1 n1 c1) none (some (.int .i64 64)) none = some (.slice o1 64 c1)) (hc_2 : (n2 : Int) > 300) (hc_3 : aslice env.D 32 (.slice o2 n2 c2) none (some (.int .i64 300)) none = some (.slice o2 300 c2)) (hc_4 : Runs Try.prog 3 253 (.loop (loopAt Try.prog 9 0)) [(0, .slice o n c), (1, .slice o1 64 c1), (2, .slice o2 300 c2), (3, .int .i64 gap), (9, .slice none 0 0), (10, .int .i64 0)] (AHeap.rows 18 [(0, b0), (1, b1), (2, b2)]) (.exit 0) [(1, .slice o1 64 c1), (2, .slice o2 300 c2), (3, .int .i64 gap), (9, .slice ol k cl)] (AHeap.rows 33 [(0, b0), (1, b1), (2, b2), (32, rl)])) (hc_5 : FDoes Try.prog 13 [.slice ol k cl, .int .i64 64] (AHeap.rows 38 [(0, b0), (1, b1), (2, b2), (32, rl)]) (.slice om k cm) (AHeap.rows 39 [(0, b0), (1, b1), (2, b2), (32, rl), (38, rm)])) (hc_6 : FDoes Try.prog 21 [.slice o1 64 c1, .slice o2 300 c2, .int .i64 gap, .slice om k cm] (AHeap.rows 45 [(0, b0), (1, b1), (2, b2), (32, rl), (38, rm)]) (.slice orr k cr) (AHeap.rows 46 [(0, b0), (1, b1), (2, b2), (32, rl), (38, rm), (45, rr)])) (hc_7 : (k : Int) = (k : Int)) (hc_9 : FDoes Try.prog 25 [.slice o1 64 c1, .int .i64 gap] (AHeap.rows 59 [(0, b0), (1, b1), (2, b2), (32, rl), (38, rm), (45, rr)]) (.int .i64 ew) (AHeap.rows 59 [(0, b0), (1, b1), (2, b2), (32, rl), (38, rm), (45, rr)])) (hc_10 : FDoes Try.prog 25 [.slice o2 300 c2, .int .i64 gap] (AHeap.rows 63 [(0, b0), (1, b1), (2, b2), (32, rl), (38, rm), (45, rr)]) (.int .i64 eh) (AHeap.rows 63 [(0, b0), (1, b1), (2, b2), (32, rl), (38, rm), (45, rr)])) (hc_11 : Runs Try.prog 3 253 (.loop (loopAt Try.prog 9 1)) [(12, .slice orr k cr), (13, .int .i64 ew), (14, .int .i64 eh), (15, .int .i64 0)] (AHeap.rows 64 [(0, b0), (1, b1), (2, b2), (32, rl), (38, rm), (45, rr)]) (.exit 2) [] (AHeap.rows 64 [(0, b0), (1, b1), (2, b2)])) :
    FDoes Try.prog 9 [.slice o n c, .slice o1 n1 c1, .slice o2 n2 c2, .int .i64 gap] (AHeap.of [b0, b1, b2]) (AVal.bool true) (AHeap.rows 65 [(0, b0), (1, b1), (2, b2)]) :=
  pcall_does env_ok mixed (hs := [.val 1002 (.bool true), .val 2001 (.slice o1 64 c1), .val 3002 (.bool true), .val 4001 (.slice o2 300 c2), .keep [0, 1, 2, 3, 9, 10], .loop [(1, .slice o1 64 c1), (2, .slice o2 300 c2), (3, .int .i64 gap), (9, .slice ol k cl)] (AHeap.rows 33 [(0, b0), (1, b1), (2, b2), (32, rl)]) (.exit 0), .act 10003 (.slice om k cm) (fun h => h.upd [] [rm]), .act 11004 (.slice orr k cr) (fun h => h.upd [] [rr]), .val 12004 (.bool false), .val 12006 (.bool true), .val 14002 (.int .i64 ew), .val 15002 (.int .i64 eh), .keep [12, 13, 14, 15], .loop [] (AHeap.rows 64 [(0, b0), (1, b1), (2, b2)]) (.exit 2)]) (rs := []) (by kernel_rfl) (All.cons (okT hc_0) (All.cons hc_1 (All.cons (okT hc_2) (All.cons hc_3 (All.cons hc_4 (All.cons (CallT.mk hc_5) (All.cons (CallT.mk hc_6) (All.cons (neF hc_7) (All.cons (show CallT Try.prog 16 [] (AHeap.rows 55 [(0, b0), (1, b1), (2, b2), (32, rl), (38, rm), (45, rr)]) (AVal.bool true) (AHeap.rows 55 [(0, b0), (1, b1), (2, b2), (32, rl), (38, rm), (45, rr)]) from ⟨(alive_does _)⟩) (All.cons (CallT.mk hc_9) (All.cons (CallT.mk hc_10) (All.cons hc_11 (All.nil)))))))))))))

theorem gp_callTF (o o1 o2 ol om orr : Option AAddr) (n c n1 c1 n2 c2 k cl cm cr : Nat) (b0 b1 b2 rl rm rr : ABlk) (gap ew eh : Int) (hc_0 : (n1 : Int) > 64) (hc_1 : aslice env.D 32 (.slice o1 n1 c1) none (some (.int .i64 64)) none = some (.slice o1 64 c1)) (hc_2 : ¬ ((n2 : Int) > 300)) (hc_3 : Runs Try.prog 3 253 (.loop (loopAt Try.prog 9 0)) [(0, .slice o n c), (1, .slice o1 64 c1), (2, .slice o2 n2 c2), (3, .int .i64 gap), (9, .slice none 0 0), (10, .int .i64 0)] (AHeap.rows 15 [(0, b0), (1, b1), (2, b2)]) (.exit 0) [(1, .slice o1 64 c1), (2, .slice o2 n2 c2), (3, .int .i64 gap), (9, .slice ol k cl)] (AHeap.rows 33 [(0, b0), (1, b1), (2, b2), (32, rl)])) (hc_4 : FDoes Try.prog 13 [.slice ol k cl, .int .i64 64] (AHeap.rows 38 [(0, b0), (1, b1), (2, b2), (32, rl)]) (.slice om k cm) (AHeap.rows 39 [(0, b0), (1, b1), (2, b2), (32, rl), (38, rm)])) (hc_5 : FDoes Try.prog 21 [.slice o1 64 c1, .slice o2 n2 c2, .int .i64 gap, .slice om k cm] (AHeap.rows 45 [(0, b0), (1, b1), (2, b2), (32, rl), (38, rm)]) (.slice orr k cr) (AHeap.rows 46 [(0, b0), (1, b1), (2, b2), (32, rl), (38, rm), (45, rr)])) (hc_6 : (k : Int) = (k : Int)) (hc_8 : FDoes Try.prog 25 [.slice o1 64 c1, .int .i64 gap] (AHeap.rows 59 [(0, b0), (1, b1), (2, b2), (32, rl), (38, rm), (45, rr)]) (.int .i64 ew) (AHeap.rows 59 [(0, b0), (1, b1), (2, b2), (32, rl), (38, rm), (45, rr)])) (hc_9 : FDoes Try.prog 25 [.slice o2 n2 c2, .int .i64 gap] (AHeap.rows 63 [(0, b0), (1, b1), (2, b2), (32, rl), (38, rm), (45, rr)]) (.int .i64 eh) (AHeap.rows 63 [(0, b0), (1, b1), (2, b2), (32, rl), (38, rm), (45, rr)])) (hc_10 : Runs Try.prog 3 253 (.loop (loopAt Try.prog 9 1)) [(12, .slice orr k cr), (13, .int .i64 ew), (14, .int .i64 eh), (15, .int .i64 0)] (AHeap.rows 64 [(0, b0), (1, b1), (2, b2), (32, rl), (38, rm), (45, rr)]) (.exit 2) [] (AHeap.rows 64 [(0, b0), (1, b1), (2, b2)])) :
    FDoes Try.prog 9 [.slice o n c, .slice o1 n1 c1, .slice o2 n2 c2, .int .i64 gap] (AHeap.of [b0, b1, b2]) (AVal.bool true) (AHeap.rows 65 [(0, b0), (1, b1), (2, b2)]) :=
  pcall_does env_ok mixed (hs := [.val 1002 (.bool true), .val 2001 (.slice o1 64 c1), .val 3002 (.bool false), .keep [0, 1, 2, 3, 9, 10], .loop [(1, .slice o1 64 c1), (2, .slice o2 n2 c2), (3, .int .i64 gap), (9, .slice ol k cl)] (AHeap.rows 33 [(0, b0), (1, b1), (2, b2), (32, rl)]) (.exit 0), .act 10003 (.slice om k cm) (fun h => h.upd [] [rm]), .act 11004 (.slice orr k cr) (fun h => h.upd [] [rr]), .val 12004 (.bool false), .val 12006 (.bool true), .val 14002 (.int .i64 ew), .val 15002 (.int .i64 eh), .keep [12, 13, 14, 15], .loop [] (AHeap.rows 64 [(0, b0), (1, b1), (2, b2)]) (.exit 2)]) (rs := []) (by kernel_rfl) (All.cons (okT hc_0) (All.cons hc_1 (All.cons (okF hc_2) (All.cons hc_3 (All.cons (CallT.mk hc_4) (All.cons (CallT.mk hc_5) (All.cons (neF hc_6) (All.cons (show CallT Try.prog 16 [] (AHeap.rows 55 [(0, b0), (1, b1), (2, b2), (32, rl), (38, rm), (45, rr)]) (AVal.bool true) (AHeap.rows 55 [(0, b0), (1, b1), (2, b2), (32, rl), (38, rm), (45, rr)]) from ⟨(alive_does _)⟩) (All.cons (CallT.mk hc_8) (All.cons (CallT.mk hc_9) (All.cons hc_10 (All.nil))))))))))))

theorem gp_callFT (o o1 o2 ol om orr : Option AAddr) (n c n1 c1 n2 c2 k cl cm cr : Nat) (b0 b1 b2 rl rm rr : ABlk) (gap ew eh : Int) (hc_0 : ¬ ((n1 : Int) > 64)) (hc_1 : (n2 : Int) > 300) (hc_2 : aslice env.D 32 (.slice o2 n2 c2) none (some (.int .i64 300)) none = some (.slice o2 300 c2)) (hc_3 : Runs Try.prog 3 253 (.loop (loopAt Try.prog 9 0)) [(0, .slice o n c), (1, .slice o1 n1 c1), (2, .slice o2 300 c2), (3, .int .i64 gap), (9, .slice none 0 0), (10, .int .i64 0)] (AHeap.rows 15 [(0, b0), (1, b1), (2, b2)]) (.exit 0) [(1, .slice o1 n1 c1), (2, .slice o2 300 c2), (3, .int .i64 gap), (9, .slice ol k cl)] (AHeap.rows 33 [(0, b0), (1, b1), (2, b2), (32, rl)])) (hc_4 : FDoes Try.prog 13 [.slice ol k cl, .int .i64 (n1 : Int)] (AHeap.rows 38 [(0, b0), (1, b1), (2, b2), (32, rl)]) (.slice om k cm) (AHeap.rows 39 [(0, b0), (1, b1), (2, b2), (32, rl), (38, rm)])) (hc_5 : FDoes Try.prog 21 [.slice o1 n1 c1, .slice o2 300 c2, .int .i64 gap, .slice om k cm] (AHeap.rows 45 [(0, b0), (1, b1), (2, b2), (32, rl), (38, rm)]) (.slice orr k cr) (AHeap.rows 46 [(0, b0), (1, b1), (2, b2), (32, rl), (38, rm), (45, rr)])) (hc_6 : (k : Int) = (k : Int)) (hc_8 : FDoes Try.prog 25 [.slice o1 n1 c1, .int .i64 gap] (AHeap.rows 59 [(0, b0), (1, b1), (2, b2), (32, rl), (38, rm), (45, rr)]) (.int .i64 ew) (AHeap.rows 59 [(0, b0), (1, b1), (2, b2), (32, rl), (38, rm), (45, rr)])) (hc_9 : FDoes Try.prog 25 [.slice o2 300 c2, .int .i64 gap] (AHeap.rows 63 [(0, b0), (1, b1), (2, b2), (32, rl), (38, rm), (45, rr)]) (.int .i64 eh) (AHeap.rows 63 [(0, b0), (1, b1), (2, b2), (32, rl), (38, rm), (45, rr)])) (hc_10 : Runs Try.prog 3 253 (.loop (loopAt Try.prog 9 1)) [(12, .slice orr k cr), (13, .int .i64 ew), (14, .int .i64 eh), (15, .int .i64 0)] (AHeap.rows 64 [(0, b0), (1, b1), (2, b2), (32, rl), (38, rm), (45, rr)]) (.exit 2) [] (AHeap.rows 64 [(0, b0), (1, b1), (2, b2)])) :
    FDoes Try.prog 9 [.slice o n c, .slice o1 n1 c1, .slice o2 n2 c2, .int .i64 gap] (AHeap.of [b0, b1, b2]) (AVal.bool true) (AHeap.rows 65 [(0, b0), (1, b1), (2, b2)]) :=
  pcall_does env_ok mixed (hs := [.val 1002 (.bool false), .val 3002 (.bool true), .val 4001 (.slice o2 300 c2), .keep [0, 1, 2, 3, 9, 10], .loop [(1, .slice o1 n1 c1), (2, .slice o2 300 c2), (3, .int .i64 gap), (9, .slice ol k cl)] (AHeap.rows 33 [(0, b0), (1, b1), (2, b2), (32, rl)]) (.exit 0), .act 10003 (.slice om k cm) (fun h => h.upd [] [rm]), .act 11004 (.slice orr k cr) (fun h => h.upd [] [rr]), .val 12004 (.bool false), .val 12006 (.bool true), .val 14002 (.int .i64 ew), .val 15002 (.int .i64 eh), .keep [12, 13, 14, 15], .loop [] (AHeap.rows 64 [(0, b0), (1, b1), (2, b2)]) (.exit 2)]) (rs := []) (by kernel_rfl) (All.cons (okF hc_0) (All.cons (okT hc_1) (All.cons hc_2 (All.cons hc_3 (All.cons (CallT.mk hc_4) (All.cons (CallT.mk hc_5) (All.cons (neF hc_6) (All.cons (show CallT Try.prog 16 [] (AHeap.rows 55 [(0, b0), (1, b1), (2, b2), (32, rl), (38, rm), (45, rr)]) (AVal.bool true) (AHeap.rows 55 [(0, b0), (1, b1), (2, b2), (32, rl), (38, rm), (45, rr)]) from ⟨(alive_does _)⟩) (All.cons (CallT.mk hc_8) (All.cons (CallT.mk hc_9) (All.cons hc_10 (All.nil))))))))))))

theorem gp_callFF (o o1 o2 ol om orr : Option AAddr) (n c n1 c1 n2 c2 k cl cm cr : Nat) (b0 b1 b2 rl rm rr : ABlk) (gap ew eh : Int) (hc_0 : ¬ ((n1 : Int) > 64)) (hc_1 : ¬ ((n2 : Int) > 300)) (hc_2 : Runs Try.prog 3 253 (.loop (loopAt Try.prog 9 0)) [(0, .slice o n c), (1, .slice o1 n1 c1), (2, .slice o2 n2 c2), (3, .int .i64 gap), (9, .slice none 0 0), (10, .int .i64 0)] (AHeap.rows 12 [(0, b0), (1, b1), (2, b2)]) (.exit 0) [(1, .slice o1 n1 c1), (2, .slice o2 n2 c2), (3, .int .i64 gap), (9, .slice ol k cl)] (AHeap.rows 33 [(0, b0), (1, b1), (2, b2), (32, rl)])) (hc_3 : FDoes Try.prog 13 [.slice ol k cl, .int .i64 (n1 : Int)] (AHeap.rows 38 [(0, b0), (1, b1), (2, b2), (32, rl)]) (.slice om k cm) (AHeap.rows 39 [(0, b0), (1, b1), (2, b2), (32, rl), (38, rm)])) (hc_4 : FDoes Try.prog 21 [.slice o1 n1 c1, .slice o2 n2 c2, .int .i64 gap, .slice om k cm] (AHeap.rows 45 [(0, b0), (1, b1), (2, b2), (32, rl), (38, rm)]) (.slice orr k cr) (AHeap.rows 46 [(0, b0), (1, b1), (2, b2), (32, rl), (38, rm), (45, rr)])) (hc_5 : (k : Int) = (k : Int)) (hc_7 : FDoes Try.prog 25 [.slice o1 n1 c1, .int .i64 gap] (AHeap.rows 59 [(0, b0), (1, b1), (2, b2), (32, rl), (38, rm), (45, rr)]) (.int .i64 ew) (AHeap.rows 59 [(0, b0), (1, b1), (2, b2), (32, rl), (38, rm), (45, rr)])) (hc_8 : FDoes Try.prog 25 [.slice o2 n2 c2, .int .i64 gap] (AHeap.rows 63 [(0, b0), (1, b1), (2, b2), (32, rl), (38, rm), (45, rr)]) (.int .i64 eh) (AHeap.rows 63 [(0, b0), (1, b1), (2, b2), (32, rl), (38, rm), (45, rr)])) (hc_9 : Runs Try.prog 3 253 (.loop (loopAt Try.prog 9 1)) [(12, .slice orr k cr), (13, .int .i64 ew), (14, .int .i64 eh), (15, .int .i64 0)] (AHeap.rows 64 [(0, b0), (1, b1), (2, b2), (32, rl), (38, rm), (45, rr)]) (.exit 2) [] (AHeap.rows 64 [(0, b0), (1, b1), (2, b2)])) :
    FDoes Try.prog 9 [.slice o n c, .slice o1 n1 c1, .slice o2 n2 c2, .int .i64 gap] (AHeap.of [b0, b1, b2]) (AVal.bool true) (AHeap.rows 65 [(0, b0), (1, b1), (2, b2)]) :=
  pcall_does env_ok mixed (hs := [.val 1002 (.bool false), .val 3002 (.bool false), .keep [0, 1, 2, 3, 9, 10], .loop [(1, .slice o1 n1 c1), (2, .slice o2 n2 c2), (3, .int .i64 gap), (9, .slice ol k cl)] (AHeap.rows 33 [(0, b0), (1, b1), (2, b2), (32, rl)]) (.exit 0), .act 10003 (.slice om k cm) (fun h => h.upd [] [rm]), .act 11004 (.slice orr k cr) (fun h => h.upd [] [rr]), .val 12004 (.bool false), .val 12006 (.bool true), .val 14002 (.int .i64 ew), .val 15002 (.int .i64 eh), .keep [12, 13, 14, 15], .loop [] (AHeap.rows 64 [(0, b0), (1, b1), (2, b2)]) (.exit 2)]) (rs := []) (by kernel_rfl) (All.cons (okF hc_0) (All.cons (okF hc_1) (All.cons hc_2 (All.cons (CallT.mk hc_3) (All.cons (CallT.mk hc_4) (All.cons (neF hc_5) (All.cons (show CallT Try.prog 16 [] (AHeap.rows 55 [(0, b0), (1, b1), (2, b2), (32, rl), (38, rm), (45, rr)]) (AVal.bool true) (AHeap.rows 55 [(0, b0), (1, b1), (2, b2), (32, rl), (38, rm), (45, rr)]) from ⟨(alive_does _)⟩) (All.cons (CallT.mk hc_7) (All.cons (CallT.mk hc_8) (All.cons hc_9 (All.nil)))))))))))

end Go.Proofs.Ytcgcpmcjaeenlaa

namespace Go.Proofs.Ytcgcpmcjaeenlaa
open Go.Lift
set_option maxRecDepth 1000000
set_option linter.unusedSimpArgs false
set_option linter.unusedVariables false
set_option linter.unusedSectionVars false

/-! rectangles of spans that lie apart -/

theorem endZ_nonneg (x : Nat → Int) {g : Int} (hg : 0 ≤ g ∧ g ≤ 4096) (i : Nat) : 0 ≤ endZ x g i := by
  cases i with
  | zero => exact Int.le_refl _
  | succ i =>
    have a := (atZ_range x hg i).1
    have s := sideZ_range (x i)
    show 0 ≤ atZ x g (i + 1) - g
    rw [atZ_succ]; omega
theorem sizZ_end (x : Nat → Int) {g : Int} (hg : 0 ≤ g ∧ g ≤ 4096) (n : Nat) (p m : Int) : 0 ≤ begZ x g n p m ∧ 0 ≤ sizZ x g n p m ∧ begZ x g n p m + sizZ x g n p m ≤ endZ x g n := by
  have r := sizZ_range x hg n p m
  refine ⟨r.1, r.2.1, ?_⟩
  unfold begZ sizZ
  by_cases h : okZ n p m
  · rw [if_pos h, if_pos h]
    have h4 : hiZ n p m ≤ n := by unfold hiZ; omega
    have a2 := atZ_up x hg h4
    have : n ≠ 0 := by have := h.1; omega
    unfold endZ
    rw [if_neg this]; omega
  · rw [if_neg h, if_neg h]
    have := endZ_nonneg x hg n
    omega
theorem siz_apart (x : Nat → Int) {g : Int} (hg : 0 ≤ g ∧ g ≤ 4096) {n : Nat} {p m q l : Int} (hp : 0 ≤ p) (hm : 1 ≤ m) (h : p + m ≤ q) (k1 : okZ n p m) (k2 : okZ n q l) : begZ x g n p m + sizZ x g n p m ≤ begZ x g n q l := by
  unfold begZ sizZ
  rw [if_pos k1, if_pos k1, if_pos k2]
  have e : lenZ p m = m := by unfold lenZ; rw [if_neg (by omega)]; omega
  have h4 : hiZ n p m ≤ q.toNat := by unfold hiZ; rw [e]; omega
  have := atZ_up x hg h4
  omega
theorem rectZ_in (x y : Nat → Int) {n m : Nat} {g : Int} (hg : 0 ≤ g ∧ g ≤ 4096) (s : Qd) : 0 ≤ (rectZ x n y m g s).a ∧ 0 ≤ (rectZ x n y m g s).b ∧ 0 ≤ (rectZ x n y m g s).c ∧ 0 ≤ (rectZ x n y m g s).d ∧ (rectZ x n y m g s).a + (rectZ x n y m g s).c ≤ endZ x g n ∧ (rectZ x n y m g s).b + (rectZ x n y m g s).d ≤ endZ y g m := by
  have a := sizZ_end x hg n s.a s.c
  have b := sizZ_end y hg m s.b s.d
  have e1 := endZ_nonneg x hg n
  have e2 := endZ_nonneg y hg m
  unfold rectZ
  split
  · exact ⟨a.1, b.1, a.2.1, b.2.1, a.2.2, b.2.2⟩
  · exact ⟨Int.le_refl _, Int.le_refl _, Int.le_refl _, Int.le_refl _, e1, e2⟩
theorem rectZ_apart (x y : Nat → Int) {n m : Nat} {g : Int} (hg : 0 ≤ g ∧ g ≤ 4096) {s t : Qd} (hs : 0 ≤ s.a ∧ 0 ≤ s.b ∧ 1 ≤ s.c ∧ 1 ≤ s.d) (ht : 0 ≤ t.a ∧ 0 ≤ t.b ∧ 1 ≤ t.c ∧ 1 ≤ t.d) (h : ¬ MeetsZ t s) :
    ¬ (0 < (rectZ x n y m g s).c ∧ 0 < (rectZ x n y m g s).d ∧ 0 < (rectZ x n y m g t).c ∧ 0 < (rectZ x n y m g t).d ∧ (rectZ x n y m g s).a < (rectZ x n y m g t).a + (rectZ x n y m g t).c ∧ (rectZ x n y m g t).a < (rectZ x n y m g s).a + (rectZ x n y m g s).c ∧ (rectZ x n y m g s).b < (rectZ x n y m g t).b + (rectZ x n y m g t).d ∧ (rectZ x n y m g t).b < (rectZ x n y m g s).b + (rectZ x n y m g s).d) := by
  unfold rectZ
  by_cases c1 : okZ n s.a s.c ∧ okZ m s.b s.d
  · by_cases c2 : okZ n t.a t.c ∧ okZ m t.b t.d
    · rw [if_pos c1, if_pos c2]
      rintro ⟨-, -, -, -, h5, h6, h7, h8⟩
      simp only at h5 h6 h7 h8
      unfold MeetsZ at h
      by_cases d1 : t.a < s.a + s.c
      · by_cases d2 : s.a < t.a + t.c
        · by_cases d3 : t.b < s.b + s.d
          · by_cases d4 : s.b < t.b + t.d
            · exact h ⟨d1, d2, d3, d4⟩
            · have := siz_apart y hg (by omega) (by omega) (by omega) c2.2 c1.2
              omega
          · have := siz_apart y hg (by omega) (by omega) (by omega) c1.2 c2.2
            omega
        · have := siz_apart x hg (by omega) (by omega) (by omega) c2.1 c1.1
          omega
      · have := siz_apart x hg (by omega) (by omega) (by omega) c1.1 c2.1
        omega
    · rw [if_neg c2]
      rintro ⟨-, -, h3, -⟩
      exact absurd h3 (by decide)
  · rw [if_neg c1]
    rintro ⟨h3, -⟩
    exact absurd h3 (by decide)

/-- a span of which only the sizes are told -/
def lowQ (p : Pr2) : Qd := ⟨-1, -1, p.a, roundZ p.b 4⟩

section
variable {n k c n1 c1 n2 c2 ver off v1 v2 f1 f2 : Nat} {o o1 o2 : Option AAddr} (hs : SlArg o n c 0 ver off 2) (hs1 : SlArg o1 n1 c1 1 v1 f1 1) (hs2 : SlArg o2 n2 c2 2 v2 f2 1) (hk : k = min n 300) {b0 b1 b2 : ABlk} (h0 : BareB b0) (h1 : BareB b1) (h2 : BareB b2) {x : Nat → Pr2} (hx : ∀ j, j < n → b0.elem? ver (off + j) = some (x j).val) (gap : Int)
include hs hs1 hs2 hk h0 h1 h2 hx

theorem gp_end (r : ABlk) (v q : Nat) (sl : AVal) : Runs Try.prog 3 253 (loopAt Try.prog 9 0) [(0, .slice o n c), (1, .slice o1 n1 c1), (2, .slice o2 n2 c2), (3, .int .i64 gap), (9, sl), (10, .int .i64 k)] (AHeap.rows 33 [(0, b0), (1, b1), (2, b2), (32, r)]) (.exit 0) [(1, .slice o1 n1 c1), (2, .slice o2 n2 c2), (3, .int .i64 gap), (9, sl)] (AHeap.rows 41 [(0, b0), (1, b1), (2, b2), (32, r)]) := by
  have d1 : Clo (Ids [0, 1, 2, 32]) (.slice o1 n1 c1) := hs1.clo (by simp [Ids])
  have d2 : Clo (Ids [0, 1, 2, 32]) (.slice o2 n2 c2) := hs2.clo (by simp [Ids])
  by_cases e : n ≤ 300
  · obtain rfl : k = n := by omega
    exact gp_endN o o1 o2 k c n1 c1 n2 c2 ver off v q k b0 b1 b2 r b0 gap 0 0 sl (by omega)
  · exact (gp_endM o o1 o2 n c n1 c1 n2 c2 ver off v q k b0 b1 b2 r b0 gap 0 0 sl (by omega) (by omega))

theorem gp_more : ∀ (f v : Nat), 1 + v + f = k → ∃ v', 1 + v' = k ∧
    Loops Try.prog 3 253 (loopAt Try.prog 9 0) [(0, .slice o n c), (1, .slice o1 n1 c1), (2, .slice o2 n2 c2), (3, .int .i64 gap), (9, .slice (some ⟨32, v, 0, 0, 4⟩) (1 + v) (1 + v)), (10, .int .i64 (1 + v : Nat))] (AHeap.rows 33 [(0, b0), (1, b1), (2, b2), (32, gRowQ (fun j => lowQ (x j)) 1 v)]) (.exit 0) [(1, .slice o1 n1 c1), (2, .slice o2 n2 c2), (3, .int .i64 gap), (9, .slice (some ⟨32, v', 0, 0, 4⟩) k k)] (AHeap.rows 41 [(0, b0), (1, b1), (2, b2), (32, gRowQ (fun j => lowQ (x j)) 1 v')])
  | 0, v, e => by
    obtain rfl : 1 + v = k := by omega
    exact ⟨v, rfl, Loops.last (by simp) (gp_end hs hs1 hs2 hk h0 h1 h2 hx gap _ v (1 + v) _)⟩
  | f + 1, v, e => by
    obtain ⟨v', g1, g2⟩ := gp_more f (v + 1) (by omega)
    have d0 : Clo (Ids [0, 1, 2, 32]) (.slice o n c) := hs.clo (by simp [Ids])
    have d1 : Clo (Ids [0, 1, 2, 32]) (.slice o1 n1 c1) := hs1.clo (by simp [Ids])
    have d2 : Clo (Ids [0, 1, 2, 32]) (.slice o2 n2 c2) := hs2.clo (by simp [Ids])
    refine ⟨v', g1, Loops.round (gp_grow o o1 o2 n c n1 c1 n2 c2 ver off v (1 + v) (1 + v) b0 b1 b2 _ (gRowQ (fun j => lowQ (x j)) 1 (v + 1)) gap (x (1 + v)).a (x (1 + v)).b (by omega) (by omega) (ix_prS hs (by omega)) (hx _ (by omega)) (ix_prS hs (by omega)) (hx _ (by omega)) ((app_quad slSpan (f := fun j => lowQ (x j)) (by omega) (by omega) (lowQ (x (1 + v))) rfl _ _ _ (by kernel_rfl) (by kernel_rfl)).trans (by kernel_rfl)) (by omega)) ?_ g2⟩
    exact Ent.drop (by kernel_rfl) (by kernel_rfl) (by kernel_rfl) (by kernel_rfl) (by simp [All_cons, All_nil, Clo, d0, d1, d2]; simp [Ids]) (by simp only [List.map, All_cons, All_nil, and_true]; exact ⟨h0.clo _, h1.clo _, h2.clo _, (gRowQ_bare _ _ _).clo _⟩)

theorem gp_build : ∃ (ol : Option AAddr) (v : Nat) (rl : ABlk), SlArg ol k k 32 v 0 4 ∧ BareB rl ∧ (∀ j, j < k → rl.elem? v (0 + j) = some (lowQ (x j)).val) ∧
    Loops Try.prog 3 253 (loopAt Try.prog 9 0) [(0, .slice o n c), (1, .slice o1 n1 c1), (2, .slice o2 n2 c2), (3, .int .i64 gap), (9, .slice none 0 0), (10, .int .i64 (0 : Nat))] (AHeap.rows 10 [(0, b0), (1, b1), (2, b2)]) (.exit 0) [(1, .slice o1 n1 c1), (2, .slice o2 n2 c2), (3, .int .i64 gap), (9, .slice ol k k)] (AHeap.rows 41 [(0, b0), (1, b1), (2, b2), (32, rl)]) := by
  by_cases e0 : k = 0
  · refine ⟨none, 0, noRow0, .inr ⟨rfl, e0, e0⟩, noRow0_bare, fun j hj => by omega, ?_⟩
    have l := Loops.last (by simp) (gp_end hs hs1 hs2 hk h0 h1 h2 hx gap noRow0 0 0 (.slice none 0 0))
    rw [e0] at l ⊢
    exact l.pre (Ent.more (l2 := [(32, noRow0)]) (by kernel_rfl) (by kernel_rfl))
  · obtain ⟨v', g1, g2⟩ := gp_more hs hs1 hs2 hk h0 h1 h2 hx gap (k - 1) 0 (by omega)
    refine ⟨some ⟨32, v', 0, 0, 4⟩, v', gRowQ (fun j => lowQ (x j)) 1 v', .inl rfl, gRowQ_bare _ _ _, fun j hj => gRowQ_el (by omega), ?_⟩
    have d0 : Clo (Ids [0, 1, 2, 32]) (.slice o n c) := hs.clo (by simp [Ids])
    have d1 : Clo (Ids [0, 1, 2, 32]) (.slice o1 n1 c1) := hs1.clo (by simp [Ids])
    have d2 : Clo (Ids [0, 1, 2, 32]) (.slice o2 n2 c2) := hs2.clo (by simp [Ids])
    refine Loops.round (gp_new o o1 o2 n c n1 c1 n2 c2 ver off 0 0 0 b0 b1 b2 b0 (gRowQ (fun j => lowQ (x j)) 1 0) gap (x 0).a (x 0).b (by omega) (by omega) (ix_prS hs (by omega)) (hx _ (by omega)) (ix_prS hs (by omega)) (hx _ (by omega)) ((app_quad1 slSpan (f := fun j => lowQ (x j)) (lowQ (x 0)) rfl _ _ (by kernel_rfl)).trans (by kernel_rfl)) (by omega)) ?_ g2
    exact Ent.drop (by kernel_rfl) (by kernel_rfl) (by kernel_rfl) (by kernel_rfl) (by simp [All_cons, All_nil, Clo, d0, d1, d2]; simp [Ids]) (by simp only [List.map, All_cons, All_nil, and_true]; exact ⟨h0.clo _, h1.clo _, h2.clo _, (gRowQ_bare _ _ _).clo _⟩)
end

section
variable {n cr : Nat} {orr : Option AAddr} {b0 b1 b2 : ABlk} {R : Nat → Qd} {ew eh : Int} (sr : SlArg orr n cr 45 0 0 4) (hn : n ≤ 300) (h0 : BareB b0) (h1 : BareB b1) (h2 : BareB b2)
  (hin : ∀ j, j < n → 0 ≤ (R j).a ∧ 0 ≤ (R j).b ∧ 0 ≤ (R j).c ∧ 0 ≤ (R j).d ∧ (R j).a + (R j).c ≤ ew ∧ (R j).b + (R j).d ≤ eh) (hew : ew ≤ 2 ^ 40) (heh : eh ≤ 2 ^ 40)
include sr hn h0 h1 h2 hin hew heh

theorem gp_inner {i : Nat} (hi : i < n) (hap : ∀ k, k < i → ¬ (0 < (R i).c ∧ 0 < (R i).d ∧ 0 < (R k).c ∧ 0 < (R k).d ∧ (R i).a < (R k).a + (R k).c ∧ (R k).a < (R i).a + (R i).c ∧ (R i).b < (R k).b + (R k).d ∧ (R k).b < (R i).b + (R i).d)) : ∀ (f k : Nat), k + f = i →
    Loops Try.prog 3 253 (loopAt Try.prog 9 2) [(12, .slice orr n cr), (13, .int .i64 ew), (14, .int .i64 eh), (15, .int .i64 i), (16, .int .i64 k)] (AHeap.rows 64 [(0, b0), (1, b1), (2, b2), (45, .made (qrows n R) 4 true)]) (.exit 4) [(12, .slice orr n cr), (13, .int .i64 ew), (14, .int .i64 eh), (15, .int .i64 i)] (AHeap.rows 67 [(0, b0), (1, b1), (2, b2), (45, .made (qrows n R) 4 true)])
  | 0, k, e => by
    obtain rfl : k = i := by omega
    exact Loops.last (by simp) (gp_inEnd orr n cr k k b0 b1 b2 _ ew eh 0 0 0 0 0 0 0 0 (by omega))
  | f + 1, k, e => by
    have ih := gp_inner hi hap f (k + 1) (by omega)
    have d1 : Clo (Ids [0, 1, 2, 45]) (.slice orr n cr) := sr.clo (by simp [Ids])
    have ei : (ABlk.made (qrows n R) 4 true).elem? 0 (0 + i) = some (R i).val := by rw [Nat.zero_add]; exact elem_made (qrows_get hi)
    have ek : (ABlk.made (qrows n R) 4 true).elem? 0 (0 + k) = some (R k).val := by rw [Nat.zero_add]; exact elem_made (qrows_get (by omega))
    have xi : aindexAddr (AEnv.D env) 41 (AVal.slice orr n cr) (AVal.int IntKind.i64 (i : Int)) = some (AVal.ptr (some ⟨45, 0, 0 + i, 0, 4⟩)) := ix_reS sr hi
    have xk : aindexAddr (AEnv.D env) 41 (AVal.slice orr n cr) (AVal.int IntKind.i64 (k : Int)) = some (AVal.ptr (some ⟨45, 0, 0 + k, 0, 4⟩)) := ix_reS sr (by omega)
    have bi := hin i hi
    have bk := hin k (by omega)
    have dr : ∀ K : Nat, Ent 3 253 [(12, .slice orr n cr), (13, .int .i64 ew), (14, .int .i64 eh), (15, .int .i64 i), (16, .int .i64 ((k : Int) + 1))] (AHeap.rows K [(0, b0), (1, b1), (2, b2), (45, .made (qrows n R) 4 true)]) [(12, .slice orr n cr), (13, .int .i64 ew), (14, .int .i64 eh), (15, .int .i64 i), (16, .int .i64 (k + 1 : Nat))] (AHeap.rows 64 [(0, b0), (1, b1), (2, b2), (45, .made (qrows n R) 4 true)]) := fun K =>
      Ent.drop (by kernel_rfl) (by kernel_rfl) (by kernel_rfl) (by kernel_rfl) (by simp [All_cons, All_nil, Clo, d1]) (by simp only [List.map, All_cons, All_nil, and_true]; exact ⟨h0.clo _, h1.clo _, h2.clo _, (qrows_bare _ _).clo _⟩)
    by_cases m0 : 0 < (R i).c
    case neg => exact Loops.round (gp_in0 orr n cr i k b0 b1 b2 _ ew eh (R i).a (R i).b (R i).c (R i).d (R k).a (R k).b (R k).c (R k).d (by omega) xi ei (by omega) (by omega)) (dr _) ih
    by_cases m1 : 0 < (R i).d
    case neg => exact Loops.round (gp_in1 orr n cr i k b0 b1 b2 _ ew eh (R i).a (R i).b (R i).c (R i).d (R k).a (R k).b (R k).c (R k).d (by omega) xi ei (by omega) xi ei (by omega) (by omega)) (dr _) ih
    by_cases m2 : 0 < (R k).c
    case neg => exact Loops.round (gp_in2 orr n cr i k b0 b1 b2 _ ew eh (R i).a (R i).b (R i).c (R i).d (R k).a (R k).b (R k).c (R k).d (by omega) xi ei (by omega) xi ei (by omega) xk ek (by omega) (by omega)) (dr _) ih
    by_cases m3 : 0 < (R k).d
    case neg => exact Loops.round (gp_in3 orr n cr i k b0 b1 b2 _ ew eh (R i).a (R i).b (R i).c (R i).d (R k).a (R k).b (R k).c (R k).d (by omega) xi ei (by omega) xi ei (by omega) xk ek (by omega) xk ek (by omega) (by omega)) (dr _) ih
    by_cases m4 : (R i).a < (R k).a + (R k).c
    case neg => exact Loops.round (gp_in4 orr n cr i k b0 b1 b2 _ ew eh (R i).a (R i).b (R i).c (R i).d (R k).a (R k).b (R k).c (R k).d (by omega) xi ei (by omega) xi ei (by omega) xk ek (by omega) xk ek (by omega) xi ei xk ek xk ek (by omega) (by omega) (by omega)) (dr _) ih
    by_cases m5 : (R k).a < (R i).a + (R i).c
    case neg => exact Loops.round (gp_in5 orr n cr i k b0 b1 b2 _ ew eh (R i).a (R i).b (R i).c (R i).d (R k).a (R k).b (R k).c (R k).d (by omega) xi ei (by omega) xi ei (by omega) xk ek (by omega) xk ek (by omega) xi ei xk ek xk ek (by omega) (by omega) xk ek xi ei xi ei (by omega) (by omega) (by omega)) (dr _) ih
    by_cases m6 : (R i).b < (R k).b + (R k).d
    case neg => exact Loops.round (gp_in6 orr n cr i k b0 b1 b2 _ ew eh (R i).a (R i).b (R i).c (R i).d (R k).a (R k).b (R k).c (R k).d (by omega) xi ei (by omega) xi ei (by omega) xk ek (by omega) xk ek (by omega) xi ei xk ek xk ek (by omega) (by omega) xk ek xi ei xi ei (by omega) (by omega) xi ei xk ek xk ek (by omega) (by omega) (by omega)) (dr _) ih
    have m7 : ¬ (R k).b < (R i).b + (R i).d := fun h => hap k (by omega) ⟨m0, m1, m2, m3, m4, m5, m6, h⟩
    exact Loops.round (gp_in7 orr n cr i k b0 b1 b2 _ ew eh (R i).a (R i).b (R i).c (R i).d (R k).a (R k).b (R k).c (R k).d (by omega) xi ei (by omega) xi ei (by omega) xk ek (by omega) xk ek (by omega) xi ei xk ek xk ek (by omega) (by omega) xk ek xi ei xi ei (by omega) (by omega) xi ei xk ek xk ek (by omega) (by omega) xk ek xi ei xi ei (by omega) (by omega) (by omega)) (dr _) ih

theorem gp_all (hap : ∀ i k, i < n → k < i → ¬ (0 < (R i).c ∧ 0 < (R i).d ∧ 0 < (R k).c ∧ 0 < (R k).d ∧ (R i).a < (R k).a + (R k).c ∧ (R k).a < (R i).a + (R i).c ∧ (R i).b < (R k).b + (R k).d ∧ (R k).b < (R i).b + (R i).d)) : ∀ (f i : Nat), i + f = n →
    Loops Try.prog 3 253 (loopAt Try.prog 9 1) [(12, .slice orr n cr), (13, .int .i64 ew), (14, .int .i64 eh), (15, .int .i64 i)] (AHeap.rows 64 [(0, b0), (1, b1), (2, b2), (45, .made (qrows n R) 4 true)]) (.exit 2) [] (AHeap.rows 64 [(0, b0), (1, b1), (2, b2)])
  | 0, i, e => by
    obtain rfl : i = n := by omega
    refine (Loops.last (by simp) (gp_checkEnd orr i cr i 0 b0 b1 b2 _ ew eh 0 0 0 0 0 0 0 0 (by omega))).post ?_
    exact Ent.drop (by kernel_rfl) (by kernel_rfl) (by kernel_rfl) (by kernel_rfl) (by simp [All_cons, All_nil, Clo]) (by simp only [List.map, All_cons, All_nil, and_true]; exact ⟨h0.clo _, h1.clo _, h2.clo _⟩)
  | f + 1, i, e => by
    have ih := gp_all hap f (i + 1) (by omega)
    have d1 : Clo (Ids [0, 1, 2, 45]) (.slice orr n cr) := sr.clo (by simp [Ids])
    have ei : (ABlk.made (qrows n R) 4 true).elem? 0 (0 + i) = some (R i).val := by rw [Nat.zero_add]; exact elem_made (qrows_get (by omega))
    have xi : aindexAddr (AEnv.D env) 41 (AVal.slice orr n cr) (AVal.int IntKind.i64 (i : Int)) = some (AVal.ptr (some ⟨45, 0, 0 + i, 0, 4⟩)) := ix_reS sr (by omega)
    have bi := hin i (by omega)
    have l := (gp_inner sr hn h0 h1 h2 hin hew heh (i := i) (by omega) (fun k hk => hap i k (by omega) hk) i 0 (by omega))
    have e1 : Ent 3 253 [(12, .slice orr n cr), (13, .int .i64 ew), (14, .int .i64 eh), (15, .int .i64 i), (16, .int .i64 (0 : Nat))] (AHeap.rows 129 [(0, b0), (1, b1), (2, b2), (45, .made (qrows n R) 4 true)]) [(12, .slice orr n cr), (13, .int .i64 ew), (14, .int .i64 eh), (15, .int .i64 i), (16, .int .i64 (0 : Nat))] (AHeap.rows 64 [(0, b0), (1, b1), (2, b2), (45, .made (qrows n R) 4 true)]) :=
      Ent.drop (by kernel_rfl) (by kernel_rfl) (by kernel_rfl) (by kernel_rfl) (by simp [All_cons, All_nil, Clo, d1]) (by simp only [List.map, All_cons, All_nil, and_true]; exact ⟨h0.clo _, h1.clo _, h2.clo _, (qrows_bare _ _).clo _⟩)
    have e2 : Ent 3 253 [(12, .slice orr n cr), (13, .int .i64 ew), (14, .int .i64 eh), (15, .int .i64 i)] (AHeap.rows 67 [(0, b0), (1, b1), (2, b2), (45, .made (qrows n R) 4 true)]) [(12, .slice orr n cr), (13, .int .i64 ew), (14, .int .i64 eh), (15, .int .i64 i)] (AHeap.rows 130 [(0, b0), (1, b1), (2, b2), (45, .made (qrows n R) 4 true)]) :=
      Ent.drop (by kernel_rfl) (by kernel_rfl) (by kernel_rfl) (by kernel_rfl) (by simp [All_cons, All_nil, Clo, d1]) (by simp only [List.map, All_cons, All_nil, and_true]; exact ⟨h0.clo _, h1.clo _, h2.clo _, (qrows_bare _ _).clo _⟩)
    refine Loops.round (gp_check orr n cr i 0 b0 b1 b2 _ ew eh (R i).a (R i).b (R i).c (R i).d 0 0 0 0 (by omega) xi ei (by omega) xi ei (by omega) xi ei (by omega) xi ei (by omega) xi ei xi ei (by omega) (by omega) xi ei xi ei (by omega) (by omega) (Runs.of_loops ((l.pre e1).post e2)) (by omega)) ?_ ih
    exact Ent.drop (by kernel_rfl) (by kernel_rfl) (by kernel_rfl) (by kernel_rfl) (by simp [All_cons, All_nil, Clo, d1]) (by simp only [List.map, All_cons, All_nil, and_true]; exact ⟨h0.clo _, h1.clo _, h2.clo _, (qrows_bare _ _).clo _⟩)
end

theorem apart_law {o o1 o2 : Option AAddr} {n c n1 c1 n2 c2 v0 f0 v1 f1 v2 f2 : Nat} {b0 b1 b2 : ABlk} (hs : SlArg o n c 0 v0 f0 2) (hs1 : SlArg o1 n1 c1 1 v1 f1 1) (hs2 : SlArg o2 n2 c2 2 v2 f2 1) (h0 : BareB b0) (h1 : BareB b1) (h2 : BareB b2)
    {x : Nat → Pr2} (hx : ∀ j, j < n → b0.elem? v0 (f0 + j) = some (x j).val) {y z : Nat → Int} (hy : ∀ j, j < n1 → b1.elem? v1 (f1 + j) = some (.int .i64 (y j))) (hz : ∀ j, j < n2 → b2.elem? v2 (f2 + j) = some (.int .i64 (z j))) (gap : Int) (hc1 : n1 ≤ c1) (hc2 : n2 ≤ c2) :
    ∃ h', FDoes Try.prog 9 [.slice o n c, .slice o1 n1 c1, .slice o2 n2 c2, .int .i64 gap] (AHeap.of [b0, b1, b2]) (.bool true) h' := by
  have hg := sideZ_range gap
  have part : ∀ {N M : Nat} (KA : Nat), N ≤ 64 → M ≤ 300 → SlArg o1 N c1 1 v1 f1 1 → SlArg o2 M c2 2 v2 f2 1 → (∀ j, j < N → b1.elem? v1 (f1 + j) = some (.int .i64 (y j))) → (∀ j, j < M → b2.elem? v2 (f2 + j) = some (.int .i64 (z j))) →
      ∃ (k : Nat) (ol om orr : Option AAddr) (cl cm cr : Nat) (rl rm rr : ABlk) (ew eh : Int),
      Runs Try.prog 3 253 (.loop (loopAt Try.prog 9 0)) [(0, .slice o n c), (1, .slice o1 N c1), (2, .slice o2 M c2), (3, .int .i64 gap), (9, .slice none 0 0), (10, .int .i64 0)] (AHeap.rows KA [(0, b0), (1, b1), (2, b2)]) (.exit 0) [(1, .slice o1 N c1), (2, .slice o2 M c2), (3, .int .i64 gap), (9, .slice ol k cl)] (AHeap.rows 33 [(0, b0), (1, b1), (2, b2), (32, rl)]) ∧
      FDoes Try.prog 13 [.slice ol k cl, .int .i64 (N : Int)] (AHeap.rows 38 [(0, b0), (1, b1), (2, b2), (32, rl)]) (.slice om k cm) (AHeap.rows 39 [(0, b0), (1, b1), (2, b2), (32, rl), (38, rm)]) ∧
      FDoes Try.prog 21 [.slice o1 N c1, .slice o2 M c2, .int .i64 gap, .slice om k cm] (AHeap.rows 45 [(0, b0), (1, b1), (2, b2), (32, rl), (38, rm)]) (.slice orr k cr) (AHeap.rows 46 [(0, b0), (1, b1), (2, b2), (32, rl), (38, rm), (45, rr)]) ∧
      (FDoes Try.prog 25 [.slice o1 N c1, .int .i64 gap] (AHeap.rows 59 [(0, b0), (1, b1), (2, b2), (32, rl), (38, rm), (45, rr)]) (.int .i64 ew) (AHeap.rows 59 [(0, b0), (1, b1), (2, b2), (32, rl), (38, rm), (45, rr)])) ∧
      (FDoes Try.prog 25 [.slice o2 M c2, .int .i64 gap] (AHeap.rows 63 [(0, b0), (1, b1), (2, b2), (32, rl), (38, rm), (45, rr)]) (.int .i64 eh) (AHeap.rows 63 [(0, b0), (1, b1), (2, b2), (32, rl), (38, rm), (45, rr)])) ∧
      Runs Try.prog 3 253 (.loop (loopAt Try.prog 9 1)) [(12, .slice orr k cr), (13, .int .i64 ew), (14, .int .i64 eh), (15, .int .i64 0)] (AHeap.rows 64 [(0, b0), (1, b1), (2, b2), (32, rl), (38, rm), (45, rr)]) (.exit 2) [] (AHeap.rows 64 [(0, b0), (1, b1), (2, b2)]) := by
    intro N M KA hN hM hs1 hs2 hy hz
    obtain ⟨ol, v, rl, sl, hrl, hel, l0⟩ := gp_build (k := min n 300) hs hs1 hs2 rfl h0 h1 h2 hx gap
    have cr := colsZ_range (N : Int)
    have hk : min n 300 ≤ 300 := by omega
    generalize min n 300 = k at sl hel l0 hk
    obtain ⟨om, cm, out, sm, rfl, fo, k1⟩ := flow_any (H := AHeap.rows 38 [(0, b0), (1, b1), (2, b2), (32, rl)]) (src := fun j => lowQ (x j)) ⟨sl, by kernel_rfl, by rw [AHeap.rows_next]; omega, hrl, hel⟩ (N : Int) (N := 38) (by rw [AHeap.rows_next])
    have e : flen k = k := by unfold flen; rw [if_neg (by omega)]
    unfold FlowsTo at fo
    rw [e] at sm fo k1
    have hw : AnyW (colsZ N) k (fun j => normZ (colsZ N) (lowQ (x j))) := fun j _ => ⟨normZ_ok cr.1 _, by show inZ2 (-1) (-1) _ = -1; unfold inZ2; show min (max (-1) (-1)) (colsZ N - min (max (x j).a 1) (colsZ N)) = -1; omega, by show inZ2 (-1) (-1) _ = -1; unfold inZ2; omega⟩
    have lies : ∀ j, j < k → 0 ≤ (out j).a ∧ (out j).a ≤ 2 ^ 40 ∧ 0 ≤ (out j).b ∧ (out j).b ≤ 2 ^ 40 ∧ 1 ≤ (out j).c ∧ (out j).c ≤ 2 ^ 40 ∧ 1 ≤ (out j).d ∧ (out j).d ≤ 2 ^ 40 := fun j hj => by
      have q := FlowZ.lies (fun j hj => (hw j hj).1) fo hj
      have nz : NormZ (colsZ N) (normZ (colsZ N) (lowQ (x j))) := (hw j hj).1
      have n3 := nz.c; have n4 := nz.d
      have hd : downM j ≤ 8192 + 4097 * 300 := by unfold downM; omega
      omega
    obtain ⟨orr, cr', sr, rfl, k2⟩ := rects_any (H := AHeap.rows 45 [(0, b0), (1, b1), (2, b2), (32, rl), (38, .made (qrows k out) 4 true)]) (x := y) (y := z) (w := out) (n := N) (m := M) (k := k) (id0 := 1) (id1 := 2) (id2 := 38)
      ⟨hs1, by kernel_rfl, by rw [AHeap.rows_next]; omega, h1, hy⟩ ⟨hs2, by kernel_rfl, by rw [AHeap.rows_next]; omega, h2, hz⟩ ⟨sm, by kernel_rfl, by rw [AHeap.rows_next]; omega, qrows_bare _ _, fun j hj => by rw [Nat.zero_add]; exact elem_made (qrows_get hj)⟩ (by decide) (fun j hj => by have := lies j hj; constructor <;> unfold Fit64 <;> omega) gap (N := 45) (by rw [AHeap.rows_next])
    have er : rlen N M k = k := by unfold rlen; rw [if_neg (by omega)]
    rw [er] at sr k2
    have g1 := ends_does (H := AHeap.rows 59 [(0, b0), (1, b1), (2, b2), (32, rl), (38, .made (qrows k out) 4 true), (45, .made (qrows k fun j => rectZ y N z M (sideZ gap) (out j)) 4 true)]) (id := 1) (x := y) (n := N) ⟨hs1, by kernel_rfl, by rw [AHeap.rows_next]; omega, h1, hy⟩ (by omega) gap
    have g2 := ends_does (H := AHeap.rows 63 [(0, b0), (1, b1), (2, b2), (32, rl), (38, .made (qrows k out) 4 true), (45, .made (qrows k fun j => rectZ y N z M (sideZ gap) (out j)) 4 true)]) (id := 2) (x := z) (n := M) ⟨hs2, by kernel_rfl, by rw [AHeap.rows_next]; omega, h2, hz⟩ (by omega) gap
    have w1 := endZ_range y hg N
    have w2 := endZ_range z hg M
    have l1 := gp_all (R := fun j => rectZ y N z M (sideZ gap) (out j)) sr hk h0 h1 h2 (fun j _ => rectZ_in y z hg (out j)) (by omega) (by omega) (fun i j hi hj => rectZ_apart y z hg (by have := lies i hi; omega) (by have := lies j (by omega); omega) (any_apart hw fo hi j hj)) k 0 (by omega)
    have d1 : Clo (Ids [0, 1, 2]) (.slice o1 N c1) := hs1.clo (by simp [Ids])
    have d2 : Clo (Ids [0, 1, 2]) (.slice o2 M c2) := hs2.clo (by simp [Ids])
    have d0 : Clo (Ids [0, 1, 2]) (.slice o n c) := hs.clo (by simp [Ids])
    have d3 : Clo (Ids [0, 1, 2, 32]) (.slice o1 N c1) := hs1.clo (by simp [Ids])
    have d4 : Clo (Ids [0, 1, 2, 32]) (.slice o2 M c2) := hs2.clo (by simp [Ids])
    have d5 : Clo (Ids [0, 1, 2, 32]) (.slice ol k k) := sl.clo (by simp [Ids])
    have d6 : Clo (Ids [0, 1, 2, 45]) (.slice orr k k) := sr.clo (by simp [Ids])
    have p0 : Ent 3 253 [(0, .slice o n c), (1, .slice o1 N c1), (2, .slice o2 M c2), (3, .int .i64 gap), (9, .slice none 0 0), (10, .int .i64 (0 : Nat))] (AHeap.rows KA [(0, b0), (1, b1), (2, b2)]) [(0, .slice o n c), (1, .slice o1 N c1), (2, .slice o2 M c2), (3, .int .i64 gap), (9, .slice none 0 0), (10, .int .i64 (0 : Nat))] (AHeap.rows 10 [(0, b0), (1, b1), (2, b2)]) :=
      Ent.drop (by kernel_rfl) (by kernel_rfl) (by kernel_rfl) (by kernel_rfl) (by simp [All_cons, All_nil, Clo, d0, d1, d2]) (by simp only [List.map, All_cons, All_nil, and_true]; exact ⟨h0.clo _, h1.clo _, h2.clo _⟩)
    have p1 : Ent 3 253 [(1, .slice o1 N c1), (2, .slice o2 M c2), (3, .int .i64 gap), (9, .slice ol k k)] (AHeap.rows 41 [(0, b0), (1, b1), (2, b2), (32, rl)]) [(1, .slice o1 N c1), (2, .slice o2 M c2), (3, .int .i64 gap), (9, .slice ol k k)] (AHeap.rows 33 [(0, b0), (1, b1), (2, b2), (32, rl)]) :=
      Ent.drop (by kernel_rfl) (by kernel_rfl) (by kernel_rfl) (by kernel_rfl) (by simp [All_cons, All_nil, Clo, d3, d4, d5]) (by simp only [List.map, All_cons, All_nil, and_true]; exact ⟨h0.clo _, h1.clo _, h2.clo _, hrl.clo _⟩)
    have p2 : Ent 3 253 [(12, .slice orr k k), (13, .int .i64 (endZ y (sideZ gap) N)), (14, .int .i64 (endZ z (sideZ gap) M)), (15, .int .i64 (0 : Nat))] (AHeap.rows 64 [(0, b0), (1, b1), (2, b2), (32, rl), (38, .made (qrows k out) 4 true), (45, .made (qrows k fun j => rectZ y N z M (sideZ gap) (out j)) 4 true)]) [(12, .slice orr k k), (13, .int .i64 (endZ y (sideZ gap) N)), (14, .int .i64 (endZ z (sideZ gap) M)), (15, .int .i64 (0 : Nat))] (AHeap.rows 64 [(0, b0), (1, b1), (2, b2), (45, .made (qrows k fun j => rectZ y N z M (sideZ gap) (out j)) 4 true)]) :=
      Ent.drop (by kernel_rfl) (by kernel_rfl) (by kernel_rfl) (by kernel_rfl) (by simp [All_cons, All_nil, Clo, d6]) (by simp only [List.map, All_cons, All_nil, and_true]; exact ⟨h0.clo _, h1.clo _, h2.clo _, (qrows_bare _ _).clo _⟩)
    exact ⟨k, ol, om, orr, k, k, k, rl, _, _, _, _, Runs.of_loops ((l0.pre p0).post p1), k1.to (by kernel_rfl), k2.to (by kernel_rfl), g1, g2, Runs.of_loops (l1.pre p2)⟩
  obtain ⟨td, txd, t1, t2, t3, t4, t5, t6, t7⟩ := slInt.ty
  by_cases b1' : 64 < n1
  · obtain rfl | ⟨rfl, h0', _⟩ := hs1
    · by_cases b2' : 300 < n2
      · obtain rfl | ⟨rfl, h0', _⟩ := hs2
        · obtain ⟨k, ol, om, orr, cl, cm, cr, rl, rm, rr, ew, eh, q0, q1, q2, q3, q4, q5⟩ := part (N := 64) (M := 300) 18 (by omega) (by omega) (.inl rfl) (.inl rfl) (fun j hj => hy j (by omega)) (fun j hj => hz j (by omega))
          exact ⟨_, gp_callTT o _ _ ol om orr n c n1 c1 n2 c2 k cl cm cr b0 b1 b2 rl rm rr gap ew eh (by omega) (aslice_to (m := 64) t1 t2 t3 t4.symm (by omega)) (by omega) (aslice_to (m := 300) t1 t2 t3 t4.symm (by omega)) q0 q1 q2 rfl q3 q4 q5⟩
        · omega
      · obtain ⟨k, ol, om, orr, cl, cm, cr, rl, rm, rr, ew, eh, q0, q1, q2, q3, q4, q5⟩ := part (N := 64) (M := n2) 15 (by omega) (by omega) (.inl rfl) hs2 (fun j hj => hy j (by omega)) hz
        exact ⟨_, gp_callTF o _ o2 ol om orr n c n1 c1 n2 c2 k cl cm cr b0 b1 b2 rl rm rr gap ew eh (by omega) (aslice_to (m := 64) t1 t2 t3 t4.symm (by omega)) (by omega) q0 q1 q2 rfl q3 q4 q5⟩
    · omega
  · by_cases b2' : 300 < n2
    · obtain rfl | ⟨rfl, h0', _⟩ := hs2
      · obtain ⟨k, ol, om, orr, cl, cm, cr, rl, rm, rr, ew, eh, q0, q1, q2, q3, q4, q5⟩ := part (N := n1) (M := 300) 15 (by omega) (by omega) hs1 (.inl rfl) hy (fun j hj => hz j (by omega))
        exact ⟨_, gp_callFT o o1 _ ol om orr n c n1 c1 n2 c2 k cl cm cr b0 b1 b2 rl rm rr gap ew eh (by omega) (by omega) (aslice_to (m := 300) t1 t2 t3 t4.symm (by omega)) q0 q1 q2 rfl q3 q4 q5⟩
      · omega
    · obtain ⟨k, ol, om, orr, cl, cm, cr, rl, rm, rr, ew, eh, q0, q1, q2, q3, q4, q5⟩ := part (N := n1) (M := n2) 12 (by omega) (by omega) hs1 hs2 hy hz
      exact ⟨_, gp_callFF o o1 o2 ol om orr n c n1 c1 n2 c2 k cl cm cr b0 b1 b2 rl rm rr gap ew eh (by omega) (by omega) q0 q1 q2 rfl q3 q4 q5⟩

end Go.Proofs.Ytcgcpmcjaeenlaa
