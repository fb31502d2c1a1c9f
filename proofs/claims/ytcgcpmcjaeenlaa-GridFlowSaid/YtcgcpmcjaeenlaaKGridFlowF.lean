/-
  Parts of the proof, one behind the other:
  'frescolaw09.GridFlow' answers true, for every list of spans and number of columns.
-/
import Derived.Test.YtcgcpmcjaeenlaaKGridFlowE

namespace Go.Proofs.Ytcgcpmcjaeenlaa
open Go.Lift
set_option maxRecDepth 1000000
set_option linter.unusedSimpArgs false
set_option linter.unusedVariables false
set_option linter.unusedSectionVars false

theorem flow_same {n : Nat} {src : Nat → Qd} {cols : Int} {out out' : Nat → Qd} (h : FlowsTo n src cols out) (h' : FlowsTo n src cols out') : ∀ j, j < flen n → out j = out' j := FlowZ.uniq h h' _ (Nat.le_refl _)
theorem qd_slice_from {D : Tys} {t e : Nat} {d xd : TyD} (hd : D t = some d) (hk : d.kind = .slice e) (hx : D e = some xd) {id ver len cap m es r : Nat} (hes : es = xd.size) (hr : es = 4) {k : IntKind} (hm : len = m + r ∧ cap = m + r) :
    aslice D t (.slice (some ⟨id, ver, 0, 0, es⟩) len cap) (some (.int k m)) none none = some (.slice (some ⟨id, ver, m, 0, es⟩) r r) := by
  obtain ⟨rfl, rfl⟩ := hm
  simp only [aslice, hd, hk, hx, abound]
  rw [if_pos ⟨by omega, by omega⟩]
  simp [hes]
theorem romRow_el {k nl vl : Nat} {w : Nat → Qd} {m : Int} (h : nl + vl = k + 9) : ∀ j, j < k → (gRowQ (roomyF k w m) nl vl).elem? vl (0 + j) = some (w j).val := by
  intro j hj
  rw [gRowQ_el (f := roomyF k w m) (by omega)]
  unfold roomyF; rw [if_pos hj]
theorem romBack_el {k nl vl : Nat} {w : Nat → Qd} {m : Int} (h : nl + vl = k + 9) : ∀ j, j < 9 → (gRowQ (roomyF k w m) nl vl).elem? vl (k + j) = some (Qd.val ⟨m, 0, 0, 0⟩) := by
  intro j hj
  have e := gRowQ_el (f := roomyF k w m) (n1 := nl) (v := vl) (j := k + j) (by omega)
  rw [Nat.zero_add] at e
  rw [e]
  unfold roomyF; rw [if_neg (by omega)]; rfl
theorem mdQ_el (f : Nat → Qd) (r : Nat) : ∀ j, j < r → (ABlk.made (qrows r f) 4 true).elem? 0 (0 + j) = some (f j).val := fun j hj => by rw [Nat.zero_add]; exact elem_made (qrows_get hj)
theorem app_xS {oa : Option AAddr} {ka ca : Nat} (sa : SlArg oa ka ca 20 0 0 4) (hc : ca = ka) (hk : ka ≤ 2 ^ 41) {hp : AHeap} (hg : hp.get 20 = some (.made (qrows ka fun _ => MarkQ (-5)) 4 true)) {t N : Nat} (hx : elemsOf 4 (.slice (some ⟨t, 0, 0, 0, 4⟩) 1 1) hp = some [(MarkQ (-5)).val]) :
    abuiltin env .append #[22, 22] [.slice oa ka ca, .slice (some ⟨t, 0, 0, 0, 4⟩) 1 1] N hp = some (.slice (some ⟨N, 0, 0, 0, 4⟩) (ka + 1) (ka + 1), hp.set N (gRowQ (fun _ => MarkQ (-5)) (ka + 1) 0)) := by
  have er : gRowQ (fun _ => MarkQ (-5)) (ka + 1) 0 = .made (qrows ka (fun _ => MarkQ (-5)) ++ [(MarkQ (-5)).val]) 4 false := by
    rw [qrows_snoc (f := fun _ => MarkQ (-5))]; rfl
  subst hc
  have sa2 := sa
  rcases sa with rfl | ⟨rfl, rfl, _⟩
  · have he : elemsOf 4 (.slice (some ⟨20, 0, 0, 0, 4⟩) ca ca) hp = some (qrows ca fun _ => MarkQ (-5)) := elemsOf_slice sa2 hg (fun j hj => by rw [Nat.zero_add]; exact elem_made (qrows_get hj))
    refine (app_copy slSpan hx (b := .made (qrows ca fun _ => MarkQ (-5)) 4 true) (a := ⟨20, 0, 0, 0, 4⟩) (len := ca) (cap := ca) (by simp; omega) (by simp; omega) hg rfl (by simp) rfl he).trans ?_
    rw [er]; rfl
  · refine (app_new slSpan hx (by simp) (by simp) (by simp)).trans ?_
    rw [er]; rfl
theorem app_litS1 {o : Option AAddr} {n c id ver off : Nat} (hs : SlArg o n c id ver off 4) (hne : ¬ n = 0) (hn : n ≤ 2 ^ 42) {b : ABlk} {x : Nat → Qd} (hx : ∀ j, j < n → b.elem? ver (off + j) = some (x j).val) {r0 N : Nat} {hp : AHeap} (hg : hp.get id = some b) (hr : hp.get r0 = some (.made [] 4 true)) :
    abuiltin env .append #[22, 22] [.slice (some ⟨r0, 0, 0, 0, 4⟩) 0 0, .slice o n c] N hp = some (.slice (some ⟨N, 0, 0, 0, 4⟩) n n, hp.set N (gRowQ x n 0)) := by
  have he : elemsOf 4 (.slice o n c) hp = some (qrows n x) := elemsOf_slice hs hg hx
  refine (app_copy slSpan he (b := .made [] 4 true) (old := []) (a := ⟨r0, 0, 0, 0, 4⟩) (len := 0) (cap := 0) (by simp; omega) (by simp; omega) hr rfl (by simp; omega) rfl (by simp [elemsOf, hr])).trans ?_
  rw [List.nil_append, qrows_length, Nat.zero_add]
  rfl
theorem app_litS0 {o : Option AAddr} {c id ver off : Nat} (hs : SlArg o 0 c id ver off 4) {b : ABlk} {r0 N : Nat} {hp : AHeap} (hg : hp.get id = some b) (hr : hp.get r0 = some (.made [] 4 true)) :
    abuiltin env .append #[22, 22] [.slice (some ⟨r0, 0, 0, 0, 4⟩) 0 0, .slice o 0 c] N hp = some (.slice (some ⟨r0, 0, 0, 0, 4⟩) 0 0, hp) := by
  have he : elemsOf 4 (.slice o 0 c) hp = some [] := elemsOf_slice (f := fun _ => Qd0.val) hs hg (fun j hj => by omega)
  exact app_none slSpan he (b := .made [] 4 true) (o := some ⟨r0, 0, 0, 0, 4⟩) (len := 0) (cap := 0) (by simp) (by simp) (fun a ha => by simp at ha; subst ha; exact ⟨hr, rfl⟩) (by simp) (by simp)

section
variable {n c kw cw vl ca cb ver off vw : Nat} {o ow oa ob : Option AAddr} (hs : SlArg o n c 0 ver off 4) (sw : SlArg ow kw cw 6 vw 0 4) (sa : SlArg oa kw ca 20 0 0 4) (sb : SlArg ob kw cb 25 0 0 4) {b rw rl ra rb : ABlk} (hb : BareB b) (hw : BareB rw) (hl : BareB rl) (ha : BareB ra) (hbb : BareB rb) (cols : Int) (hk : kw ≤ 4096)
include hs sw sa sb hb hw hl ha hbb hk

theorem gws_loop {z : Nat → Qd} : ∀ (f i : Nat), i + f = kw →
    Loops Try.prog 1 130 (loopAt Try.prog 3 0) [(0, .slice o n c), (1, .int .i64 cols), (5, .slice ow kw cw), (7, .slice (some ⟨10, vl, 0, 0, 4⟩) n (n + 9)), (8, .slice oa kw ca), (9, .slice ob kw cb), (10, .int .i64 i)] (AHeap.rows 100 [(0, b), (6, rw), (10, rl), (20, .made (qrows kw fun j => if j < i then MarkQ (-5) else z j) 4 true), (25, rb)]) (.exit 0) [(0, .slice o n c), (1, .int .i64 cols), (5, .slice ow kw cw), (7, .slice (some ⟨10, vl, 0, 0, 4⟩) n (n + 9)), (8, .slice oa kw ca), (9, .slice ob kw cb)] (AHeap.rows 104 [(0, b), (6, rw), (10, rl), (20, .made (qrows kw fun _ => MarkQ (-5)) 4 true), (25, rb)])
  | 0, i, e => by
    obtain rfl : i = kw := by omega
    rw [show (qrows i fun j => if j < i then MarkQ (-5) else z j) = (qrows i fun _ => MarkQ (-5)) from qrows_congr fun j hj => by rw [if_pos hj]]
    exact Loops.last (by simp) (gw_spoilEnd o ow oa ob n c i cw vl ca cb i 0 0 b rw rl b rb b b _ cols 0 0 0 0 (by omega))
  | f + 1, i, e => by
    have d0 : Clo (Ids [0, 6, 10, 20, 25]) (.slice o n c) := hs.clo (by simp [Ids])
    have dw : Clo (Ids [0, 6, 10, 20, 25]) (.slice ow kw cw) := sw.clo (by simp [Ids])
    have da : Clo (Ids [0, 6, 10, 20, 25]) (.slice oa kw ca) := sa.clo (by simp [Ids])
    have db : Clo (Ids [0, 6, 10, 20, 25]) (.slice ob kw cb) := sb.clo (by simp [Ids])
    have st := gw_spoil o ow oa ob n c kw cw vl ca cb i 0 0 b rw rl b rb b b (qrows kw fun j => if j < i then MarkQ (-5) else z j) cols (z i).a (z i).b (z i).c (z i).d (by omega) (ix_spS sa (by omega)) ⟨rfl, by rw [Nat.zero_add, qrows_get (by omega)]; simp; rfl⟩ (by omega)
    rw [Nat.zero_add] at st
    have ee : (AVal.agg [.int .i64 (-5), .int .i64 0, .int .i64 0, .int .i64 0]) = (MarkQ (-5)).val := rfl
    rw [ee, show (qrows kw fun j => if j < i then MarkQ (-5) else z j).set i (MarkQ (-5)).val = qrows kw (fun j => if j < i + 1 then MarkQ (-5) else z j) from qrows_step (y := fun _ => MarkQ (-5))] at st
    refine Loops.step (st.post ?_) (gws_loop (z := z) f (i + 1) (by omega))
    exact Ent.drop (by kernel_rfl) (by kernel_rfl) (by kernel_rfl) (by kernel_rfl) (by simp [All_cons, All_nil, Clo, d0, dw, da, db]; simp [Ids]) (by simp only [List.map, All_cons, All_nil, and_true]; exact ⟨hb.clo _, hw.clo _, hl.clo _, (qrows_bare _ _).clo _, hbb.clo _⟩)

theorem gwg_loop : ∀ (f v : Nat), v + f = 69 →
    Loops Try.prog 1 130 (loopAt Try.prog 3 1) [(0, .slice o n c), (1, .int .i64 cols), (5, .slice ow kw cw), (7, .slice (some ⟨10, vl, 0, 0, 4⟩) n (n + 9)), (8, .slice oa kw ca), (9, .slice ob kw cb), (11, .slice (some ⟨60, v, 0, 0, 4⟩) (kw + 1 + v) (kw + 1 + v)), (12, .int .i64 (v + 1 : Nat))] (AHeap.rows 100 [(0, b), (6, rw), (10, rl), (20, ra), (25, rb), (60, gRowQ (fun _ => MarkQ (-5)) (kw + 1) v)]) (.exit 2) [(0, .slice o n c), (1, .int .i64 cols), (5, .slice ow kw cw), (7, .slice (some ⟨10, vl, 0, 0, 4⟩) n (n + 9)), (8, .slice oa kw ca), (9, .slice ob kw cb), (11, .slice (some ⟨60, 69, 0, 0, 4⟩) (kw + 70) (kw + 70))] (AHeap.rows 102 [(0, b), (6, rw), (10, rl), (20, ra), (25, rb), (60, gRowQ (fun _ => MarkQ (-5)) (kw + 1) 69)])
  | 0, v, e => by
    obtain rfl : v = 69 := by omega
    exact Loops.last (by simp) (gw_growEnd o ow oa ob n c kw cw vl ca cb (69 + 1) 69 (kw + 1 + 69) b rw rl ra rb _ b [] cols 0 0 0 0 (by omega))
  | f + 1, v, e => by
    have d0 : Clo (Ids [0, 6, 10, 20, 25, 60]) (.slice o n c) := hs.clo (by simp [Ids])
    have dw : Clo (Ids [0, 6, 10, 20, 25, 60]) (.slice ow kw cw) := sw.clo (by simp [Ids])
    have da : Clo (Ids [0, 6, 10, 20, 25, 60]) (.slice oa kw ca) := sa.clo (by simp [Ids])
    have db : Clo (Ids [0, 6, 10, 20, 25, 60]) (.slice ob kw cb) := sb.clo (by simp [Ids])
    have ih := gwg_loop f (v + 1) (by omega)
    rw [show kw + 1 + (v + 1) = kw + 1 + v + 1 by omega] at ih
    refine Loops.step ((gw_grow o ow oa ob n c kw cw vl ca cb (v + 1) v (kw + 1 + v) b rw rl ra rb (gRowQ (fun _ => MarkQ (-5)) (kw + 1) v) (gRowQ (fun _ => MarkQ (-5)) (kw + 1) (v + 1)) [] cols 0 0 0 0 (by omega) ((app_quad slSpan (f := fun _ => MarkQ (-5)) (n1 := kw + 1) (by omega) (by omega) (MarkQ (-5)) rfl _ _ _ (by kernel_rfl) (by kernel_rfl)).trans (by kernel_rfl)) (by omega)).post ?_) ih
    exact Ent.drop (by kernel_rfl) (by kernel_rfl) (by kernel_rfl) (by kernel_rfl) (by simp [All_cons, All_nil, Clo, d0, dw, da, db]; simp [Ids]) (by simp only [List.map, All_cons, All_nil, and_true]; exact ⟨hb.clo _, hw.clo _, hl.clo _, ha.clo _, hbb.clo _, (gRowQ_bare _ _ _).clo _⟩)

theorem gwt_loop {src z : Nat → Qd} (hel : ∀ j, j < n → b.elem? ver (off + j) = some (src j).val) (hn : n ≤ 2 ^ 42) (fk : Nat) : ∀ (f i mv : Nat), i + f = n → ∃ mv2,
    Loops Try.prog 1 130 (loopAt Try.prog 3 2) [(0, .slice o n c), (1, .int .i64 cols), (5, .slice ow kw cw), (7, .slice (some ⟨10, vl, 0, 0, 4⟩) n (n + 9)), (9, .slice ob kw cb), (13, .bool true), (14, .int .i64 i)] (AHeap.rows 100 [(0, b), (6, rw), (10, wRow (qrows (n + 9) fun j => if j < i then src (n - 1 - j) else z j) vl mv fk), (25, rb)]) (.exit 4) [(1, .int .i64 cols), (5, .slice ow kw cw), (7, .slice (some ⟨10, vl, 0, 0, 4⟩) n (n + 9)), (9, .slice ob kw cb), (13, .bool true)] (AHeap.rows 62 [(0, b), (6, rw), (10, wRow (qrows (n + 9) fun j => if j < n then src (n - 1 - j) else z j) vl mv2 fk), (25, rb)])
  | 0, i, mv, e => by
    obtain rfl : i = n := by omega
    have dw : Clo (Ids [0, 6, 10, 25]) (.slice ow kw cw) := sw.clo (by simp [Ids])
    have db : Clo (Ids [0, 6, 10, 25]) (.slice ob kw cb) := sb.clo (by simp [Ids])
    refine ⟨mv, (Loops.last (by simp) (gw_turnEnd o ow ob i c kw cw vl cb i 0 ver off mv fk b rw rb _ cols 0 0 0 0 0 0 0 0 (by omega))).post ?_⟩
    exact Ent.drop (by kernel_rfl) (by kernel_rfl) (by kernel_rfl) (by kernel_rfl) (by simp [All_cons, All_nil, Clo, dw, db]; simp [Ids]) (by simp only [List.map, All_cons, All_nil, and_true]; exact ⟨hb.clo _, hw.clo _, (wRow_bare _ _ _ _ _).clo _, hbb.clo _⟩)
  | f + 1, i, mv, e => by
    have d0 : Clo (Ids [0, 6, 10, 25]) (.slice o n c) := hs.clo (by simp [Ids])
    have dw : Clo (Ids [0, 6, 10, 25]) (.slice ow kw cw) := sw.clo (by simp [Ids])
    have db : Clo (Ids [0, 6, 10, 25]) (.slice ob kw cb) := sb.clo (by simp [Ids])
    have hi : i < n := by omega
    obtain ⟨mv2, ih⟩ := gwt_loop (z := z) hel hn fk f (i + 1) vl (by omega)
    have ip : (n : Int) - 1 - i = (n - 1 - i : Nat) := by omega
    have ixp : aindexAddr (AEnv.D env) 22 (AVal.slice o n c) (AVal.int IntKind.i64 ((n : Int) - 1 - (i : Int))) = some (AVal.ptr (some ⟨0, ver, off + (n - 1 - i), 0, 4⟩)) := by rw [ip]; exact ix_spS hs (by omega)
    have st := gw_turn o ow ob n c kw cw vl cb i (n - 1 - i) ver off mv fk b rw rb (qrows (n + 9) fun j => if j < i then src (n - 1 - j) else z j) cols (src (n - 1 - i)).a (src (n - 1 - i)).b (src (n - 1 - i)).c (src (n - 1 - i)).d (z i).a (z i).b (z i).c (z i).d (by omega) (by omega) (by omega) ixp (hel _ (by omega)) (ix_spS (.inl rfl) hi) ⟨rfl, by rw [Nat.zero_add, qrows_get (by omega)]; simp; rfl⟩ (by omega)
    rw [Nat.zero_add] at st
    have es : (qrows (n + 9) fun j => if j < i then src (n - 1 - j) else z j).set i (.agg [.int .i64 (src (n - 1 - i)).a, .int .i64 (src (n - 1 - i)).b, .int .i64 (src (n - 1 - i)).c, .int .i64 (src (n - 1 - i)).d]) = qrows (n + 9) (fun j => if j < i + 1 then src (n - 1 - j) else z j) := qrows_step (y := fun j => src (n - 1 - j)) (z := z) (i := i)
    rw [es] at st
    refine ⟨mv2, Loops.step (st.post ?_) ih⟩
    exact Ent.drop (by kernel_rfl) (by kernel_rfl) (by kernel_rfl) (by kernel_rfl) (by simp [All_cons, All_nil, Clo, d0, dw, db]; simp [Ids]) (by simp only [List.map, All_cons, All_nil, and_true]; exact ⟨hb.clo _, hw.clo _, (wRow_bare _ _ _ _ _).clo _, hbb.clo _⟩)
end

theorem gflow_0 {o : Option AAddr} {n c ver off : Nat} {b : ABlk} (hs : SlArg o n c 0 ver off 4) (hb : BareB b) {src : Nat → Qd} (hel : ∀ j, j < n → b.elem? ver (off + j) = some (src j).val) (hn2 : n ≤ 2 ^ 42) (cols : Int) (hn : n = 0) :
    ∃ h', FDoes Try.prog 3 [.slice o n c, .int .i64 cols] (AHeap.of [b]) (.bool true) h' := by
  have fl := flen_le n
  obtain ⟨ow, cw, vw, rw_, outw, sw, lw, bw, we, fw, kw⟩ := rflow_any (H := (AHeap.rows 6 [(0, b)])) (src := src) ⟨hs, by kernel_rfl, by rw [AHeap.rows_next]; omega, hb, hel⟩ cols (N := 6) (by rw [AHeap.rows_next])
  obtain ⟨nl, vl, el, kl⟩ := roomy_does (H := (AHeap.rows 10 [(0, b), (6, rw_)])) ⟨hs, by kernel_rfl, by rw [AHeap.rows_next]; omega, hb, hel⟩ hn2
  rw [AHeap.rows_next] at kl
  obtain ⟨oa, ca, z, sa, la, fa, ka⟩ := flow_any (H := (AHeap.rows 20 [(0, b), (6, rw_), (10, gRowQ (roomyF n src (-77)) nl vl)])) (src := src) (o := some ⟨10, vl, 0, 0, 4⟩) (n := n) (c := n + 9) (id := 10) ⟨.inl rfl, by kernel_rfl, by rw [AHeap.rows_next]; omega, gRowQ_bare _ _ _, romRow_el (m := -77) el⟩ cols (N := 20) (by rw [AHeap.rows_next])
  have ez := flow_same fw fa
  replace we : ∀ j, j < flen n → rw_.elem? vw (0 + j) = some (z j).val := fun j hj => by rw [we j hj, ez j hj]
  obtain ⟨ob, cb, z2, sb, lb, fb, kb⟩ := flow_any (H := (AHeap.rows 25 [(0, b), (6, rw_), (10, gRowQ (roomyF n src (-77)) nl vl), (20, .made (qrows (flen n) z) 4 true)])) (src := src) (o := some ⟨10, vl, 0, 0, 4⟩) (n := n) (c := n + 9) (id := 10) ⟨.inl rfl, by kernel_rfl, by rw [AHeap.rows_next]; omega, gRowQ_bare _ _ _, romRow_el (m := -77) el⟩ cols (N := 25) (by rw [AHeap.rows_next])
  rw [show qrows (flen n) z2 = qrows (flen n) z from qrows_congr (flow_same fb fa)] at kb
  have e1 := sameS_does (H := (AHeap.rows 50 [(0, b), (6, rw_), (10, gRowQ (roomyF n src (-77)) nl vl), (20, .made (qrows (flen n) z) 4 true), (25, .made (qrows (flen n) z) 4 true)])) (x := z) ⟨sa, by kernel_rfl, by rw [AHeap.rows_next]; omega, qrows_bare _ _, mdQ_el z _⟩ ⟨sw, by kernel_rfl, by rw [AHeap.rows_next]; omega, bw, we⟩ (by omega) (by omega)
  have e2 := sameS_does (H := (AHeap.rows 50 [(0, b), (6, rw_), (10, gRowQ (roomyF n src (-77)) nl vl), (20, .made (qrows (flen n) z) 4 true), (25, .made (qrows (flen n) z) 4 true)])) (x := z) ⟨sb, by kernel_rfl, by rw [AHeap.rows_next]; omega, qrows_bare _ _, mdQ_el z _⟩ ⟨sw, by kernel_rfl, by rw [AHeap.rows_next]; omega, bw, we⟩ (by omega) (by omega)
  have e3 := sameS_does (H := (AHeap.rows 50 [(0, b), (6, rw_), (10, gRowQ (roomyF n src (-77)) nl vl), (20, .made (qrows (flen n) z) 4 true), (25, .made (qrows (flen n) z) 4 true)])) (x := src) (o := some ⟨10, vl, 0, 0, 4⟩) (n := n) (c := n + 9) (id := 10) ⟨.inl rfl, by kernel_rfl, by rw [AHeap.rows_next]; omega, gRowQ_bare _ _ _, romRow_el (m := -77) el⟩ ⟨hs, by kernel_rfl, by rw [AHeap.rows_next]; omega, hb, hel⟩ (by omega) (by omega)
  have e4 := markedQ_does (H := (AHeap.rows 50 [(0, b), (6, rw_), (10, gRowQ (roomyF n src (-77)) nl vl), (20, .made (qrows (flen n) z) 4 true), (25, .made (qrows (flen n) z) 4 true)])) (m := -77) (o := some ⟨10, vl, n, 0, 4⟩) (n := 9) (c := 9) (id := 10) ⟨.inl rfl, by kernel_rfl, by rw [AHeap.rows_next]; omega, gRowQ_bare _ _ _, romBack_el (m := -77) (w := src) el⟩ (by omega)
  have bl : BareB (gRowQ (roomyF n src (-77)) nl vl) := gRowQ_bare _ _ _
  have ba : BareB (ABlk.made (qrows (flen n) z) 4 true) := qrows_bare _ _
  have ba2 : BareB (ABlk.made (qrows (flen n) fun _ => MarkQ (-5)) 4 true) := qrows_bare _ _
  have l1 := gws_loop hs sw sa sb hb bw bl ba ba cols fl.2 (vl := vl) (z := z) (flen n) 0 (by omega)
  rw [show (qrows (flen n) fun j => if j < 0 then MarkQ (-5) else z j) = qrows (flen n) z from qrows_congr fun j _ => by simp] at l1
  have l2 := gwg_loop hs sw sa sb hb bw bl ba2 ba cols fl.2 (vl := vl) 69 0 (by omega)
  have s2 := gw_grow1 o ow oa ob n c (flen n) cw vl ca cb 0 0 0 b rw_ (gRowQ (roomyF n src (-77)) nl vl) (.made (qrows (flen n) fun _ => MarkQ (-5)) 4 true) (.made (qrows (flen n) z) 4 true) (gRowQ (fun _ => MarkQ (-5)) (flen n + 1) 0) b [] cols 0 0 0 0 ((app_xS sa la (by omega) (by kernel_rfl) (by kernel_rfl)).trans (by kernel_rfl))
  have d05 : Clo (Ids [0, 6, 10, 20, 25]) (.slice o n c) := hs.clo (by simp [Ids])
  have dw5 : Clo (Ids [0, 6, 10, 20, 25]) (.slice ow (flen n) cw) := sw.clo (by simp [Ids])
  have da5 : Clo (Ids [0, 6, 10, 20, 25]) (.slice oa (flen n) ca) := sa.clo (by simp [Ids])
  have db5 : Clo (Ids [0, 6, 10, 20, 25]) (.slice ob (flen n) cb) := sb.clo (by simp [Ids])
  have d06 : Clo (Ids [0, 6, 10, 20, 25, 60]) (.slice o n c) := hs.clo (by simp [Ids])
  have dw6 : Clo (Ids [0, 6, 10, 20, 25, 60]) (.slice ow (flen n) cw) := sw.clo (by simp [Ids])
  have da6 : Clo (Ids [0, 6, 10, 20, 25, 60]) (.slice oa (flen n) ca) := sa.clo (by simp [Ids])
  have db6 : Clo (Ids [0, 6, 10, 20, 25, 60]) (.slice ob (flen n) cb) := sb.clo (by simp [Ids])
  have d04 : Clo (Ids [0, 6, 10, 25]) (.slice o n c) := hs.clo (by simp [Ids])
  have dw4 : Clo (Ids [0, 6, 10, 25]) (.slice ow (flen n) cw) := sw.clo (by simp [Ids])
  have db4 : Clo (Ids [0, 6, 10, 25]) (.slice ob (flen n) cb) := sb.clo (by simp [Ids])
  have p1 : Ent 1 130 [(0, .slice o n c), (1, .int .i64 cols), (5, .slice ow (flen n) cw), (7, .slice (some ⟨10, vl, 0, 0, 4⟩) n (n + 9)), (8, .slice oa (flen n) ca), (9, .slice ob (flen n) cb), (10, .int .i64 (0 : Nat))] (AHeap.rows 51 [(0, b), (6, rw_), (10, gRowQ (roomyF n src (-77)) nl vl), (20, .made (qrows (flen n) z) 4 true), (25, .made (qrows (flen n) z) 4 true)]) [(0, .slice o n c), (1, .int .i64 cols), (5, .slice ow (flen n) cw), (7, .slice (some ⟨10, vl, 0, 0, 4⟩) n (n + 9)), (8, .slice oa (flen n) ca), (9, .slice ob (flen n) cb), (10, .int .i64 (0 : Nat))] (AHeap.rows 100 [(0, b), (6, rw_), (10, gRowQ (roomyF n src (-77)) nl vl), (20, .made (qrows (flen n) z) 4 true), (25, .made (qrows (flen n) z) 4 true)]) := Ent.drop (by kernel_rfl) (by kernel_rfl) (by kernel_rfl) (by kernel_rfl) (by simp [All_cons, All_nil, Clo, d05, dw5, da5, db5]; simp [Ids]) (by simp only [List.map, All_cons, All_nil, and_true]; exact ⟨hb.clo _, bw.clo _, bl.clo _, ba.clo _, ba.clo _⟩)
  have q1 : Ent 1 130 [(0, .slice o n c), (1, .int .i64 cols), (5, .slice ow (flen n) cw), (7, .slice (some ⟨10, vl, 0, 0, 4⟩) n (n + 9)), (8, .slice oa (flen n) ca), (9, .slice ob (flen n) cb)] (AHeap.rows 104 [(0, b), (6, rw_), (10, gRowQ (roomyF n src (-77)) nl vl), (20, .made (qrows (flen n) fun _ => MarkQ (-5)) 4 true), (25, .made (qrows (flen n) z) 4 true)]) [(0, .slice o n c), (1, .int .i64 cols), (5, .slice ow (flen n) cw), (7, .slice (some ⟨10, vl, 0, 0, 4⟩) n (n + 9)), (8, .slice oa (flen n) ca), (9, .slice ob (flen n) cb)] (AHeap.rows 102 [(0, b), (6, rw_), (10, gRowQ (roomyF n src (-77)) nl vl), (20, .made (qrows (flen n) fun _ => MarkQ (-5)) 4 true), (25, .made (qrows (flen n) z) 4 true)]) := Ent.drop (by kernel_rfl) (by kernel_rfl) (by kernel_rfl) (by kernel_rfl) (by simp [All_cons, All_nil, Clo, d05, dw5, da5, db5]; simp [Ids]) (by simp only [List.map, All_cons, All_nil, and_true]; exact ⟨hb.clo _, bw.clo _, bl.clo _, ba2.clo _, ba.clo _⟩)
  have p2 : Ent 1 130 [(0, .slice o n c), (1, .int .i64 cols), (5, .slice ow (flen n) cw), (7, .slice (some ⟨10, vl, 0, 0, 4⟩) n (n + 9)), (8, .slice oa (flen n) ca), (9, .slice ob (flen n) cb), (11, .slice oa (flen n) ca), (12, .int .i64 0)] (AHeap.rows 105 [(0, b), (6, rw_), (10, gRowQ (roomyF n src (-77)) nl vl), (20, .made (qrows (flen n) fun _ => MarkQ (-5)) 4 true), (25, .made (qrows (flen n) z) 4 true)]) [(0, .slice o n c), (1, .int .i64 cols), (5, .slice ow (flen n) cw), (7, .slice (some ⟨10, vl, 0, 0, 4⟩) n (n + 9)), (8, .slice oa (flen n) ca), (9, .slice ob (flen n) cb), (11, .slice oa (flen n) ca), (12, .int .i64 0)] (AHeap.rows 55 [(0, b), (6, rw_), (10, gRowQ (roomyF n src (-77)) nl vl), (20, .made (qrows (flen n) fun _ => MarkQ (-5)) 4 true), (25, .made (qrows (flen n) z) 4 true)]) := Ent.drop (by kernel_rfl) (by kernel_rfl) (by kernel_rfl) (by kernel_rfl) (by simp [All_cons, All_nil, Clo, d05, dw5, da5, db5]; simp [Ids]) (by simp only [List.map, All_cons, All_nil, and_true]; exact ⟨hb.clo _, bw.clo _, bl.clo _, ba2.clo _, ba.clo _⟩)
  have l2b := (Loops.step (s2.post (Ent.drop (K := 100) (l := [(0, b), (6, rw_), (10, gRowQ (roomyF n src (-77)) nl vl), (20, .made (qrows (flen n) fun _ => MarkQ (-5)) 4 true), (25, .made (qrows (flen n) z) 4 true), (60, gRowQ (fun _ => MarkQ (-5)) (flen n + 1) 0)]) (by kernel_rfl) (by kernel_rfl) (by kernel_rfl) (by kernel_rfl) (by simp [All_cons, All_nil, Clo, d06, dw6, da6, db6]; simp [Ids]) (by simp only [List.map, All_cons, All_nil, and_true]; exact ⟨hb.clo _, bw.clo _, bl.clo _, ba2.clo _, ba.clo _, (gRowQ_bare _ _ _).clo _⟩))) l2).pre p2
  have e5 := markedQ_does (H := (AHeap.rows 119 [(0, b), (6, rw_), (10, gRowQ (roomyF n src (-77)) nl vl), (20, .made (qrows (flen n) fun _ => MarkQ (-5)) 4 true), (25, .made (qrows (flen n) z) 4 true), (60, gRowQ (fun _ => MarkQ (-5)) (flen n + 1) 69)])) (m := -5) (o := some ⟨60, 69, 0, 0, 4⟩) (n := flen n + 70) (c := flen n + 70) (id := 60) ⟨.inl rfl, by kernel_rfl, by rw [AHeap.rows_next]; omega, gRowQ_bare _ _ _, fun j hj => gRowQ_el (f := fun _ => MarkQ (-5)) (n1 := flen n + 1) (v := 69) (by omega)⟩ (by omega)
  have e6 := markedQ_does (H := (AHeap.rows 119 [(0, b), (6, rw_), (10, gRowQ (roomyF n src (-77)) nl vl), (20, .made (qrows (flen n) fun _ => MarkQ (-5)) 4 true), (25, .made (qrows (flen n) z) 4 true), (60, gRowQ (fun _ => MarkQ (-5)) (flen n + 1) 69)])) (m := -5) ⟨sa, by kernel_rfl, by rw [AHeap.rows_next]; omega, qrows_bare _ _, mdQ_el (fun _ => MarkQ (-5)) _⟩ (by omega)
  have e7 := sameS_does (H := (AHeap.rows 119 [(0, b), (6, rw_), (10, gRowQ (roomyF n src (-77)) nl vl), (20, .made (qrows (flen n) fun _ => MarkQ (-5)) 4 true), (25, .made (qrows (flen n) z) 4 true), (60, gRowQ (fun _ => MarkQ (-5)) (flen n + 1) 69)])) (x := z) ⟨sb, by kernel_rfl, by rw [AHeap.rows_next]; omega, qrows_bare _ _, mdQ_el z _⟩ ⟨sw, by kernel_rfl, by rw [AHeap.rows_next]; omega, bw, we⟩ (by omega) (by omega)
  have e8 := sameS_does (H := (AHeap.rows 119 [(0, b), (6, rw_), (10, gRowQ (roomyF n src (-77)) nl vl), (20, .made (qrows (flen n) fun _ => MarkQ (-5)) 4 true), (25, .made (qrows (flen n) z) 4 true), (60, gRowQ (fun _ => MarkQ (-5)) (flen n + 1) 69)])) (x := src) (o := some ⟨10, vl, 0, 0, 4⟩) (n := n) (c := n + 9) (id := 10) ⟨.inl rfl, by kernel_rfl, by rw [AHeap.rows_next]; omega, gRowQ_bare _ _ _, romRow_el (m := -77) el⟩ ⟨hs, by kernel_rfl, by rw [AHeap.rows_next]; omega, hb, hel⟩ (by omega) (by omega)
  obtain ⟨mv2, l3⟩ := gwt_loop hs sw sa sb hb bw bl ba ba cols fl.2 (vl := vl) (z := roomyF n src (-77)) hel hn2 (if vl = 0 then 0 else nl) n 0 0 (by omega)
  rw [show (wRow (qrows (n + 9) fun j => if j < 0 then src (n - 1 - j) else roomyF n src (-77) j) vl 0 (if vl = 0 then 0 else nl)) = gRowQ (roomyF n src (-77)) nl vl by unfold wRow gRowQ; rw [el]; congr 1] at l3
  have b2 : BareB (wRow (qrows (n + 9) fun j => if j < n then src (n - 1 - j) else roomyF n src (-77) j) vl mv2 (if vl = 0 then 0 else nl)) := wRow_bare _ _ _ _ _
  have p3 : Ent 1 130 [(0, .slice o n c), (1, .int .i64 cols), (5, .slice ow (flen n) cw), (7, .slice (some ⟨10, vl, 0, 0, 4⟩) n (n + 9)), (9, .slice ob (flen n) cb), (13, .bool true), (14, .int .i64 (0 : Nat))] (AHeap.rows 120 [(0, b), (6, rw_), (10, gRowQ (roomyF n src (-77)) nl vl), (20, .made (qrows (flen n) fun _ => MarkQ (-5)) 4 true), (25, .made (qrows (flen n) z) 4 true), (60, gRowQ (fun _ => MarkQ (-5)) (flen n + 1) 69)]) [(0, .slice o n c), (1, .int .i64 cols), (5, .slice ow (flen n) cw), (7, .slice (some ⟨10, vl, 0, 0, 4⟩) n (n + 9)), (9, .slice ob (flen n) cb), (13, .bool true), (14, .int .i64 (0 : Nat))] (AHeap.rows 100 [(0, b), (6, rw_), (10, gRowQ (roomyF n src (-77)) nl vl), (25, .made (qrows (flen n) z) 4 true)]) := Ent.drop (by kernel_rfl) (by kernel_rfl) (by kernel_rfl) (by kernel_rfl) (by simp [All_cons, All_nil, Clo, d04, dw4, db4]; simp [Ids]) (by simp only [List.map, All_cons, All_nil, and_true]; exact ⟨hb.clo _, bw.clo _, bl.clo _, ba.clo _⟩)
  have te : ∀ j, j < n → (wRow (qrows (n + 9) fun j => if j < n then src (n - 1 - j) else roomyF n src (-77) j) vl mv2 (if vl = 0 then 0 else nl)).elem? vl (0 + j) = some (src (n - 1 - j)).val := fun j hj => by rw [wRow_el (by simp; omega), Nat.zero_add, qrows_get (by omega), if_pos hj]
  obtain ⟨oc, cc, z3, sc, lc, fc, kc⟩ := flow_any (H := (AHeap.rows 70 [(0, b), (6, rw_), (10, wRow (qrows (n + 9) fun j => if j < n then src (n - 1 - j) else roomyF n src (-77) j) vl mv2 (if vl = 0 then 0 else nl)), (25, .made (qrows (flen n) z) 4 true), (62, .made (List.replicate 0 (AVal.agg [.int .i64 0, .int .i64 0, .int .i64 0, .int .i64 0])) 4 true)])) (src := fun j => src (n - 1 - j)) (o := some ⟨10, vl, 0, 0, 4⟩) (n := n) (c := n + 9) (id := 10) ⟨.inl rfl, by kernel_rfl, by rw [AHeap.rows_next]; omega, b2, te⟩ cols (N := 70) (by rw [AHeap.rows_next])
  obtain ⟨od, cd, vd, rd, z4, sd, ld, bd, de, fd, kd⟩ := rflow_any (H := (AHeap.rows 88 [(0, b), (6, rw_), (10, wRow (qrows (n + 9) fun j => if j < n then src (n - 1 - j) else roomyF n src (-77) j) vl mv2 (if vl = 0 then 0 else nl)), (25, .made (qrows (flen n) z) 4 true), (62, .made (List.replicate 0 (AVal.agg [.int .i64 0, .int .i64 0, .int .i64 0, .int .i64 0])) 4 true), (70, .made (qrows (flen n) z3) 4 true)])) (src := fun j => src (n - 1 - j)) (o := some ⟨62, 0, 0, 0, 4⟩) (n := n) (c := n) (id := 62) (ver := 0) (off := 0) (b := .made [] 4 true) ⟨.inl rfl, by kernel_rfl, by rw [AHeap.rows_next]; omega, (fun e he => by cases he), fun j hj => by omega⟩ cols (N := 88) (by rw [AHeap.rows_next])
  have ez3 := flow_same fd fc
  replace de : ∀ j, j < flen n → rd.elem? vd (0 + j) = some (z3 j).val := fun j hj => by rw [de j hj, ez3 j hj]
  have e9 := sameS_does (H := (AHeap.rows 89 [(0, b), (6, rw_), (10, wRow (qrows (n + 9) fun j => if j < n then src (n - 1 - j) else roomyF n src (-77) j) vl mv2 (if vl = 0 then 0 else nl)), (25, .made (qrows (flen n) z) 4 true), (62, .made (List.replicate 0 (AVal.agg [.int .i64 0, .int .i64 0, .int .i64 0, .int .i64 0])) 4 true), (70, .made (qrows (flen n) z3) 4 true), (88, rd)])) (x := z3) ⟨sc, by kernel_rfl, by rw [AHeap.rows_next]; omega, qrows_bare _ _, mdQ_el z3 _⟩ ⟨sd, by kernel_rfl, by rw [AHeap.rows_next]; omega, bd, de⟩ (by omega) (by omega)
  have e10 := sameS_does (H := (AHeap.rows 89 [(0, b), (6, rw_), (10, wRow (qrows (n + 9) fun j => if j < n then src (n - 1 - j) else roomyF n src (-77) j) vl mv2 (if vl = 0 then 0 else nl)), (25, .made (qrows (flen n) z) 4 true), (62, .made (List.replicate 0 (AVal.agg [.int .i64 0, .int .i64 0, .int .i64 0, .int .i64 0])) 4 true), (70, .made (qrows (flen n) z3) 4 true), (88, rd)])) (x := z) ⟨sb, by kernel_rfl, by rw [AHeap.rows_next]; omega, qrows_bare _ _, mdQ_el z _⟩ ⟨sw, by kernel_rfl, by rw [AHeap.rows_next]; omega, bw, we⟩ (by omega) (by omega)
  obtain ⟨d2, xd2, u1, u2, u3, u4, u5, u6, u7⟩ := slSpan.ty
  have a1 : aslice (AEnv.D env) 22 (AVal.slice (some ⟨10, vl, 0, 0, 4⟩) (n + 9) (n + 9)) none (some (AVal.int IntKind.i64 (n : Int))) none = some (AVal.slice (some ⟨10, vl, 0, 0, 4⟩) n (n + 9)) := aslice_to u1 u2 u3 u4.symm (by omega)
  have a2 : aslice (AEnv.D env) 22 (AVal.slice (some ⟨10, vl, 0, 0, 4⟩) (n + 9) (n + 9)) (some (AVal.int IntKind.i64 (n : Int))) none none = some (AVal.slice (some ⟨10, vl, n, 0, 4⟩) 9 9) := qd_slice_from u1 u2 u3 u4.symm rfl (by omega)
  subst hn
  exact ⟨_, gw_call_0 o ow oa ob oc od 0 c (flen 0) cw vl ca cb cc cd 69 b rw_ _ _ _ _ _ _ b _ rd cols (kw.to (by kernel_rfl)) (kl.to (by kernel_rfl)) a1 (ka.to (by kernel_rfl)) (kb.to (by kernel_rfl)) e1 e2 e3 a2 e4 (Runs.of_loops ((l1.pre p1).post q1)) (Runs.of_loops l2b) e5 e6 e7 e8 (Runs.of_loops (l3.pre p3)) ((app_litS0 (o := some ⟨10, vl, 0, 0, 4⟩) (c := 0 + 9) (id := 10) (b := wRow (qrows (0 + 9) fun j => if j < 0 then src (0 - 1 - j) else roomyF 0 src (-77) j) vl mv2 (if vl = 0 then 0 else nl)) (.inl rfl) (by kernel_rfl) (by kernel_rfl)).trans (by kernel_rfl)) (kc.to (by kernel_rfl)) (kd.to (by kernel_rfl)) e9 e10⟩

theorem gflow_1 {o : Option AAddr} {n c ver off : Nat} {b : ABlk} (hs : SlArg o n c 0 ver off 4) (hb : BareB b) {src : Nat → Qd} (hel : ∀ j, j < n → b.elem? ver (off + j) = some (src j).val) (hn2 : n ≤ 2 ^ 42) (cols : Int) (hn : ¬ n = 0) :
    ∃ h', FDoes Try.prog 3 [.slice o n c, .int .i64 cols] (AHeap.of [b]) (.bool true) h' := by
  have fl := flen_le n
  obtain ⟨ow, cw, vw, rw_, outw, sw, lw, bw, we, fw, kw⟩ := rflow_any (H := (AHeap.rows 6 [(0, b)])) (src := src) ⟨hs, by kernel_rfl, by rw [AHeap.rows_next]; omega, hb, hel⟩ cols (N := 6) (by rw [AHeap.rows_next])
  obtain ⟨nl, vl, el, kl⟩ := roomy_does (H := (AHeap.rows 10 [(0, b), (6, rw_)])) ⟨hs, by kernel_rfl, by rw [AHeap.rows_next]; omega, hb, hel⟩ hn2
  rw [AHeap.rows_next] at kl
  obtain ⟨oa, ca, z, sa, la, fa, ka⟩ := flow_any (H := (AHeap.rows 20 [(0, b), (6, rw_), (10, gRowQ (roomyF n src (-77)) nl vl)])) (src := src) (o := some ⟨10, vl, 0, 0, 4⟩) (n := n) (c := n + 9) (id := 10) ⟨.inl rfl, by kernel_rfl, by rw [AHeap.rows_next]; omega, gRowQ_bare _ _ _, romRow_el (m := -77) el⟩ cols (N := 20) (by rw [AHeap.rows_next])
  have ez := flow_same fw fa
  replace we : ∀ j, j < flen n → rw_.elem? vw (0 + j) = some (z j).val := fun j hj => by rw [we j hj, ez j hj]
  obtain ⟨ob, cb, z2, sb, lb, fb, kb⟩ := flow_any (H := (AHeap.rows 25 [(0, b), (6, rw_), (10, gRowQ (roomyF n src (-77)) nl vl), (20, .made (qrows (flen n) z) 4 true)])) (src := src) (o := some ⟨10, vl, 0, 0, 4⟩) (n := n) (c := n + 9) (id := 10) ⟨.inl rfl, by kernel_rfl, by rw [AHeap.rows_next]; omega, gRowQ_bare _ _ _, romRow_el (m := -77) el⟩ cols (N := 25) (by rw [AHeap.rows_next])
  rw [show qrows (flen n) z2 = qrows (flen n) z from qrows_congr (flow_same fb fa)] at kb
  have e1 := sameS_does (H := (AHeap.rows 50 [(0, b), (6, rw_), (10, gRowQ (roomyF n src (-77)) nl vl), (20, .made (qrows (flen n) z) 4 true), (25, .made (qrows (flen n) z) 4 true)])) (x := z) ⟨sa, by kernel_rfl, by rw [AHeap.rows_next]; omega, qrows_bare _ _, mdQ_el z _⟩ ⟨sw, by kernel_rfl, by rw [AHeap.rows_next]; omega, bw, we⟩ (by omega) (by omega)
  have e2 := sameS_does (H := (AHeap.rows 50 [(0, b), (6, rw_), (10, gRowQ (roomyF n src (-77)) nl vl), (20, .made (qrows (flen n) z) 4 true), (25, .made (qrows (flen n) z) 4 true)])) (x := z) ⟨sb, by kernel_rfl, by rw [AHeap.rows_next]; omega, qrows_bare _ _, mdQ_el z _⟩ ⟨sw, by kernel_rfl, by rw [AHeap.rows_next]; omega, bw, we⟩ (by omega) (by omega)
  have e3 := sameS_does (H := (AHeap.rows 50 [(0, b), (6, rw_), (10, gRowQ (roomyF n src (-77)) nl vl), (20, .made (qrows (flen n) z) 4 true), (25, .made (qrows (flen n) z) 4 true)])) (x := src) (o := some ⟨10, vl, 0, 0, 4⟩) (n := n) (c := n + 9) (id := 10) ⟨.inl rfl, by kernel_rfl, by rw [AHeap.rows_next]; omega, gRowQ_bare _ _ _, romRow_el (m := -77) el⟩ ⟨hs, by kernel_rfl, by rw [AHeap.rows_next]; omega, hb, hel⟩ (by omega) (by omega)
  have e4 := markedQ_does (H := (AHeap.rows 50 [(0, b), (6, rw_), (10, gRowQ (roomyF n src (-77)) nl vl), (20, .made (qrows (flen n) z) 4 true), (25, .made (qrows (flen n) z) 4 true)])) (m := -77) (o := some ⟨10, vl, n, 0, 4⟩) (n := 9) (c := 9) (id := 10) ⟨.inl rfl, by kernel_rfl, by rw [AHeap.rows_next]; omega, gRowQ_bare _ _ _, romBack_el (m := -77) (w := src) el⟩ (by omega)
  have bl : BareB (gRowQ (roomyF n src (-77)) nl vl) := gRowQ_bare _ _ _
  have ba : BareB (ABlk.made (qrows (flen n) z) 4 true) := qrows_bare _ _
  have ba2 : BareB (ABlk.made (qrows (flen n) fun _ => MarkQ (-5)) 4 true) := qrows_bare _ _
  have l1 := gws_loop hs sw sa sb hb bw bl ba ba cols fl.2 (vl := vl) (z := z) (flen n) 0 (by omega)
  rw [show (qrows (flen n) fun j => if j < 0 then MarkQ (-5) else z j) = qrows (flen n) z from qrows_congr fun j _ => by simp] at l1
  have l2 := gwg_loop hs sw sa sb hb bw bl ba2 ba cols fl.2 (vl := vl) 69 0 (by omega)
  have s2 := gw_grow1 o ow oa ob n c (flen n) cw vl ca cb 0 0 0 b rw_ (gRowQ (roomyF n src (-77)) nl vl) (.made (qrows (flen n) fun _ => MarkQ (-5)) 4 true) (.made (qrows (flen n) z) 4 true) (gRowQ (fun _ => MarkQ (-5)) (flen n + 1) 0) b [] cols 0 0 0 0 ((app_xS sa la (by omega) (by kernel_rfl) (by kernel_rfl)).trans (by kernel_rfl))
  have d05 : Clo (Ids [0, 6, 10, 20, 25]) (.slice o n c) := hs.clo (by simp [Ids])
  have dw5 : Clo (Ids [0, 6, 10, 20, 25]) (.slice ow (flen n) cw) := sw.clo (by simp [Ids])
  have da5 : Clo (Ids [0, 6, 10, 20, 25]) (.slice oa (flen n) ca) := sa.clo (by simp [Ids])
  have db5 : Clo (Ids [0, 6, 10, 20, 25]) (.slice ob (flen n) cb) := sb.clo (by simp [Ids])
  have d06 : Clo (Ids [0, 6, 10, 20, 25, 60]) (.slice o n c) := hs.clo (by simp [Ids])
  have dw6 : Clo (Ids [0, 6, 10, 20, 25, 60]) (.slice ow (flen n) cw) := sw.clo (by simp [Ids])
  have da6 : Clo (Ids [0, 6, 10, 20, 25, 60]) (.slice oa (flen n) ca) := sa.clo (by simp [Ids])
  have db6 : Clo (Ids [0, 6, 10, 20, 25, 60]) (.slice ob (flen n) cb) := sb.clo (by simp [Ids])
  have d04 : Clo (Ids [0, 6, 10, 25]) (.slice o n c) := hs.clo (by simp [Ids])
  have dw4 : Clo (Ids [0, 6, 10, 25]) (.slice ow (flen n) cw) := sw.clo (by simp [Ids])
  have db4 : Clo (Ids [0, 6, 10, 25]) (.slice ob (flen n) cb) := sb.clo (by simp [Ids])
  have p1 : Ent 1 130 [(0, .slice o n c), (1, .int .i64 cols), (5, .slice ow (flen n) cw), (7, .slice (some ⟨10, vl, 0, 0, 4⟩) n (n + 9)), (8, .slice oa (flen n) ca), (9, .slice ob (flen n) cb), (10, .int .i64 (0 : Nat))] (AHeap.rows 51 [(0, b), (6, rw_), (10, gRowQ (roomyF n src (-77)) nl vl), (20, .made (qrows (flen n) z) 4 true), (25, .made (qrows (flen n) z) 4 true)]) [(0, .slice o n c), (1, .int .i64 cols), (5, .slice ow (flen n) cw), (7, .slice (some ⟨10, vl, 0, 0, 4⟩) n (n + 9)), (8, .slice oa (flen n) ca), (9, .slice ob (flen n) cb), (10, .int .i64 (0 : Nat))] (AHeap.rows 100 [(0, b), (6, rw_), (10, gRowQ (roomyF n src (-77)) nl vl), (20, .made (qrows (flen n) z) 4 true), (25, .made (qrows (flen n) z) 4 true)]) := Ent.drop (by kernel_rfl) (by kernel_rfl) (by kernel_rfl) (by kernel_rfl) (by simp [All_cons, All_nil, Clo, d05, dw5, da5, db5]; simp [Ids]) (by simp only [List.map, All_cons, All_nil, and_true]; exact ⟨hb.clo _, bw.clo _, bl.clo _, ba.clo _, ba.clo _⟩)
  have q1 : Ent 1 130 [(0, .slice o n c), (1, .int .i64 cols), (5, .slice ow (flen n) cw), (7, .slice (some ⟨10, vl, 0, 0, 4⟩) n (n + 9)), (8, .slice oa (flen n) ca), (9, .slice ob (flen n) cb)] (AHeap.rows 104 [(0, b), (6, rw_), (10, gRowQ (roomyF n src (-77)) nl vl), (20, .made (qrows (flen n) fun _ => MarkQ (-5)) 4 true), (25, .made (qrows (flen n) z) 4 true)]) [(0, .slice o n c), (1, .int .i64 cols), (5, .slice ow (flen n) cw), (7, .slice (some ⟨10, vl, 0, 0, 4⟩) n (n + 9)), (8, .slice oa (flen n) ca), (9, .slice ob (flen n) cb)] (AHeap.rows 102 [(0, b), (6, rw_), (10, gRowQ (roomyF n src (-77)) nl vl), (20, .made (qrows (flen n) fun _ => MarkQ (-5)) 4 true), (25, .made (qrows (flen n) z) 4 true)]) := Ent.drop (by kernel_rfl) (by kernel_rfl) (by kernel_rfl) (by kernel_rfl) (by simp [All_cons, All_nil, Clo, d05, dw5, da5, db5]; simp [Ids]) (by simp only [List.map, All_cons, All_nil, and_true]; exact ⟨hb.clo _, bw.clo _, bl.clo _, ba2.clo _, ba.clo _⟩)
  have p2 : Ent 1 130 [(0, .slice o n c), (1, .int .i64 cols), (5, .slice ow (flen n) cw), (7, .slice (some ⟨10, vl, 0, 0, 4⟩) n (n + 9)), (8, .slice oa (flen n) ca), (9, .slice ob (flen n) cb), (11, .slice oa (flen n) ca), (12, .int .i64 0)] (AHeap.rows 105 [(0, b), (6, rw_), (10, gRowQ (roomyF n src (-77)) nl vl), (20, .made (qrows (flen n) fun _ => MarkQ (-5)) 4 true), (25, .made (qrows (flen n) z) 4 true)]) [(0, .slice o n c), (1, .int .i64 cols), (5, .slice ow (flen n) cw), (7, .slice (some ⟨10, vl, 0, 0, 4⟩) n (n + 9)), (8, .slice oa (flen n) ca), (9, .slice ob (flen n) cb), (11, .slice oa (flen n) ca), (12, .int .i64 0)] (AHeap.rows 55 [(0, b), (6, rw_), (10, gRowQ (roomyF n src (-77)) nl vl), (20, .made (qrows (flen n) fun _ => MarkQ (-5)) 4 true), (25, .made (qrows (flen n) z) 4 true)]) := Ent.drop (by kernel_rfl) (by kernel_rfl) (by kernel_rfl) (by kernel_rfl) (by simp [All_cons, All_nil, Clo, d05, dw5, da5, db5]; simp [Ids]) (by simp only [List.map, All_cons, All_nil, and_true]; exact ⟨hb.clo _, bw.clo _, bl.clo _, ba2.clo _, ba.clo _⟩)
  have l2b := (Loops.step (s2.post (Ent.drop (K := 100) (l := [(0, b), (6, rw_), (10, gRowQ (roomyF n src (-77)) nl vl), (20, .made (qrows (flen n) fun _ => MarkQ (-5)) 4 true), (25, .made (qrows (flen n) z) 4 true), (60, gRowQ (fun _ => MarkQ (-5)) (flen n + 1) 0)]) (by kernel_rfl) (by kernel_rfl) (by kernel_rfl) (by kernel_rfl) (by simp [All_cons, All_nil, Clo, d06, dw6, da6, db6]; simp [Ids]) (by simp only [List.map, All_cons, All_nil, and_true]; exact ⟨hb.clo _, bw.clo _, bl.clo _, ba2.clo _, ba.clo _, (gRowQ_bare _ _ _).clo _⟩))) l2).pre p2
  have e5 := markedQ_does (H := (AHeap.rows 119 [(0, b), (6, rw_), (10, gRowQ (roomyF n src (-77)) nl vl), (20, .made (qrows (flen n) fun _ => MarkQ (-5)) 4 true), (25, .made (qrows (flen n) z) 4 true), (60, gRowQ (fun _ => MarkQ (-5)) (flen n + 1) 69)])) (m := -5) (o := some ⟨60, 69, 0, 0, 4⟩) (n := flen n + 70) (c := flen n + 70) (id := 60) ⟨.inl rfl, by kernel_rfl, by rw [AHeap.rows_next]; omega, gRowQ_bare _ _ _, fun j hj => gRowQ_el (f := fun _ => MarkQ (-5)) (n1 := flen n + 1) (v := 69) (by omega)⟩ (by omega)
  have e6 := markedQ_does (H := (AHeap.rows 119 [(0, b), (6, rw_), (10, gRowQ (roomyF n src (-77)) nl vl), (20, .made (qrows (flen n) fun _ => MarkQ (-5)) 4 true), (25, .made (qrows (flen n) z) 4 true), (60, gRowQ (fun _ => MarkQ (-5)) (flen n + 1) 69)])) (m := -5) ⟨sa, by kernel_rfl, by rw [AHeap.rows_next]; omega, qrows_bare _ _, mdQ_el (fun _ => MarkQ (-5)) _⟩ (by omega)
  have e7 := sameS_does (H := (AHeap.rows 119 [(0, b), (6, rw_), (10, gRowQ (roomyF n src (-77)) nl vl), (20, .made (qrows (flen n) fun _ => MarkQ (-5)) 4 true), (25, .made (qrows (flen n) z) 4 true), (60, gRowQ (fun _ => MarkQ (-5)) (flen n + 1) 69)])) (x := z) ⟨sb, by kernel_rfl, by rw [AHeap.rows_next]; omega, qrows_bare _ _, mdQ_el z _⟩ ⟨sw, by kernel_rfl, by rw [AHeap.rows_next]; omega, bw, we⟩ (by omega) (by omega)
  have e8 := sameS_does (H := (AHeap.rows 119 [(0, b), (6, rw_), (10, gRowQ (roomyF n src (-77)) nl vl), (20, .made (qrows (flen n) fun _ => MarkQ (-5)) 4 true), (25, .made (qrows (flen n) z) 4 true), (60, gRowQ (fun _ => MarkQ (-5)) (flen n + 1) 69)])) (x := src) (o := some ⟨10, vl, 0, 0, 4⟩) (n := n) (c := n + 9) (id := 10) ⟨.inl rfl, by kernel_rfl, by rw [AHeap.rows_next]; omega, gRowQ_bare _ _ _, romRow_el (m := -77) el⟩ ⟨hs, by kernel_rfl, by rw [AHeap.rows_next]; omega, hb, hel⟩ (by omega) (by omega)
  obtain ⟨mv2, l3⟩ := gwt_loop hs sw sa sb hb bw bl ba ba cols fl.2 (vl := vl) (z := roomyF n src (-77)) hel hn2 (if vl = 0 then 0 else nl) n 0 0 (by omega)
  rw [show (wRow (qrows (n + 9) fun j => if j < 0 then src (n - 1 - j) else roomyF n src (-77) j) vl 0 (if vl = 0 then 0 else nl)) = gRowQ (roomyF n src (-77)) nl vl by unfold wRow gRowQ; rw [el]; congr 1] at l3
  have b2 : BareB (wRow (qrows (n + 9) fun j => if j < n then src (n - 1 - j) else roomyF n src (-77) j) vl mv2 (if vl = 0 then 0 else nl)) := wRow_bare _ _ _ _ _
  have p3 : Ent 1 130 [(0, .slice o n c), (1, .int .i64 cols), (5, .slice ow (flen n) cw), (7, .slice (some ⟨10, vl, 0, 0, 4⟩) n (n + 9)), (9, .slice ob (flen n) cb), (13, .bool true), (14, .int .i64 (0 : Nat))] (AHeap.rows 120 [(0, b), (6, rw_), (10, gRowQ (roomyF n src (-77)) nl vl), (20, .made (qrows (flen n) fun _ => MarkQ (-5)) 4 true), (25, .made (qrows (flen n) z) 4 true), (60, gRowQ (fun _ => MarkQ (-5)) (flen n + 1) 69)]) [(0, .slice o n c), (1, .int .i64 cols), (5, .slice ow (flen n) cw), (7, .slice (some ⟨10, vl, 0, 0, 4⟩) n (n + 9)), (9, .slice ob (flen n) cb), (13, .bool true), (14, .int .i64 (0 : Nat))] (AHeap.rows 100 [(0, b), (6, rw_), (10, gRowQ (roomyF n src (-77)) nl vl), (25, .made (qrows (flen n) z) 4 true)]) := Ent.drop (by kernel_rfl) (by kernel_rfl) (by kernel_rfl) (by kernel_rfl) (by simp [All_cons, All_nil, Clo, d04, dw4, db4]; simp [Ids]) (by simp only [List.map, All_cons, All_nil, and_true]; exact ⟨hb.clo _, bw.clo _, bl.clo _, ba.clo _⟩)
  have te : ∀ j, j < n → (wRow (qrows (n + 9) fun j => if j < n then src (n - 1 - j) else roomyF n src (-77) j) vl mv2 (if vl = 0 then 0 else nl)).elem? vl (0 + j) = some (src (n - 1 - j)).val := fun j hj => by rw [wRow_el (by simp; omega), Nat.zero_add, qrows_get (by omega), if_pos hj]
  obtain ⟨oc, cc, z3, sc, lc, fc, kc⟩ := flow_any (H := (AHeap.rows 70 [(0, b), (6, rw_), (10, wRow (qrows (n + 9) fun j => if j < n then src (n - 1 - j) else roomyF n src (-77) j) vl mv2 (if vl = 0 then 0 else nl)), (25, .made (qrows (flen n) z) 4 true), (62, .made (List.replicate 0 (AVal.agg [.int .i64 0, .int .i64 0, .int .i64 0, .int .i64 0])) 4 true), (64, gRowQ (fun j => src (n - 1 - j)) n 0)])) (src := fun j => src (n - 1 - j)) (o := some ⟨10, vl, 0, 0, 4⟩) (n := n) (c := n + 9) (id := 10) ⟨.inl rfl, by kernel_rfl, by rw [AHeap.rows_next]; omega, b2, te⟩ cols (N := 70) (by rw [AHeap.rows_next])
  obtain ⟨od, cd, vd, rd, z4, sd, ld, bd, de, fd, kd⟩ := rflow_any (H := (AHeap.rows 88 [(0, b), (6, rw_), (10, wRow (qrows (n + 9) fun j => if j < n then src (n - 1 - j) else roomyF n src (-77) j) vl mv2 (if vl = 0 then 0 else nl)), (25, .made (qrows (flen n) z) 4 true), (62, .made (List.replicate 0 (AVal.agg [.int .i64 0, .int .i64 0, .int .i64 0, .int .i64 0])) 4 true), (64, gRowQ (fun j => src (n - 1 - j)) n 0), (70, .made (qrows (flen n) z3) 4 true)])) (src := fun j => src (n - 1 - j)) (o := some ⟨64, 0, 0, 0, 4⟩) (n := n) (c := n) (id := 64) ⟨.inl rfl, by kernel_rfl, by rw [AHeap.rows_next]; omega, gRowQ_bare _ _ _, fun j hj => gRowQ_el (f := fun j => src (n - 1 - j)) (n1 := n) (v := 0) (by omega)⟩ cols (N := 88) (by rw [AHeap.rows_next])
  have ez3 := flow_same fd fc
  replace de : ∀ j, j < flen n → rd.elem? vd (0 + j) = some (z3 j).val := fun j hj => by rw [de j hj, ez3 j hj]
  have e9 := sameS_does (H := (AHeap.rows 89 [(0, b), (6, rw_), (10, wRow (qrows (n + 9) fun j => if j < n then src (n - 1 - j) else roomyF n src (-77) j) vl mv2 (if vl = 0 then 0 else nl)), (25, .made (qrows (flen n) z) 4 true), (62, .made (List.replicate 0 (AVal.agg [.int .i64 0, .int .i64 0, .int .i64 0, .int .i64 0])) 4 true), (64, gRowQ (fun j => src (n - 1 - j)) n 0), (70, .made (qrows (flen n) z3) 4 true), (88, rd)])) (x := z3) ⟨sc, by kernel_rfl, by rw [AHeap.rows_next]; omega, qrows_bare _ _, mdQ_el z3 _⟩ ⟨sd, by kernel_rfl, by rw [AHeap.rows_next]; omega, bd, de⟩ (by omega) (by omega)
  have e10 := sameS_does (H := (AHeap.rows 89 [(0, b), (6, rw_), (10, wRow (qrows (n + 9) fun j => if j < n then src (n - 1 - j) else roomyF n src (-77) j) vl mv2 (if vl = 0 then 0 else nl)), (25, .made (qrows (flen n) z) 4 true), (62, .made (List.replicate 0 (AVal.agg [.int .i64 0, .int .i64 0, .int .i64 0, .int .i64 0])) 4 true), (64, gRowQ (fun j => src (n - 1 - j)) n 0), (70, .made (qrows (flen n) z3) 4 true), (88, rd)])) (x := z) ⟨sb, by kernel_rfl, by rw [AHeap.rows_next]; omega, qrows_bare _ _, mdQ_el z _⟩ ⟨sw, by kernel_rfl, by rw [AHeap.rows_next]; omega, bw, we⟩ (by omega) (by omega)
  obtain ⟨d2, xd2, u1, u2, u3, u4, u5, u6, u7⟩ := slSpan.ty
  have a1 : aslice (AEnv.D env) 22 (AVal.slice (some ⟨10, vl, 0, 0, 4⟩) (n + 9) (n + 9)) none (some (AVal.int IntKind.i64 (n : Int))) none = some (AVal.slice (some ⟨10, vl, 0, 0, 4⟩) n (n + 9)) := aslice_to u1 u2 u3 u4.symm (by omega)
  have a2 : aslice (AEnv.D env) 22 (AVal.slice (some ⟨10, vl, 0, 0, 4⟩) (n + 9) (n + 9)) (some (AVal.int IntKind.i64 (n : Int))) none none = some (AVal.slice (some ⟨10, vl, n, 0, 4⟩) 9 9) := qd_slice_from u1 u2 u3 u4.symm rfl (by omega)
  exact ⟨_, gw_call_1 o ow oa ob oc od n c (flen n) cw vl ca cb cc cd 69 b rw_ _ _ _ _ _ _ (gRowQ (fun j => src (n - 1 - j)) n 0) _ rd cols (kw.to (by kernel_rfl)) (kl.to (by kernel_rfl)) a1 (ka.to (by kernel_rfl)) (kb.to (by kernel_rfl)) e1 e2 e3 a2 e4 (Runs.of_loops ((l1.pre p1).post q1)) (Runs.of_loops l2b) e5 e6 e7 e8 (Runs.of_loops (l3.pre p3)) ((app_litS1 (o := some ⟨10, vl, 0, 0, 4⟩) (c := n + 9) (id := 10) (.inl rfl) hn hn2 te (by kernel_rfl) (by kernel_rfl)).trans (by kernel_rfl)) (kc.to (by kernel_rfl)) (kd.to (by kernel_rfl)) e9 e10⟩

theorem gflow_law {o : Option AAddr} {n c ver off : Nat} {b : ABlk} (hs : SlArg o n c 0 ver off 4) (hb : BareB b) {src : Nat → Qd} (hel : ∀ j, j < n → b.elem? ver (off + j) = some (src j).val) (hn2 : n ≤ 2 ^ 42) (cols : Int) :
    ∃ h', FDoes Try.prog 3 [.slice o n c, .int .i64 cols] (AHeap.of [b]) (.bool true) h' := by
  by_cases hn : n = 0
  · exact gflow_0 hs hb hel hn2 cols hn
  · exact gflow_1 hs hb hel hn2 cols hn

end Go.Proofs.Ytcgcpmcjaeenlaa
