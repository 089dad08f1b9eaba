/- Blocks of the call's own, known whole; results that are a variable's cells. -/
import Derived.Test.YteilglljigjefaaHp01
namespace Go.Proofs.Yteilglljigjefaa
open Go.RowKit

theorem cell_heap {w : World} {b : Nat} {cs : Array Value} {t : TypeId} (h : w.heap[b]? = some (.cells cs t)) (j : Nat) : w.cell? ⟨b, j, none⟩ = cs[j]? := by
  simp [World.cell?, h]
theorem heap_alloc_new (w : World) (o : Obj) : (w.alloc o).heap[w.heap.size]? = some o := by
  simp only [World.alloc]; exact Array.getElem?_push_size
theorem add_zero' (b k : Nat) : (⟨b, 0, none⟩ : Addr).add k = ⟨b, k, none⟩ := by unfold Addr.add; split <;> simp_all
theorem cell_same' {W : World} {p : Addr} {x : Value} (u : Value) (h : W.cell? p = some u) : (W.setCell p x).cell? p = some x := World.cell?_setCell_same _ _ _ h
theorem cell_far' {W : World} {g j k : Nat} {x : Value} (h : j ≠ k) : (W.setCell ⟨g, j, none⟩ x).cell? ⟨g, k, none⟩ = W.cell? ⟨g, k, none⟩ := World.cell?_setCell_other _ _ _ _ (fun e => by injection e with _ e2 _; exact h e2)
theorem cell_off' {W : World} {g h j k : Nat} {x : Value} (hne : g ≠ h) : (W.setCell ⟨g, j, none⟩ x).cell? ⟨h, k, none⟩ = W.cell? ⟨h, k, none⟩ := World.cell?_setCell_other _ _ _ _ (fun e => by injection e with e1 _ _; exact hne e1)
theorem cells_last {w : World} {cs : Array Value} {t : TypeId} {j : Nat} {v : Value} {g : Nat} (hg : w.heap.size = g) (hv : cs[j]? = some v) : (w.alloc (.cells cs t)).cell? ⟨g, j, none⟩ = some v := by
  subst hg
  rw [cell_heap (heap_alloc_new w _), hv]

/-- Block g holds these cells, and may be written. -/
structure Blk (W : World) (g : Nat) (vs : List Value) : Prop where
  c : ∀ j v, vs[j]? = some v → W.cell? ⟨g, j, none⟩ = some v
  f : ∀ j, W.frozen? ⟨g, j, none⟩ = false
  lt : g < W.heap.size
section
variable {W W' : World} {g : Nat} {vs : List Value}
theorem Blk.ext (h : Blk W g vs) (he : Ext W W') : Blk W' g vs :=
  ⟨fun j v hv => he.cell (h.c j v hv), fun j => (he.frozen h.lt).trans (h.f j), Nat.lt_of_lt_of_le h.lt he.le⟩
theorem Blk.new (cs : Array Value) (t : TypeId) : Blk (W.alloc (.cells cs t)) W.heap.size cs.toList :=
  ⟨fun j v hv => cells_last rfl (by simpa using hv), fun j => by simp only [World.frozen?, heap_alloc_new]; simp, by simp⟩
theorem Blk.new' {cs : Array Value} {t : TypeId} {n : Nat} (hn : W.heap.size = n) : Blk (W.alloc (.cells cs t)) n cs.toList := by subst hn; exact Blk.new cs t
theorem Blk.set (h : Blk W g vs) {j : Nat} (hj : j < vs.length) (x : Value) : Blk (W.setCell ⟨g, j, none⟩ x) g (vs.set j x) := by
  refine ⟨fun k v hv => ?_, fun k => by rw [World.frozen?_setCell]; exact h.f k, by simpa using h.lt⟩
  by_cases e : j = k
  · subst e
    rw [List.getElem?_set_self hj] at hv
    injection hv with hv
    subst hv
    exact cell_same' vs[j] (h.c j _ (List.getElem?_eq_getElem hj))
  · rw [List.getElem?_set_ne e] at hv
    rw [cell_far' e]
    exact h.c k v hv
theorem Blk.other (h : Blk W g vs) {b k : Nat} (hb : b ≠ g) (x : Value) : Blk (W.setCell ⟨b, k, none⟩ x) g vs :=
  ⟨fun j v hv => by rw [cell_off' hb]; exact h.c j v hv, fun j => by rw [World.frozen?_setCell]; exact h.f j, by simpa using h.lt⟩
/-- The cell j, for every world that holds what W holds. -/
theorem Blk.at_ (h : Blk W g vs) (j : Nat) {v : Value} (hv : vs[j]? = some v) : ∀ w', Ext W w' → w'.cell? ⟨g, j, none⟩ = some v := fun _ he => he.cell (h.c j v hv)
theorem Blk.free (h : Blk W g vs) (j : Nat) : ∀ w', Ext W w' → w'.frozen? ⟨g, j, none⟩ = false := fun _ he => (he.frozen h.lt).trans (h.f j)
end

theorem results_spot {fn : Func} {t : Tmp} (h : fn.results = #[.cell t 27]) (tmps : Array Value) (w : World) {g : Nat} {u0 u1 : Value} (h8 : tmps.getD t undef = .pointer (some ⟨g, 0, none⟩)) (hb : Blk w g [u0, u1]) :
    (results fn tmps).run Try.prog w = .ok (.agg #[u0, u1]) w := by
  rw [Array.getD_eq_getD_getElem?] at h8
  have c0 := hb.c 0 _ rfl
  have c1 := hb.c 1 _ rfl
  simp [results, h, loadVar, h8, c0, c1, loadCells, loadCellsFrom, asAddr, Addr.add_lit, Result.andThen, go_sem]

theorem results_pose {fn : Func} {t : Tmp} (h : fn.results = #[.cell t 82]) (tmps : Array Value) (w : World) {g : Nat} {u0 u1 u2 u3 u4 : Value} (h8 : tmps.getD t undef = .pointer (some ⟨g, 0, none⟩)) (hb : Blk w g [u0, u1, u2, u3, u4]) :
    (results fn tmps).run Try.prog w = .ok (.agg #[u0, u1, u2, u3, u4]) w := by
  rw [Array.getD_eq_getD_getElem?] at h8
  have c0 := hb.c 0 _ rfl
  have c1 := hb.c 1 _ rfl
  have c2 := hb.c 2 _ rfl
  have c3 := hb.c 3 _ rfl
  have c4 := hb.c 4 _ rfl
  simp [results, h, loadVar, h8, c0, c1, c2, c3, c4, loadCells, loadCellsFrom, asAddr, Addr.add_lit, Result.andThen, go_sem]

theorem results_hinge {fn : Func} {t : Tmp} (h : fn.results = #[.cell t 85]) (tmps : Array Value) (w : World) {g : Nat} {u0 u1 u2 u3 u4 : Value} (h8 : tmps.getD t undef = .pointer (some ⟨g, 0, none⟩)) (hb : Blk w g [u0, u1, u2, u3, u4]) :
    (results fn tmps).run Try.prog w = .ok (.agg #[u0, u1, u2, u3, u4]) w := by
  rw [Array.getD_eq_getD_getElem?] at h8
  have c0 := hb.c 0 _ rfl
  have c1 := hb.c 1 _ rfl
  have c2 := hb.c 2 _ rfl
  have c3 := hb.c 3 _ rfl
  have c4 := hb.c 4 _ rfl
  simp [results, h, loadVar, h8, c0, c1, c2, c3, c4, loadCells, loadCellsFrom, asAddr, Addr.add_lit, Result.andThen, go_sem]

theorem results_link {fn : Func} {t : Tmp} (h : fn.results = #[.cell t 25]) (tmps : Array Value) (w : World) {g : Nat} {u0 u1 : Value} (h8 : tmps.getD t undef = .pointer (some ⟨g, 0, none⟩)) (hb : Blk w g [u0, u1]) :
    (results fn tmps).run Try.prog w = .ok (.agg #[u0, u1]) w := by
  rw [Array.getD_eq_getD_getElem?] at h8
  have c0 := hb.c 0 _ rfl
  have c1 := hb.c 1 _ rfl
  simp [results, h, loadVar, h8, c0, c1, loadCells, loadCellsFrom, asAddr, Addr.add_lit, Result.andThen, go_sem]

theorem results_apart {fn : Func} {t : Tmp} (h : fn.results = #[.cell t 67]) (tmps : Array Value) (w : World) {g : Nat} {u0 u1 u2 u3 u4 u5 : Value} (h8 : tmps.getD t undef = .pointer (some ⟨g, 0, none⟩)) (hb : Blk w g [u0, u1, u2, u3, u4, u5]) :
    (results fn tmps).run Try.prog w = .ok (.agg #[u0, u1, u2, u3, u4, u5]) w := by
  rw [Array.getD_eq_getD_getElem?] at h8
  have c0 := hb.c 0 _ rfl
  have c1 := hb.c 1 _ rfl
  have c2 := hb.c 2 _ rfl
  have c3 := hb.c 3 _ rfl
  have c4 := hb.c 4 _ rfl
  have c5 := hb.c 5 _ rfl
  simp [results, h, loadVar, h8, c0, c1, c2, c3, c4, c5, loadCells, loadCellsFrom, asAddr, Addr.add_lit, Result.andThen, go_sem]

theorem results_turn {fn : Func} {t : Tmp} (h : fn.results = #[.cell t 92]) (tmps : Array Value) (w : World) {g : Nat} {u0 u1 u2 : Value} (h8 : tmps.getD t undef = .pointer (some ⟨g, 0, none⟩)) (hb : Blk w g [u0, u1, u2]) :
    (results fn tmps).run Try.prog w = .ok (.agg #[u0, u1, u2]) w := by
  rw [Array.getD_eq_getD_getElem?] at h8
  have c0 := hb.c 0 _ rfl
  have c1 := hb.c 1 _ rfl
  have c2 := hb.c 2 _ rfl
  simp [results, h, loadVar, h8, c0, c1, c2, loadCells, loadCellsFrom, asAddr, Addr.add_lit, Result.andThen, go_sem]
end Go.Proofs.Yteilglljigjefaa

/- Places: what the small functions compute, by the code and by the reference. -/
namespace Go.Proofs.Yteilglljigjefaa
open Go.RowKit

theorem ret_i {a b : Int} (h : a = b) : Ending.returned (.int .i64 a) = .returned (.int .i64 b) := by rw [h]
theorem ret_b {a b : Bool} (h : a = b) : Ending.returned (.bool a) = .returned (.bool b) := by rw [h]

def withinB (n lo hi : Int) : Bool := decide (lo ≤ n) && decide (n ≤ hi)
theorem withinB_true {n lo hi : Int} : withinB n lo hi = true ↔ lo ≤ n ∧ n ≤ hi := by simp [withinB]
theorem withinB_false {n lo hi : Int} : withinB n lo hi = false ↔ ¬(lo ≤ n ∧ n ≤ hi) := by rw [← withinB_true]; cases withinB n lo hi <;> simp

theorem within_any (n lo hi : Int) (w : World) :
    Calls Try.prog 58 #[.int .i64 n, .int .i64 lo, .int .i64 hi] w fun e w' => e = .returned (.bool (withinB n lo hi)) ∧ w = w' := by
  go_enter Try.func58, Try.ntmps58
  go_wp2
  all_goals go_ret
  all_goals exact ⟨ret_b (by simp [withinB]; omega), rfl⟩

/-- The numbers of a pose are small. -/
structure PsOk (p : Ps) : Prop where
  bp : -15625 ≤ p.p ∧ p.p ≤ 15625
  bq : -15625 ≤ p.q ∧ p.q ≤ 15625
  bx : -9375000 ≤ p.x ∧ p.x ≤ 9375000
  bz : -9375000 ≤ p.y ∧ p.y ≤ 9375000
  bd : 1 ≤ p.d ∧ p.d ≤ 15625
theorem psOk {p : Ps} (h : PoseOk p 3) : PsOk p := ⟨(pose_small h).2.1, (pose_small h).2.2.1, (pose_small h).2.2.2.1, (pose_small h).2.2.2.2, (pose_small h).1⟩

set_option maxHeartbeats 400000 in
theorem place_any (p : Ps) (s : Sp) (w : World) (hp : PsOk p) (hs : spotB s) :
    Calls Try.prog 81 #[p.val, s.val] w fun e w' => e = .returned (plc p s).val ∧ Ext w w' := by
  obtain ⟨P, Q, X, Y, D⟩ := p
  obtain ⟨x, y⟩ := s
  obtain ⟨p1, p2, p3, p4, p5⟩ := hp
  obtain ⟨s1, s2⟩ := hs
  simp only at p1 p2 p3 p4 p5 s1 s2
  have e1 := prod_le p1.1 p1.2 s1.1 s1.2
  have e2 := prod_le p2.1 p2.2 s2.1 s2.2
  have e3 := prod_le p2.1 p2.2 s1.1 s1.2
  have e4 := prod_le p1.1 p1.2 s2.1 s2.2
  simp only [Int.reduceMul] at e1 e2 e3 e4
  go_enter Try.func81, Try.ntmps81
  go_wp2
  exact bodyPost_ret (v := (plc ⟨P, Q, X, Y, D⟩ ⟨x, y⟩).val) (by simp [results, Try.results81, go_sem, plc]) rfl ⟨rfl, by simp (maxDischargeDepth := 8)⟩
set_option maxHeartbeats 400000 in
theorem at_any (p : Ps) (s : Sp) (w : World) (hp : PsOk p) (hs : spotB s) :
    Calls Try.prog 47 #[p.val, s.val] w fun e w' => e = .returned (plc p s).val ∧ Ext w w' := by
  obtain ⟨P, Q, X, Y, D⟩ := p
  obtain ⟨x, y⟩ := s
  obtain ⟨p1, p2, p3, p4, p5⟩ := hp
  obtain ⟨s1, s2⟩ := hs
  simp only at p1 p2 p3 p4 p5 s1 s2
  have e1 := prod_le p1.1 p1.2 s1.1 s1.2
  have e2 := prod_le p2.1 p2.2 s2.1 s2.2
  have e3 := prod_le p2.1 p2.2 s1.1 s1.2
  have e4 := prod_le p1.1 p1.2 s2.1 s2.2
  simp only [Int.reduceMul] at e1 e2 e3 e4
  go_enter Try.func47, Try.ntmps47
  go_wp2
  exact bodyPost_ret (v := (plc ⟨P, Q, X, Y, D⟩ ⟨x, y⟩).val) (by simp [results, Try.results47, go_sem, plc]) rfl ⟨rfl, by simp (maxDischargeDepth := 8)⟩

set_option maxHeartbeats 400000 in
theorem side_any (a b c : Cn) (w : World) (he : EdgeOk a b) (hc : CnOk c) :
    Calls Try.prog 62 #[a.val, b.val, c.val] w fun e w' => e = .returned (.int .i64 (sideC a b c)) ∧ Ext w w' := by
  have hf := side_fit he.ca.d hc.d he.ca.x he.ca.y hc.x hc.y he.x he.y
  have hx := he.x
  have hy := he.y
  obtain ⟨⟨ax, ay⟩, d⟩ := a
  obtain ⟨⟨bx, bY⟩, bd⟩ := b
  obtain ⟨⟨cx, cy⟩, e⟩ := c
  simp only at hf hx hy
  obtain ⟨f1, f2, f3, f4, f5, f6⟩ := hf
  clear he hc
  go_enter Try.func62, Try.ntmps62
  go_wp2
  go_ret
  exact ⟨rfl, by simp (maxDischargeDepth := 8)⟩
set_option maxHeartbeats 400000 in
theorem beside_any (a b : Sp) (d : Int) (c : Sp) (e : Int) (w : World) (he : EdgeOk ⟨a, d⟩ ⟨b, d⟩) (hc : CnOk ⟨c, e⟩) :
    Calls Try.prog 102 #[a.val, b.val, .int .i64 d, c.val, .int .i64 e] w fun e' w' => e' = .returned (.int .i64 (sideS a b d c e)) ∧ Ext w w' := by
  have hf := side_fit he.ca.d hc.d he.ca.x he.ca.y hc.x hc.y he.x he.y
  have hx := he.x
  have hy := he.y
  obtain ⟨ax, ay⟩ := a
  obtain ⟨bx, bY⟩ := b
  obtain ⟨cx, cy⟩ := c
  simp only at hf hx hy
  obtain ⟨f1, f2, f3, f4, f5, f6⟩ := hf
  clear he hc
  go_enter Try.func102, Try.ntmps102
  go_wp2
  go_ret
  exact ⟨rfl, by simp (maxDischargeDepth := 8)⟩
set_option maxHeartbeats 400000 in
theorem left_any (a b c : Sp) (w : World) (ha : spotB a) (hb : spotB b) (hc : spotB c) :
    Calls Try.prog 88 #[a.val, b.val, c.val] w fun e w' => e = .returned (.int .i64 (sd a b c)) ∧ Ext w w' := by
  obtain ⟨ax, ay⟩ := a
  obtain ⟨bx, bY⟩ := b
  obtain ⟨cx, cy⟩ := c
  obtain ⟨a1, a2⟩ := ha
  obtain ⟨b1, b2⟩ := hb
  obtain ⟨c1, c2⟩ := hc
  simp only at a1 a2 b1 b2 c1 c2
  have e1 := prod_le (a := bx - ax) (d := 100) (s := cy - ay) (m := 100) (by omega) (by omega) (by omega) (by omega)
  have e2 := prod_le (a := bY - ay) (d := 100) (s := cx - ax) (m := 100) (by omega) (by omega) (by omega) (by omega)
  simp only [Int.reduceMul] at e1 e2
  go_enter Try.func88, Try.ntmps88
  go_wp2
  go_ret
  exact ⟨rfl, by simp (maxDischargeDepth := 8)⟩
set_option maxHeartbeats 400000 in
theorem gap_any (p : Ps) (a b : Sp) (w : World) (hp : PsOk p) (ha : spotB a) (hb : spotB b) :
    Calls Try.prog 54 #[p.val, a.val, b.val] w fun e w' => e = .returned (gapS p a b).val ∧ Ext w w' := by
  have cp := fun w' => place_any p a w' hp ha
  have Cp := Lib.hid cp
  clear cp
  have hpl : (-11000000 ≤ (plc p a).x ∧ (plc p a).x ≤ 11000000) ∧ (-11000000 ≤ (plc p a).y ∧ (plc p a).y ≤ 11000000) := by
    have e1 := prod_le hp.bp.1 hp.bp.2 ha.1.1 ha.1.2
    have e2 := prod_le hp.bq.1 hp.bq.2 ha.2.1 ha.2.2
    have e3 := prod_le hp.bq.1 hp.bq.2 ha.1.1 ha.1.2
    have e4 := prod_le hp.bp.1 hp.bp.2 ha.2.1 ha.2.2
    have := hp.bx
    have := hp.bz
    unfold plc
    simp only
    omega
  have hg : gapS p a b = ⟨(plc p a).x - b.x * p.d, (plc p a).y - b.y * p.d⟩ := rfl
  rw [hg]
  clear hg
  generalize plc p a = z at *
  obtain ⟨zx, zy⟩ := z
  obtain ⟨P, Q, X, Y, D⟩ := p
  obtain ⟨ax, ay⟩ := a
  obtain ⟨bx, bY⟩ := b
  obtain ⟨p1, p2, p3, p4, p5⟩ := hp
  obtain ⟨b1, b2⟩ := hb
  simp only at p1 p2 p3 p4 p5 b1 b2 hpl ⊢
  have e1 := prod_le b1.1 b1.2 (s := D) (m := 15625) (by omega) (by omega)
  have e2 := prod_le b2.1 b2.2 (s := D) (m := 15625) (by omega) (by omega)
  simp only [Int.reduceMul] at e1 e2
  go_enter Try.func54, Try.ntmps54
  go_wp2_with (go_at_call 81; refine (Cp.out _).mono ?_; rintro e w1 ⟨rfl, h1⟩; have kd := (((((Blk.new' (n := w.heap.size) (cs := #[vint P, vint Q, vint X, vint Y, vint D]) rfl).ext ((Ext.refl _).alloc _)).ext ((Ext.refl _).alloc _)).ext ((Ext.refl _).alloc _)).ext h1).at_ 4 rfl; have kb := ((((Blk.new' (n := w.heap.size + 1 + 1) (cs := #[vint bx, vint bY]) (by simp)).ext ((Ext.refl _).alloc _)).ext h1)); have kb0 := kb.at_ 0 rfl; have kb1 := kb.at_ 1 rfl; have kr := (((Blk.new' (n := w.heap.size + 1 + 1 + 1) (cs := #[.int .i64 0, .int .i64 0]) (by simp)).ext h1)); have kr0 := kr.at_ 0 rfl; have kr1 := kr.at_ 1 rfl; have kf0 := kr.free 0; have kf1 := kr.free 1; clear kb)
  have kr2 := ((kr.ext ((Ext.refl w1).alloc (.cells #[.int .i64 zx, .int .i64 zy] 27))).set (j := 0) (by simp) (.int .i64 (zx - bx * D))).set (j := 1) (by simp) (.int .i64 (zy - bY * D))
  refine bodyPost_ret (results_spot rfl _ _ rfl kr2) rfl ⟨rfl, ?_⟩
  have h0 : Ext w w1 := Ext.trans (by simp (maxDischargeDepth := 8)) h1
  exact ((h0.alloc _).setCell (by simp; omega) _).setCell (by simp; omega) _
end Go.Proofs.Yteilglljigjefaa

/- The greatest common divisor, by the code (of some numbers) and by the reference (of two). -/
namespace Go.Proofs.Yteilglljigjefaa
open Go.RowKit

theorem gcd_tmod (x y : Int) : Int.gcd y (x.tmod y) = Int.gcd x y := by
  show Nat.gcd y.natAbs (x.tmod y).natAbs = Nat.gcd x.natAbs y.natAbs
  rw [Int.natAbs_tmod, Nat.gcd_comm x.natAbs y.natAbs, Nat.gcd_comm, ← Nat.gcd_rec]
theorem abs_any (a : Int) (w : World) (h : -1000000000000 ≤ a ∧ a ≤ 1000000000000) : Calls Try.prog 107 #[.int .i64 a] w fun e w' => e = .returned (.int .i64 (a.natAbs : Int)) ∧ w = w' := by
  go_enter Try.func107, Try.ntmps107
  go_wp2
  all_goals go_ret
  all_goals exact ⟨ret_i (by omega), rfl⟩

set_option maxHeartbeats 400000 in
theorem gcd_any (a b : Int) (w : World) (ha : -1000000000 ≤ a ∧ a ≤ 1000000000) (hb : -1000000000 ≤ b ∧ b ≤ 1000000000) :
    Calls Try.prog 85 #[.int .i64 a, .int .i64 b] w fun e w' => e = .returned (.int .i64 (Int.gcd a b : Int)) ∧ Ext w w' := by
  have ca := fun (x : Int) (h : -1000000000000 ≤ x ∧ x ≤ 1000000000000) (w' : World) => abs_any x w' h
  have Ca := Lib.hid ca
  clear ca
  go_enter Try.func85, Try.ntmps85
  go_wp2
  go_loopw [0, 1] (fun u v wr => ∃ x y : Int, u = .int .i64 x ∧ v = .int .i64 y ∧ Ext w wr ∧ Int.gcd x y = Int.gcd a b ∧ (-1000000000 ≤ x ∧ x ≤ 1000000000) ∧ -1000000000 ≤ y ∧ y ≤ 1000000000) (fun _ v _ => (intOf v).natAbs)
  case atStart => exact ⟨a, b, rfl, rfl, Ext.refl _, rfl, ha, hb⟩
  case round =>
    obtain ⟨x, y, rfl, rfl, hex, hg, hx, hy1⟩ := hrel
    have Hg := Lib.hid hg
    clear hg
    by_cases hy : y = 0
    · subst hy
      go_wp2_with (go_at_call 107; refine (Ca.out x (by omega) _).mono ?_; rintro e w' ⟨rfl, rfl⟩)
      go_ret
      exact ⟨ret_i (by rw [← Hg.out]; simp), hex⟩
    · have hy' : (y == 0) = false := beq_eq_false_iff_ne.2 hy
      have hy2 : (y != 0) = true := by rw [bne_iff_ne]; exact hy
      have hab : (x.tmod y).natAbs < y.natAbs := by rw [Int.natAbs_tmod]; exact Nat.mod_lt _ (by omega)
      have hg2 := gcd_tmod x y
      have Hg2 := Lib.hid hg2
      clear hg2
      go_wp2
      go_quiet (fail)
      go_wp2
      go_roundw
      case rel => exact ⟨y, x.tmod y, rfl, rfl, hex.trans (by simp), Hg2.out.trans Hg.out, by omega, by omega, by omega⟩
      case measure => simp [intOf]; exact Nat.mod_lt _ (by omega)

/-- The greatest common divisor of some numbers. -/
def gN (xs : List Int) : Nat := xs.foldl (fun g x => Nat.gcd g x.natAbs) 0
theorem gN_succ {xs : List Int} {k : Nat} (h : k < xs.length) : gN (xs.take (k + 1)) = Nat.gcd (gN (xs.take k)) (getI xs k).natAbs := by
  unfold gN
  rw [List.take_succ_eq_append_getElem h, List.foldl_append, getI_eq h]
  rfl
theorem gN_five (p : Ps) : gN [p.p, p.q, p.x, p.y, p.d] = g5 p := by simp [gN, g5]

set_option maxHeartbeats 800000 in
theorem divisor_any (A : Option Addr) (c : Nat) (xs : List Int) (w : World) (hA : Ints w A xs) (hl : xs.length ≤ 1000) (hb : ∀ k, k < xs.length → -1000000000 ≤ getI xs k ∧ getI xs k ≤ 1000000000) :
    Calls Try.prog 82 #[.slice A xs.length c] w fun e w' => e = .returned (.int .i64 (gN xs : Int)) ∧ Ext w w' := by
  have ha := fun k (hk : k < xs.length) => hA.some_ (by omega : 0 < xs.length)
  have hs := fun k (hk : k < xs.length) => gN_succ hk
  have hall : gN (xs.take xs.length) = gN xs := by rw [List.take_length]
  have h0 : gN (xs.take 0) = 0 := rfl
  have Ha := Lib.hid ha
  have Hs := Lib.hid hs
  have Hb := Lib.hid hb
  have Hall := Lib.hid hall
  have H0 := Lib.hid h0
  clear ha hs hb hall h0 hA
  generalize hG : gN xs = G at *
  clear hG
  generalize (fun k => gN (xs.take k)) = F at *
  generalize xs.length = n at *
  go_enter Try.func82, Try.ntmps82
  go_wp2
  go_loopw [8, 3] (fun i o wr => ∃ (k : Nat) (x : Int), k ≤ n ∧ i = .int .i64 k ∧ o = .int .i64 x ∧ Ext w wr ∧ x.natAbs = gN (xs.take k) ∧ -1000000000 ≤ x ∧ x ≤ 1000000000) (fun i _ _ => n - (intOf i).toNat)
  case atStart => exact ⟨0, 0, by omega, rfl, rfl, Ext.refl _, H0.out.symm, by omega, by omega⟩
  case round =>
    obtain ⟨k, x, hk, rfl, rfl, hex, hg, hx1, hx2⟩ := hrel
    have Hg := Lib.hid hg
    clear hg
    by_cases hlt : k < n
    · obtain ⟨ad, rfl, hc0⟩ := Ha.out k hlt
      have hc : ∀ w', Ext wr w' → w'.cell? (ad.add k) = some (.int .i64 (getI xs k)) := fun w' he => hc0 k hlt w' (hex.trans he)
      have hbk := Hb.out k hlt
      have hsk := Hs.out k hlt
      rw [← Hg.out] at hsk
      have Hsk := Lib.hid hsk
      clear hsk Ha Hs Hb hc0
      generalize getI xs k = z at *
      go_wp2
      obtain ⟨wo, rfl⟩ : ∃ wo : World, wo = wr := ⟨_, rfl⟩
      go_loopw [3, 5] (fun u v wr => ∃ x' y : Int, u = .int .i64 x' ∧ v = .int .i64 y ∧ Ext w wr ∧ Int.gcd x' y = Int.gcd x z ∧ (-1000000000 ≤ x' ∧ x' ≤ 1000000000) ∧ -1000000000 ≤ y ∧ y ≤ 1000000000) (fun _ v _ => (intOf v).natAbs)
      case atStart => exact ⟨x, z, rfl, rfl, hex, rfl, ⟨hx1, hx2⟩, hbk⟩
      case round =>
        obtain ⟨x', y, rfl, rfl, hex', hg, hx', hy1⟩ := hrel
        have Hg' := Lib.hid hg
        clear hg
        by_cases hy : y = 0
        · subst hy
          go_wp2
          go_roundw
          case rel => exact ⟨k + 1, x', by omega, by go_num, rfl, hex', by rw [Hsk.out]; have := Hg'.out; simpa [Int.gcd] using this, by omega, by omega⟩
          case measure => simp [intOf]; omega
        · have hy' : (y == 0) = false := beq_eq_false_iff_ne.2 hy
          have hy2 : (y != 0) = true := by rw [bne_iff_ne]; exact hy
          have hab : (x'.tmod y).natAbs < y.natAbs := by rw [Int.natAbs_tmod]; exact Nat.mod_lt _ (by omega)
          have hg2 := gcd_tmod x' y
          have Hg2 := Lib.hid hg2
          clear hg2
          go_wp2
          go_quiet (fail)
          go_wp2
          go_roundw
          case rel => exact ⟨y, x'.tmod y, rfl, rfl, hex'.trans (by simp), Hg2.out.trans Hg'.out, by omega, by omega, by omega⟩
          case measure => simp [intOf]; exact Nat.mod_lt _ (by omega)
    · obtain rfl : n = k := by omega
      go_wp2
      all_goals go_ret
      all_goals exact ⟨ret_i (by rw [← Hall.out, ← Hg.out]; omega), hex⟩
abbrev tval (t : Int × Int × Int) : Value := .agg #[vint t.1, vint t.2.1, vint t.2.2]
end Go.Proofs.Yteilglljigjefaa

/- The angles: by the reference, without a search. -/
namespace Go.Proofs.Yteilglljigjefaa
open Go.RowKit
set_option maxHeartbeats 1000000 in
theorem turn_0 (w : World) : Calls Try.prog 105 #[.int .i64 0] w fun e w' => e = .returned (tval (-1, 0, 1)) ∧ Ext w w' := by
  go_enter Try.func105, Try.ntmps105
  go_wp2
  exact bodyPost_ret (v := tval (-1, 0, 1)) (by simp [results, Try.results105, go_sem]) rfl ⟨rfl, by simp (maxDischargeDepth := 12)⟩
set_option maxHeartbeats 1000000 in
theorem turn_1 (w : World) : Calls Try.prog 105 #[.int .i64 1] w fun e w' => e = .returned (tval (0, -1, 1)) ∧ Ext w w' := by
  go_enter Try.func105, Try.ntmps105
  go_wp2
  exact bodyPost_ret (v := tval (0, -1, 1)) (by simp [results, Try.results105, go_sem]) rfl ⟨rfl, by simp (maxDischargeDepth := 12)⟩
set_option maxHeartbeats 1000000 in
theorem turn_2 (w : World) : Calls Try.prog 105 #[.int .i64 2] w fun e w' => e = .returned (tval (0, 1, 1)) ∧ Ext w w' := by
  go_enter Try.func105, Try.ntmps105
  go_wp2
  exact bodyPost_ret (v := tval (0, 1, 1)) (by simp [results, Try.results105, go_sem]) rfl ⟨rfl, by simp (maxDischargeDepth := 12)⟩
set_option maxHeartbeats 1000000 in
theorem turn_3 (w : World) : Calls Try.prog 105 #[.int .i64 3] w fun e w' => e = .returned (tval (1, 0, 1)) ∧ Ext w w' := by
  go_enter Try.func105, Try.ntmps105
  go_wp2
  exact bodyPost_ret (v := tval (1, 0, 1)) (by simp [results, Try.results105, go_sem]) rfl ⟨rfl, by simp (maxDischargeDepth := 12)⟩
set_option maxHeartbeats 1000000 in
theorem turn_4 (w : World) : Calls Try.prog 105 #[.int .i64 4] w fun e w' => e = .returned (tval (-4, -3, 5)) ∧ Ext w w' := by
  have ca := fun (w' : World) => abs_any (-4) w' (by omega)
  have Ca := Lib.hid ca
  clear ca
  go_enter Try.func105, Try.ntmps105
  go_wp2
  go_quiet ((go_at_call 107; exact Calls.quiet_of_same ((Ca.out _).mono fun _ _ h => ⟨h.1, h.2.symm⟩)))
  go_wp2
  refine bodyPost_ret (results_turn rfl _ _ rfl (Blk.set (j := 2) (Blk.set (j := 1) (Blk.set (j := 0) (Blk.ext (Blk.new' (cs := #[.int .i64 0, .int .i64 0, .int .i64 0]) (t := 92) rfl) (by simp (maxDischargeDepth := 12))) (by simp) _) (by simp) _) (by simp) _)) rfl ⟨rfl, ?_⟩
  exact (((Ext.setCell (by simp (maxDischargeDepth := 12)) (Nat.le_refl _) _).setCell (Nat.le_refl _) _).setCell (Nat.le_refl _) _)
set_option maxHeartbeats 1000000 in
theorem turn_5 (w : World) : Calls Try.prog 105 #[.int .i64 5] w fun e w' => e = .returned (tval (-4, 3, 5)) ∧ Ext w w' := by
  have ca := fun (w' : World) => abs_any (-4) w' (by omega)
  have Ca := Lib.hid ca
  clear ca
  go_enter Try.func105, Try.ntmps105
  go_wp2
  go_quiet ((go_at_call 107; exact Calls.quiet_of_same ((Ca.out _).mono fun _ _ h => ⟨h.1, h.2.symm⟩)))
  go_wp2
  refine bodyPost_ret (results_turn rfl _ _ rfl (Blk.set (j := 2) (Blk.set (j := 1) (Blk.set (j := 0) (Blk.ext (Blk.new' (cs := #[.int .i64 0, .int .i64 0, .int .i64 0]) (t := 92) rfl) (by simp (maxDischargeDepth := 12))) (by simp) _) (by simp) _) (by simp) _)) rfl ⟨rfl, ?_⟩
  exact (((Ext.setCell (by simp (maxDischargeDepth := 12)) (Nat.le_refl _) _).setCell (Nat.le_refl _) _).setCell (Nat.le_refl _) _)
set_option maxHeartbeats 1000000 in
theorem turn_6 (w : World) : Calls Try.prog 105 #[.int .i64 6] w fun e w' => e = .returned (tval (-3, -4, 5)) ∧ Ext w w' := by
  have ca := fun (w' : World) => abs_any (-3) w' (by omega)
  have Ca := Lib.hid ca
  clear ca
  go_enter Try.func105, Try.ntmps105
  go_wp2
  go_quiet ((go_at_call 107; exact Calls.quiet_of_same ((Ca.out _).mono fun _ _ h => ⟨h.1, h.2.symm⟩)))
  go_wp2
  refine bodyPost_ret (results_turn rfl _ _ rfl (Blk.set (j := 2) (Blk.set (j := 1) (Blk.set (j := 0) (Blk.ext (Blk.new' (cs := #[.int .i64 0, .int .i64 0, .int .i64 0]) (t := 92) rfl) (by simp (maxDischargeDepth := 12))) (by simp) _) (by simp) _) (by simp) _)) rfl ⟨rfl, ?_⟩
  exact (((Ext.setCell (by simp (maxDischargeDepth := 12)) (Nat.le_refl _) _).setCell (Nat.le_refl _) _).setCell (Nat.le_refl _) _)
set_option maxHeartbeats 1000000 in
theorem turn_7 (w : World) : Calls Try.prog 105 #[.int .i64 7] w fun e w' => e = .returned (tval (-3, 4, 5)) ∧ Ext w w' := by
  have ca := fun (w' : World) => abs_any (-3) w' (by omega)
  have Ca := Lib.hid ca
  clear ca
  go_enter Try.func105, Try.ntmps105
  go_wp2
  go_quiet ((go_at_call 107; exact Calls.quiet_of_same ((Ca.out _).mono fun _ _ h => ⟨h.1, h.2.symm⟩)))
  go_wp2
  refine bodyPost_ret (results_turn rfl _ _ rfl (Blk.set (j := 2) (Blk.set (j := 1) (Blk.set (j := 0) (Blk.ext (Blk.new' (cs := #[.int .i64 0, .int .i64 0, .int .i64 0]) (t := 92) rfl) (by simp (maxDischargeDepth := 12))) (by simp) _) (by simp) _) (by simp) _)) rfl ⟨rfl, ?_⟩
  exact (((Ext.setCell (by simp (maxDischargeDepth := 12)) (Nat.le_refl _) _).setCell (Nat.le_refl _) _).setCell (Nat.le_refl _) _)
set_option maxHeartbeats 1000000 in
theorem turn_8 (w : World) : Calls Try.prog 105 #[.int .i64 8] w fun e w' => e = .returned (tval (3, -4, 5)) ∧ Ext w w' := by
  have ca := fun (w' : World) => abs_any (3) w' (by omega)
  have Ca := Lib.hid ca
  clear ca
  go_enter Try.func105, Try.ntmps105
  go_wp2
  go_quiet ((go_at_call 107; exact Calls.quiet_of_same ((Ca.out _).mono fun _ _ h => ⟨h.1, h.2.symm⟩)))
  go_wp2
  refine bodyPost_ret (results_turn rfl _ _ rfl (Blk.set (j := 2) (Blk.set (j := 1) (Blk.set (j := 0) (Blk.ext (Blk.new' (cs := #[.int .i64 0, .int .i64 0, .int .i64 0]) (t := 92) rfl) (by simp (maxDischargeDepth := 12))) (by simp) _) (by simp) _) (by simp) _)) rfl ⟨rfl, ?_⟩
  exact (((Ext.setCell (by simp (maxDischargeDepth := 12)) (Nat.le_refl _) _).setCell (Nat.le_refl _) _).setCell (Nat.le_refl _) _)
set_option maxHeartbeats 1000000 in
theorem turn_9 (w : World) : Calls Try.prog 105 #[.int .i64 9] w fun e w' => e = .returned (tval (3, 4, 5)) ∧ Ext w w' := by
  have ca := fun (w' : World) => abs_any (3) w' (by omega)
  have Ca := Lib.hid ca
  clear ca
  go_enter Try.func105, Try.ntmps105
  go_wp2
  go_quiet ((go_at_call 107; exact Calls.quiet_of_same ((Ca.out _).mono fun _ _ h => ⟨h.1, h.2.symm⟩)))
  go_wp2
  refine bodyPost_ret (results_turn rfl _ _ rfl (Blk.set (j := 2) (Blk.set (j := 1) (Blk.set (j := 0) (Blk.ext (Blk.new' (cs := #[.int .i64 0, .int .i64 0, .int .i64 0]) (t := 92) rfl) (by simp (maxDischargeDepth := 12))) (by simp) _) (by simp) _) (by simp) _)) rfl ⟨rfl, ?_⟩
  exact (((Ext.setCell (by simp (maxDischargeDepth := 12)) (Nat.le_refl _) _).setCell (Nat.le_refl _) _).setCell (Nat.le_refl _) _)
set_option maxHeartbeats 1000000 in
theorem turn_10 (w : World) : Calls Try.prog 105 #[.int .i64 10] w fun e w' => e = .returned (tval (4, -3, 5)) ∧ Ext w w' := by
  have ca := fun (w' : World) => abs_any (4) w' (by omega)
  have Ca := Lib.hid ca
  clear ca
  go_enter Try.func105, Try.ntmps105
  go_wp2
  go_quiet ((go_at_call 107; exact Calls.quiet_of_same ((Ca.out _).mono fun _ _ h => ⟨h.1, h.2.symm⟩)))
  go_wp2
  refine bodyPost_ret (results_turn rfl _ _ rfl (Blk.set (j := 2) (Blk.set (j := 1) (Blk.set (j := 0) (Blk.ext (Blk.new' (cs := #[.int .i64 0, .int .i64 0, .int .i64 0]) (t := 92) rfl) (by simp (maxDischargeDepth := 12))) (by simp) _) (by simp) _) (by simp) _)) rfl ⟨rfl, ?_⟩
  exact (((Ext.setCell (by simp (maxDischargeDepth := 12)) (Nat.le_refl _) _).setCell (Nat.le_refl _) _).setCell (Nat.le_refl _) _)
set_option maxHeartbeats 1000000 in
theorem turn_11 (w : World) : Calls Try.prog 105 #[.int .i64 11] w fun e w' => e = .returned (tval (4, 3, 5)) ∧ Ext w w' := by
  have ca := fun (w' : World) => abs_any (4) w' (by omega)
  have Ca := Lib.hid ca
  clear ca
  go_enter Try.func105, Try.ntmps105
  go_wp2
  go_quiet ((go_at_call 107; exact Calls.quiet_of_same ((Ca.out _).mono fun _ _ h => ⟨h.1, h.2.symm⟩)))
  go_wp2
  refine bodyPost_ret (results_turn rfl _ _ rfl (Blk.set (j := 2) (Blk.set (j := 1) (Blk.set (j := 0) (Blk.ext (Blk.new' (cs := #[.int .i64 0, .int .i64 0, .int .i64 0]) (t := 92) rfl) (by simp (maxDischargeDepth := 12))) (by simp) _) (by simp) _) (by simp) _)) rfl ⟨rfl, ?_⟩
  exact (((Ext.setCell (by simp (maxDischargeDepth := 12)) (Nat.le_refl _) _).setCell (Nat.le_refl _) _).setCell (Nat.le_refl _) _)
end Go.Proofs.Yteilglljigjefaa

/- The angles: by the reference, without a search. -/
namespace Go.Proofs.Yteilglljigjefaa
open Go.RowKit
set_option maxHeartbeats 1000000 in
theorem turn_12 (w : World) : Calls Try.prog 105 #[.int .i64 12] w fun e w' => e = .returned (tval (-12, -5, 13)) ∧ Ext w w' := by
  have ca := fun (w' : World) => abs_any (-12) w' (by omega)
  have Ca := Lib.hid ca
  clear ca
  go_enter Try.func105, Try.ntmps105
  go_wp2
  go_quiet ((go_at_call 107; exact Calls.quiet_of_same ((Ca.out _).mono fun _ _ h => ⟨h.1, h.2.symm⟩)))
  go_wp2
  refine bodyPost_ret (results_turn rfl _ _ rfl (Blk.set (j := 2) (Blk.set (j := 1) (Blk.set (j := 0) (Blk.ext (Blk.new' (cs := #[.int .i64 0, .int .i64 0, .int .i64 0]) (t := 92) rfl) (by simp (maxDischargeDepth := 12))) (by simp) _) (by simp) _) (by simp) _)) rfl ⟨rfl, ?_⟩
  exact (((Ext.setCell (by simp (maxDischargeDepth := 12)) (Nat.le_refl _) _).setCell (Nat.le_refl _) _).setCell (Nat.le_refl _) _)
set_option maxHeartbeats 1000000 in
theorem turn_13 (w : World) : Calls Try.prog 105 #[.int .i64 13] w fun e w' => e = .returned (tval (-12, 5, 13)) ∧ Ext w w' := by
  have ca := fun (w' : World) => abs_any (-12) w' (by omega)
  have Ca := Lib.hid ca
  clear ca
  go_enter Try.func105, Try.ntmps105
  go_wp2
  go_quiet ((go_at_call 107; exact Calls.quiet_of_same ((Ca.out _).mono fun _ _ h => ⟨h.1, h.2.symm⟩)))
  go_wp2
  refine bodyPost_ret (results_turn rfl _ _ rfl (Blk.set (j := 2) (Blk.set (j := 1) (Blk.set (j := 0) (Blk.ext (Blk.new' (cs := #[.int .i64 0, .int .i64 0, .int .i64 0]) (t := 92) rfl) (by simp (maxDischargeDepth := 12))) (by simp) _) (by simp) _) (by simp) _)) rfl ⟨rfl, ?_⟩
  exact (((Ext.setCell (by simp (maxDischargeDepth := 12)) (Nat.le_refl _) _).setCell (Nat.le_refl _) _).setCell (Nat.le_refl _) _)
set_option maxHeartbeats 1000000 in
theorem turn_14 (w : World) : Calls Try.prog 105 #[.int .i64 14] w fun e w' => e = .returned (tval (-5, -12, 13)) ∧ Ext w w' := by
  have ca := fun (w' : World) => abs_any (-5) w' (by omega)
  have Ca := Lib.hid ca
  clear ca
  go_enter Try.func105, Try.ntmps105
  go_wp2
  go_quiet ((go_at_call 107; exact Calls.quiet_of_same ((Ca.out _).mono fun _ _ h => ⟨h.1, h.2.symm⟩)))
  go_wp2
  refine bodyPost_ret (results_turn rfl _ _ rfl (Blk.set (j := 2) (Blk.set (j := 1) (Blk.set (j := 0) (Blk.ext (Blk.new' (cs := #[.int .i64 0, .int .i64 0, .int .i64 0]) (t := 92) rfl) (by simp (maxDischargeDepth := 12))) (by simp) _) (by simp) _) (by simp) _)) rfl ⟨rfl, ?_⟩
  exact (((Ext.setCell (by simp (maxDischargeDepth := 12)) (Nat.le_refl _) _).setCell (Nat.le_refl _) _).setCell (Nat.le_refl _) _)
set_option maxHeartbeats 1000000 in
theorem turn_15 (w : World) : Calls Try.prog 105 #[.int .i64 15] w fun e w' => e = .returned (tval (-5, 12, 13)) ∧ Ext w w' := by
  have ca := fun (w' : World) => abs_any (-5) w' (by omega)
  have Ca := Lib.hid ca
  clear ca
  go_enter Try.func105, Try.ntmps105
  go_wp2
  go_quiet ((go_at_call 107; exact Calls.quiet_of_same ((Ca.out _).mono fun _ _ h => ⟨h.1, h.2.symm⟩)))
  go_wp2
  refine bodyPost_ret (results_turn rfl _ _ rfl (Blk.set (j := 2) (Blk.set (j := 1) (Blk.set (j := 0) (Blk.ext (Blk.new' (cs := #[.int .i64 0, .int .i64 0, .int .i64 0]) (t := 92) rfl) (by simp (maxDischargeDepth := 12))) (by simp) _) (by simp) _) (by simp) _)) rfl ⟨rfl, ?_⟩
  exact (((Ext.setCell (by simp (maxDischargeDepth := 12)) (Nat.le_refl _) _).setCell (Nat.le_refl _) _).setCell (Nat.le_refl _) _)
set_option maxHeartbeats 1000000 in
theorem turn_16 (w : World) : Calls Try.prog 105 #[.int .i64 16] w fun e w' => e = .returned (tval (5, -12, 13)) ∧ Ext w w' := by
  have ca := fun (w' : World) => abs_any (5) w' (by omega)
  have Ca := Lib.hid ca
  clear ca
  go_enter Try.func105, Try.ntmps105
  go_wp2
  go_quiet ((go_at_call 107; exact Calls.quiet_of_same ((Ca.out _).mono fun _ _ h => ⟨h.1, h.2.symm⟩)))
  go_wp2
  refine bodyPost_ret (results_turn rfl _ _ rfl (Blk.set (j := 2) (Blk.set (j := 1) (Blk.set (j := 0) (Blk.ext (Blk.new' (cs := #[.int .i64 0, .int .i64 0, .int .i64 0]) (t := 92) rfl) (by simp (maxDischargeDepth := 12))) (by simp) _) (by simp) _) (by simp) _)) rfl ⟨rfl, ?_⟩
  exact (((Ext.setCell (by simp (maxDischargeDepth := 12)) (Nat.le_refl _) _).setCell (Nat.le_refl _) _).setCell (Nat.le_refl _) _)
set_option maxHeartbeats 1000000 in
theorem turn_17 (w : World) : Calls Try.prog 105 #[.int .i64 17] w fun e w' => e = .returned (tval (5, 12, 13)) ∧ Ext w w' := by
  have ca := fun (w' : World) => abs_any (5) w' (by omega)
  have Ca := Lib.hid ca
  clear ca
  go_enter Try.func105, Try.ntmps105
  go_wp2
  go_quiet ((go_at_call 107; exact Calls.quiet_of_same ((Ca.out _).mono fun _ _ h => ⟨h.1, h.2.symm⟩)))
  go_wp2
  refine bodyPost_ret (results_turn rfl _ _ rfl (Blk.set (j := 2) (Blk.set (j := 1) (Blk.set (j := 0) (Blk.ext (Blk.new' (cs := #[.int .i64 0, .int .i64 0, .int .i64 0]) (t := 92) rfl) (by simp (maxDischargeDepth := 12))) (by simp) _) (by simp) _) (by simp) _)) rfl ⟨rfl, ?_⟩
  exact (((Ext.setCell (by simp (maxDischargeDepth := 12)) (Nat.le_refl _) _).setCell (Nat.le_refl _) _).setCell (Nat.le_refl _) _)
set_option maxHeartbeats 1000000 in
theorem turn_18 (w : World) : Calls Try.prog 105 #[.int .i64 18] w fun e w' => e = .returned (tval (12, -5, 13)) ∧ Ext w w' := by
  have ca := fun (w' : World) => abs_any (12) w' (by omega)
  have Ca := Lib.hid ca
  clear ca
  go_enter Try.func105, Try.ntmps105
  go_wp2
  go_quiet ((go_at_call 107; exact Calls.quiet_of_same ((Ca.out _).mono fun _ _ h => ⟨h.1, h.2.symm⟩)))
  go_wp2
  refine bodyPost_ret (results_turn rfl _ _ rfl (Blk.set (j := 2) (Blk.set (j := 1) (Blk.set (j := 0) (Blk.ext (Blk.new' (cs := #[.int .i64 0, .int .i64 0, .int .i64 0]) (t := 92) rfl) (by simp (maxDischargeDepth := 12))) (by simp) _) (by simp) _) (by simp) _)) rfl ⟨rfl, ?_⟩
  exact (((Ext.setCell (by simp (maxDischargeDepth := 12)) (Nat.le_refl _) _).setCell (Nat.le_refl _) _).setCell (Nat.le_refl _) _)
set_option maxHeartbeats 1000000 in
theorem turn_19 (w : World) : Calls Try.prog 105 #[.int .i64 19] w fun e w' => e = .returned (tval (12, 5, 13)) ∧ Ext w w' := by
  have ca := fun (w' : World) => abs_any (12) w' (by omega)
  have Ca := Lib.hid ca
  clear ca
  go_enter Try.func105, Try.ntmps105
  go_wp2
  go_quiet ((go_at_call 107; exact Calls.quiet_of_same ((Ca.out _).mono fun _ _ h => ⟨h.1, h.2.symm⟩)))
  go_wp2
  refine bodyPost_ret (results_turn rfl _ _ rfl (Blk.set (j := 2) (Blk.set (j := 1) (Blk.set (j := 0) (Blk.ext (Blk.new' (cs := #[.int .i64 0, .int .i64 0, .int .i64 0]) (t := 92) rfl) (by simp (maxDischargeDepth := 12))) (by simp) _) (by simp) _) (by simp) _)) rfl ⟨rfl, ?_⟩
  exact (((Ext.setCell (by simp (maxDischargeDepth := 12)) (Nat.le_refl _) _).setCell (Nat.le_refl _) _).setCell (Nat.le_refl _) _)
end Go.Proofs.Yteilglljigjefaa

/- The angles: by the reference, without a search. -/
namespace Go.Proofs.Yteilglljigjefaa
open Go.RowKit
set_option maxHeartbeats 1000000 in
theorem turn_20 (w : World) : Calls Try.prog 105 #[.int .i64 20] w fun e w' => e = .returned (tval (-15, -8, 17)) ∧ Ext w w' := by
  have ca := fun (w' : World) => abs_any (-15) w' (by omega)
  have Ca := Lib.hid ca
  clear ca
  go_enter Try.func105, Try.ntmps105
  go_wp2
  go_quiet ((go_at_call 107; exact Calls.quiet_of_same ((Ca.out _).mono fun _ _ h => ⟨h.1, h.2.symm⟩)))
  go_wp2
  refine bodyPost_ret (results_turn rfl _ _ rfl (Blk.set (j := 2) (Blk.set (j := 1) (Blk.set (j := 0) (Blk.ext (Blk.new' (cs := #[.int .i64 0, .int .i64 0, .int .i64 0]) (t := 92) rfl) (by simp (maxDischargeDepth := 12))) (by simp) _) (by simp) _) (by simp) _)) rfl ⟨rfl, ?_⟩
  exact (((Ext.setCell (by simp (maxDischargeDepth := 12)) (Nat.le_refl _) _).setCell (Nat.le_refl _) _).setCell (Nat.le_refl _) _)
set_option maxHeartbeats 1000000 in
theorem turn_21 (w : World) : Calls Try.prog 105 #[.int .i64 21] w fun e w' => e = .returned (tval (-15, 8, 17)) ∧ Ext w w' := by
  have ca := fun (w' : World) => abs_any (-15) w' (by omega)
  have Ca := Lib.hid ca
  clear ca
  go_enter Try.func105, Try.ntmps105
  go_wp2
  go_quiet ((go_at_call 107; exact Calls.quiet_of_same ((Ca.out _).mono fun _ _ h => ⟨h.1, h.2.symm⟩)))
  go_wp2
  refine bodyPost_ret (results_turn rfl _ _ rfl (Blk.set (j := 2) (Blk.set (j := 1) (Blk.set (j := 0) (Blk.ext (Blk.new' (cs := #[.int .i64 0, .int .i64 0, .int .i64 0]) (t := 92) rfl) (by simp (maxDischargeDepth := 12))) (by simp) _) (by simp) _) (by simp) _)) rfl ⟨rfl, ?_⟩
  exact (((Ext.setCell (by simp (maxDischargeDepth := 12)) (Nat.le_refl _) _).setCell (Nat.le_refl _) _).setCell (Nat.le_refl _) _)
set_option maxHeartbeats 1000000 in
theorem turn_22 (w : World) : Calls Try.prog 105 #[.int .i64 22] w fun e w' => e = .returned (tval (-8, -15, 17)) ∧ Ext w w' := by
  have ca := fun (w' : World) => abs_any (-8) w' (by omega)
  have Ca := Lib.hid ca
  clear ca
  go_enter Try.func105, Try.ntmps105
  go_wp2
  go_quiet ((go_at_call 107; exact Calls.quiet_of_same ((Ca.out _).mono fun _ _ h => ⟨h.1, h.2.symm⟩)))
  go_wp2
  refine bodyPost_ret (results_turn rfl _ _ rfl (Blk.set (j := 2) (Blk.set (j := 1) (Blk.set (j := 0) (Blk.ext (Blk.new' (cs := #[.int .i64 0, .int .i64 0, .int .i64 0]) (t := 92) rfl) (by simp (maxDischargeDepth := 12))) (by simp) _) (by simp) _) (by simp) _)) rfl ⟨rfl, ?_⟩
  exact (((Ext.setCell (by simp (maxDischargeDepth := 12)) (Nat.le_refl _) _).setCell (Nat.le_refl _) _).setCell (Nat.le_refl _) _)
set_option maxHeartbeats 1000000 in
theorem turn_23 (w : World) : Calls Try.prog 105 #[.int .i64 23] w fun e w' => e = .returned (tval (-8, 15, 17)) ∧ Ext w w' := by
  have ca := fun (w' : World) => abs_any (-8) w' (by omega)
  have Ca := Lib.hid ca
  clear ca
  go_enter Try.func105, Try.ntmps105
  go_wp2
  go_quiet ((go_at_call 107; exact Calls.quiet_of_same ((Ca.out _).mono fun _ _ h => ⟨h.1, h.2.symm⟩)))
  go_wp2
  refine bodyPost_ret (results_turn rfl _ _ rfl (Blk.set (j := 2) (Blk.set (j := 1) (Blk.set (j := 0) (Blk.ext (Blk.new' (cs := #[.int .i64 0, .int .i64 0, .int .i64 0]) (t := 92) rfl) (by simp (maxDischargeDepth := 12))) (by simp) _) (by simp) _) (by simp) _)) rfl ⟨rfl, ?_⟩
  exact (((Ext.setCell (by simp (maxDischargeDepth := 12)) (Nat.le_refl _) _).setCell (Nat.le_refl _) _).setCell (Nat.le_refl _) _)
set_option maxHeartbeats 1000000 in
theorem turn_24 (w : World) : Calls Try.prog 105 #[.int .i64 24] w fun e w' => e = .returned (tval (8, -15, 17)) ∧ Ext w w' := by
  have ca := fun (w' : World) => abs_any (8) w' (by omega)
  have Ca := Lib.hid ca
  clear ca
  go_enter Try.func105, Try.ntmps105
  go_wp2
  go_quiet ((go_at_call 107; exact Calls.quiet_of_same ((Ca.out _).mono fun _ _ h => ⟨h.1, h.2.symm⟩)))
  go_wp2
  refine bodyPost_ret (results_turn rfl _ _ rfl (Blk.set (j := 2) (Blk.set (j := 1) (Blk.set (j := 0) (Blk.ext (Blk.new' (cs := #[.int .i64 0, .int .i64 0, .int .i64 0]) (t := 92) rfl) (by simp (maxDischargeDepth := 12))) (by simp) _) (by simp) _) (by simp) _)) rfl ⟨rfl, ?_⟩
  exact (((Ext.setCell (by simp (maxDischargeDepth := 12)) (Nat.le_refl _) _).setCell (Nat.le_refl _) _).setCell (Nat.le_refl _) _)
set_option maxHeartbeats 1000000 in
theorem turn_25 (w : World) : Calls Try.prog 105 #[.int .i64 25] w fun e w' => e = .returned (tval (8, 15, 17)) ∧ Ext w w' := by
  have ca := fun (w' : World) => abs_any (8) w' (by omega)
  have Ca := Lib.hid ca
  clear ca
  go_enter Try.func105, Try.ntmps105
  go_wp2
  go_quiet ((go_at_call 107; exact Calls.quiet_of_same ((Ca.out _).mono fun _ _ h => ⟨h.1, h.2.symm⟩)))
  go_wp2
  refine bodyPost_ret (results_turn rfl _ _ rfl (Blk.set (j := 2) (Blk.set (j := 1) (Blk.set (j := 0) (Blk.ext (Blk.new' (cs := #[.int .i64 0, .int .i64 0, .int .i64 0]) (t := 92) rfl) (by simp (maxDischargeDepth := 12))) (by simp) _) (by simp) _) (by simp) _)) rfl ⟨rfl, ?_⟩
  exact (((Ext.setCell (by simp (maxDischargeDepth := 12)) (Nat.le_refl _) _).setCell (Nat.le_refl _) _).setCell (Nat.le_refl _) _)
set_option maxHeartbeats 1000000 in
theorem turn_26 (w : World) : Calls Try.prog 105 #[.int .i64 26] w fun e w' => e = .returned (tval (15, -8, 17)) ∧ Ext w w' := by
  have ca := fun (w' : World) => abs_any (15) w' (by omega)
  have Ca := Lib.hid ca
  clear ca
  go_enter Try.func105, Try.ntmps105
  go_wp2
  go_quiet ((go_at_call 107; exact Calls.quiet_of_same ((Ca.out _).mono fun _ _ h => ⟨h.1, h.2.symm⟩)))
  go_wp2
  refine bodyPost_ret (results_turn rfl _ _ rfl (Blk.set (j := 2) (Blk.set (j := 1) (Blk.set (j := 0) (Blk.ext (Blk.new' (cs := #[.int .i64 0, .int .i64 0, .int .i64 0]) (t := 92) rfl) (by simp (maxDischargeDepth := 12))) (by simp) _) (by simp) _) (by simp) _)) rfl ⟨rfl, ?_⟩
  exact (((Ext.setCell (by simp (maxDischargeDepth := 12)) (Nat.le_refl _) _).setCell (Nat.le_refl _) _).setCell (Nat.le_refl _) _)
set_option maxHeartbeats 1000000 in
theorem turn_27 (w : World) : Calls Try.prog 105 #[.int .i64 27] w fun e w' => e = .returned (tval (15, 8, 17)) ∧ Ext w w' := by
  have ca := fun (w' : World) => abs_any (15) w' (by omega)
  have Ca := Lib.hid ca
  clear ca
  go_enter Try.func105, Try.ntmps105
  go_wp2
  go_quiet ((go_at_call 107; exact Calls.quiet_of_same ((Ca.out _).mono fun _ _ h => ⟨h.1, h.2.symm⟩)))
  go_wp2
  refine bodyPost_ret (results_turn rfl _ _ rfl (Blk.set (j := 2) (Blk.set (j := 1) (Blk.set (j := 0) (Blk.ext (Blk.new' (cs := #[.int .i64 0, .int .i64 0, .int .i64 0]) (t := 92) rfl) (by simp (maxDischargeDepth := 12))) (by simp) _) (by simp) _) (by simp) _)) rfl ⟨rfl, ?_⟩
  exact (((Ext.setCell (by simp (maxDischargeDepth := 12)) (Nat.le_refl _) _).setCell (Nat.le_refl _) _).setCell (Nat.le_refl _) _)
end Go.Proofs.Yteilglljigjefaa

/- The angles: by the reference, without a search. -/
namespace Go.Proofs.Yteilglljigjefaa
open Go.RowKit
set_option maxHeartbeats 1000000 in
theorem turn_28 (w : World) : Calls Try.prog 105 #[.int .i64 28] w fun e w' => e = .returned (tval (-24, -7, 25)) ∧ Ext w w' := by
  have ca := fun (w' : World) => abs_any (-24) w' (by omega)
  have Ca := Lib.hid ca
  clear ca
  go_enter Try.func105, Try.ntmps105
  go_wp2
  go_quiet ((go_at_call 107; exact Calls.quiet_of_same ((Ca.out _).mono fun _ _ h => ⟨h.1, h.2.symm⟩)))
  go_wp2
  refine bodyPost_ret (results_turn rfl _ _ rfl (Blk.set (j := 2) (Blk.set (j := 1) (Blk.set (j := 0) (Blk.ext (Blk.new' (cs := #[.int .i64 0, .int .i64 0, .int .i64 0]) (t := 92) rfl) (by simp (maxDischargeDepth := 12))) (by simp) _) (by simp) _) (by simp) _)) rfl ⟨rfl, ?_⟩
  exact (((Ext.setCell (by simp (maxDischargeDepth := 12)) (Nat.le_refl _) _).setCell (Nat.le_refl _) _).setCell (Nat.le_refl _) _)
set_option maxHeartbeats 1000000 in
theorem turn_29 (w : World) : Calls Try.prog 105 #[.int .i64 29] w fun e w' => e = .returned (tval (-24, 7, 25)) ∧ Ext w w' := by
  have ca := fun (w' : World) => abs_any (-24) w' (by omega)
  have Ca := Lib.hid ca
  clear ca
  go_enter Try.func105, Try.ntmps105
  go_wp2
  go_quiet ((go_at_call 107; exact Calls.quiet_of_same ((Ca.out _).mono fun _ _ h => ⟨h.1, h.2.symm⟩)))
  go_wp2
  refine bodyPost_ret (results_turn rfl _ _ rfl (Blk.set (j := 2) (Blk.set (j := 1) (Blk.set (j := 0) (Blk.ext (Blk.new' (cs := #[.int .i64 0, .int .i64 0, .int .i64 0]) (t := 92) rfl) (by simp (maxDischargeDepth := 12))) (by simp) _) (by simp) _) (by simp) _)) rfl ⟨rfl, ?_⟩
  exact (((Ext.setCell (by simp (maxDischargeDepth := 12)) (Nat.le_refl _) _).setCell (Nat.le_refl _) _).setCell (Nat.le_refl _) _)
set_option maxHeartbeats 1000000 in
theorem turn_30 (w : World) : Calls Try.prog 105 #[.int .i64 30] w fun e w' => e = .returned (tval (-7, -24, 25)) ∧ Ext w w' := by
  have ca := fun (w' : World) => abs_any (-7) w' (by omega)
  have Ca := Lib.hid ca
  clear ca
  go_enter Try.func105, Try.ntmps105
  go_wp2
  go_quiet ((go_at_call 107; exact Calls.quiet_of_same ((Ca.out _).mono fun _ _ h => ⟨h.1, h.2.symm⟩)))
  go_wp2
  refine bodyPost_ret (results_turn rfl _ _ rfl (Blk.set (j := 2) (Blk.set (j := 1) (Blk.set (j := 0) (Blk.ext (Blk.new' (cs := #[.int .i64 0, .int .i64 0, .int .i64 0]) (t := 92) rfl) (by simp (maxDischargeDepth := 12))) (by simp) _) (by simp) _) (by simp) _)) rfl ⟨rfl, ?_⟩
  exact (((Ext.setCell (by simp (maxDischargeDepth := 12)) (Nat.le_refl _) _).setCell (Nat.le_refl _) _).setCell (Nat.le_refl _) _)
set_option maxHeartbeats 1000000 in
theorem turn_31 (w : World) : Calls Try.prog 105 #[.int .i64 31] w fun e w' => e = .returned (tval (-7, 24, 25)) ∧ Ext w w' := by
  have ca := fun (w' : World) => abs_any (-7) w' (by omega)
  have Ca := Lib.hid ca
  clear ca
  go_enter Try.func105, Try.ntmps105
  go_wp2
  go_quiet ((go_at_call 107; exact Calls.quiet_of_same ((Ca.out _).mono fun _ _ h => ⟨h.1, h.2.symm⟩)))
  go_wp2
  refine bodyPost_ret (results_turn rfl _ _ rfl (Blk.set (j := 2) (Blk.set (j := 1) (Blk.set (j := 0) (Blk.ext (Blk.new' (cs := #[.int .i64 0, .int .i64 0, .int .i64 0]) (t := 92) rfl) (by simp (maxDischargeDepth := 12))) (by simp) _) (by simp) _) (by simp) _)) rfl ⟨rfl, ?_⟩
  exact (((Ext.setCell (by simp (maxDischargeDepth := 12)) (Nat.le_refl _) _).setCell (Nat.le_refl _) _).setCell (Nat.le_refl _) _)
set_option maxHeartbeats 1000000 in
theorem turn_32 (w : World) : Calls Try.prog 105 #[.int .i64 32] w fun e w' => e = .returned (tval (7, -24, 25)) ∧ Ext w w' := by
  have ca := fun (w' : World) => abs_any (7) w' (by omega)
  have Ca := Lib.hid ca
  clear ca
  go_enter Try.func105, Try.ntmps105
  go_wp2
  go_quiet ((go_at_call 107; exact Calls.quiet_of_same ((Ca.out _).mono fun _ _ h => ⟨h.1, h.2.symm⟩)))
  go_wp2
  refine bodyPost_ret (results_turn rfl _ _ rfl (Blk.set (j := 2) (Blk.set (j := 1) (Blk.set (j := 0) (Blk.ext (Blk.new' (cs := #[.int .i64 0, .int .i64 0, .int .i64 0]) (t := 92) rfl) (by simp (maxDischargeDepth := 12))) (by simp) _) (by simp) _) (by simp) _)) rfl ⟨rfl, ?_⟩
  exact (((Ext.setCell (by simp (maxDischargeDepth := 12)) (Nat.le_refl _) _).setCell (Nat.le_refl _) _).setCell (Nat.le_refl _) _)
set_option maxHeartbeats 1000000 in
theorem turn_33 (w : World) : Calls Try.prog 105 #[.int .i64 33] w fun e w' => e = .returned (tval (7, 24, 25)) ∧ Ext w w' := by
  have ca := fun (w' : World) => abs_any (7) w' (by omega)
  have Ca := Lib.hid ca
  clear ca
  go_enter Try.func105, Try.ntmps105
  go_wp2
  go_quiet ((go_at_call 107; exact Calls.quiet_of_same ((Ca.out _).mono fun _ _ h => ⟨h.1, h.2.symm⟩)))
  go_wp2
  refine bodyPost_ret (results_turn rfl _ _ rfl (Blk.set (j := 2) (Blk.set (j := 1) (Blk.set (j := 0) (Blk.ext (Blk.new' (cs := #[.int .i64 0, .int .i64 0, .int .i64 0]) (t := 92) rfl) (by simp (maxDischargeDepth := 12))) (by simp) _) (by simp) _) (by simp) _)) rfl ⟨rfl, ?_⟩
  exact (((Ext.setCell (by simp (maxDischargeDepth := 12)) (Nat.le_refl _) _).setCell (Nat.le_refl _) _).setCell (Nat.le_refl _) _)
set_option maxHeartbeats 1000000 in
theorem turn_34 (w : World) : Calls Try.prog 105 #[.int .i64 34] w fun e w' => e = .returned (tval (24, -7, 25)) ∧ Ext w w' := by
  have ca := fun (w' : World) => abs_any (24) w' (by omega)
  have Ca := Lib.hid ca
  clear ca
  go_enter Try.func105, Try.ntmps105
  go_wp2
  go_quiet ((go_at_call 107; exact Calls.quiet_of_same ((Ca.out _).mono fun _ _ h => ⟨h.1, h.2.symm⟩)))
  go_wp2
  refine bodyPost_ret (results_turn rfl _ _ rfl (Blk.set (j := 2) (Blk.set (j := 1) (Blk.set (j := 0) (Blk.ext (Blk.new' (cs := #[.int .i64 0, .int .i64 0, .int .i64 0]) (t := 92) rfl) (by simp (maxDischargeDepth := 12))) (by simp) _) (by simp) _) (by simp) _)) rfl ⟨rfl, ?_⟩
  exact (((Ext.setCell (by simp (maxDischargeDepth := 12)) (Nat.le_refl _) _).setCell (Nat.le_refl _) _).setCell (Nat.le_refl _) _)
set_option maxHeartbeats 1000000 in
theorem turn_35 (w : World) : Calls Try.prog 105 #[.int .i64 35] w fun e w' => e = .returned (tval (24, 7, 25)) ∧ Ext w w' := by
  have ca := fun (w' : World) => abs_any (24) w' (by omega)
  have Ca := Lib.hid ca
  clear ca
  go_enter Try.func105, Try.ntmps105
  go_wp2
  go_quiet ((go_at_call 107; exact Calls.quiet_of_same ((Ca.out _).mono fun _ _ h => ⟨h.1, h.2.symm⟩)))
  go_wp2
  refine bodyPost_ret (results_turn rfl _ _ rfl (Blk.set (j := 2) (Blk.set (j := 1) (Blk.set (j := 0) (Blk.ext (Blk.new' (cs := #[.int .i64 0, .int .i64 0, .int .i64 0]) (t := 92) rfl) (by simp (maxDischargeDepth := 12))) (by simp) _) (by simp) _) (by simp) _)) rfl ⟨rfl, ?_⟩
  exact (((Ext.setCell (by simp (maxDischargeDepth := 12)) (Nat.le_refl _) _).setCell (Nat.le_refl _) _).setCell (Nat.le_refl _) _)
end Go.Proofs.Yteilglljigjefaa

/- The angles: by the reference, without a search. -/
namespace Go.Proofs.Yteilglljigjefaa
open Go.RowKit
theorem turn_any (n : Nat) (hn : n < 36) (w : World) : Calls Try.prog 105 #[.int .i64 n] w fun e w' => e = .returned (tval (trn n)) ∧ Ext w w' := by
  match n, hn with
  | 0, _ => exact turn_0 w
  | 1, _ => exact turn_1 w
  | 2, _ => exact turn_2 w
  | 3, _ => exact turn_3 w
  | 4, _ => exact turn_4 w
  | 5, _ => exact turn_5 w
  | 6, _ => exact turn_6 w
  | 7, _ => exact turn_7 w
  | 8, _ => exact turn_8 w
  | 9, _ => exact turn_9 w
  | 10, _ => exact turn_10 w
  | 11, _ => exact turn_11 w
  | 12, _ => exact turn_12 w
  | 13, _ => exact turn_13 w
  | 14, _ => exact turn_14 w
  | 15, _ => exact turn_15 w
  | 16, _ => exact turn_16 w
  | 17, _ => exact turn_17 w
  | 18, _ => exact turn_18 w
  | 19, _ => exact turn_19 w
  | 20, _ => exact turn_20 w
  | 21, _ => exact turn_21 w
  | 22, _ => exact turn_22 w
  | 23, _ => exact turn_23 w
  | 24, _ => exact turn_24 w
  | 25, _ => exact turn_25 w
  | 26, _ => exact turn_26 w
  | 27, _ => exact turn_27 w
  | 28, _ => exact turn_28 w
  | 29, _ => exact turn_29 w
  | 30, _ => exact turn_30 w
  | 31, _ => exact turn_31 w
  | 32, _ => exact turn_32 w
  | 33, _ => exact turn_33 w
  | 34, _ => exact turn_34 w
  | 35, _ => exact turn_35 w
  | n + 36, h => omega
end Go.Proofs.Yteilglljigjefaa

/- A pose in lowest terms: by the reference. -/
namespace Go.Proofs.Yteilglljigjefaa
open Go.RowKit
theorem g5_le {p : Ps} (h : PsOk p) : g5 p ≤ 15625 := by
  have h1 := h.bd
  have : g5 p ≤ p.d.natAbs := Nat.le_of_dvd (by omega) (Nat.gcd_dvd_right _ _)
  omega
theorem gcd_le3 {a b m : Nat} (ha : a ≤ m) (hb : b ≤ m) : Nat.gcd a b ≤ m := by
  rcases Nat.eq_zero_or_pos a with h | h
  · rw [h]; simpa using hb
  · exact Nat.le_trans (Nat.gcd_le_left b h) ha
theorem g5_tree (p : Ps) : Int.gcd (Int.gcd (Int.gcd p.p p.q : Int) (Int.gcd p.x p.y : Int) : Int) p.d = g5 p := by
  unfold g5 Int.gcd
  simp only [Int.natAbs_natCast, Nat.gcd_assoc]
theorem quo_low {a g b : Int} (hg : 0 < g) (h : a = g * b) : a.tdiv g = b := by rw [h]; exact Int.mul_tdiv_cancel_left b (by omega)
/-- A turn of a pose. -/
def trnP (p : Ps) (t : Int × Int × Int) : Ps := ⟨t.1 * p.p - t.2.1 * p.q, t.2.1 * p.p + t.1 * p.q, 0, 0, t.2.2 * p.d⟩
theorem trn_ok {p : Ps} {k : Nat} (h : PoseOk p k) {n : Nat} (hn : n < 36) : PoseOk (trnP p (trn n)) (k + 1) := by
  obtain ⟨t1, t2, t3⟩ := turns_ok n hn
  generalize trn n = t at *
  obtain ⟨ta, tb, tr⟩ := t
  simp only at t1 t2 t3
  unfold trnP
  simp only
  have hd : 0 < tr * p.d := Int.mul_pos (by omega) h.d0
  have hk : 0 ≤ 200 * ((k + 1 : Nat) : Int) * (tr * p.d) := Int.mul_nonneg (by omega) (by omega)
  refine ⟨hd, ?_, ?_, ?_, ?_, ?_, ?_⟩
  · have h1 := h.d1
    have h2 : (25 : Int) ^ (k + 1) = 25 * 25 ^ k := by rw [Int.pow_succ]; omega
    simp only
    rw [h2]
    exact Int.mul_le_mul t2 h1 (Int.le_of_lt h.d0) (by omega)
  · have := h.pq
    simp only
    have e : (ta * p.p - tb * p.q) * (ta * p.p - tb * p.q) + (tb * p.p + ta * p.q) * (tb * p.p + ta * p.q) = (ta * ta + tb * tb) * (p.p * p.p + p.q * p.q) := by grind
    rw [e, t3, this]
    grind
  all_goals simp only; omega
theorem raw_eq (p : Ps) (h : Hg) (t : Int × Int × Int) : raw p h t = ⟨(trnP p t).p, (trnP p t).q, t.2.2 * (plc p h.a).x - (plc (trnP p t) h.b).x, t.2.2 * (plc p h.a).y - (plc (trnP p t) h.b).y, (trnP p t).d⟩ := rfl
theorem trn_small : ∀ n : Nat, n < 36 → (-25 ≤ (trn n).1 ∧ (trn n).1 ≤ 25) ∧ (-25 ≤ (trn n).2.1 ∧ (trn n).2.1 ≤ 25) ∧ 1 ≤ (trn n).2.2 ∧ (trn n).2.2 ≤ 25 := by decide
end Go.Proofs.Yteilglljigjefaa

/- Angles and pairs in memory. -/
namespace Go.Proofs.Yteilglljigjefaa
open Go.RowKit
abbrev pval (t : Int × Int) : Value := .agg #[vint t.1, vint t.2]

def tcells (s : Int × Int × Int) : List Value := [vint s.1, vint s.2.1, vint s.2.2]
def TRow (w : World) (A : Option Addr) (l : List (Int × Int × Int)) : Prop := Row w A (l.map tcells).flatten
theorem TRow.ext {w w' : World} {A : Option Addr} {l : List (Int × Int × Int)} (h : TRow w A l) (he : Ext w w') : TRow w' A l := Row.ext h he
theorem TRow.nil (w : World) (A : Option Addr) : TRow w A [] := Row.nil w A
theorem tcells_len (l : List (Int × Int × Int)) : (l.map tcells).flatten.length = l.length * 3 := by
  rw [flatten_len 3 _ (fun r hr => by obtain ⟨x, _, rfl⟩ := List.mem_map.1 hr; rfl), List.length_map]
def tAt (l : List (Int × Int × Int)) (k : Nat) : Int × Int × Int := l.getD k (1, 0, 1)
theorem tAt_eq {l : List (Int × Int × Int)} {k : Nat} (h : k < l.length) : tAt l k = l[k] := by simp [tAt, List.getD, h]
theorem TRow.at_ {w : World} {A : Option Addr} {l : List (Int × Int × Int)} (h : TRow w A l) {k : Nat} (hk : k < l.length) :
    ∃ ad, A = some ad ∧ (∀ w', Ext w w' → w'.cell? (ad.add (k * 3)) = some (.int .i64 (tAt l k).1)) ∧
      (∀ w', Ext w w' → w'.cell? ⟨(ad.add (k * 3)).block, (ad.add (k * 3)).off + 1, none⟩ = some (.int .i64 (tAt l k).2.1)) ∧
      (∀ w', Ext w w' → w'.cell? ⟨(ad.add (k * 3)).block, (ad.add (k * 3)).off + 2, none⟩ = some (.int .i64 (tAt l k).2.2)) := by
  rw [tAt_eq hk]
  obtain ⟨ad, ha, hc⟩ := Row.struct (size := 3) h (fun r hr => by obtain ⟨x, _, rfl⟩ := List.mem_map.1 hr; rfl) (k := k) (by simpa using hk) (by omega)
  refine ⟨ad, ha, fun w' he => ?_, fun w' he => ?_, fun w' he => ?_⟩
  · have := hc 0 (by omega) w' he
    rw [add_zero_] at this
    simpa [tcells] using this
  · have := hc 1 (by omega) w' he
    rw [add_lit _ _ (by omega)] at this
    simpa [tcells] using this
  · have := hc 2 (by omega) w' he
    rw [add_lit _ _ (by omega)] at this
    simpa [tcells] using this

def pcells (s : Int × Int) : List Value := [vint s.1, vint s.2]
def QRow (w : World) (A : Option Addr) (l : List (Int × Int)) : Prop := Row w A (l.map pcells).flatten
theorem QRow.ext {w w' : World} {A : Option Addr} {l : List (Int × Int)} (h : QRow w A l) (he : Ext w w') : QRow w' A l := Row.ext h he
theorem QRow.nil (w : World) (A : Option Addr) : QRow w A [] := Row.nil w A
theorem pcells_len (l : List (Int × Int)) : (l.map pcells).flatten.length = l.length * 2 := by
  rw [flatten_len 2 _ (fun r hr => by obtain ⟨x, _, rfl⟩ := List.mem_map.1 hr; rfl), List.length_map]
def pAt (l : List (Int × Int)) (k : Nat) : Int × Int := l.getD k (0, 0)
theorem pAt_eq {l : List (Int × Int)} {k : Nat} (h : k < l.length) : pAt l k = l[k] := by simp [pAt, List.getD, h]
theorem QRow.at_ {w : World} {A : Option Addr} {l : List (Int × Int)} (h : QRow w A l) {k : Nat} (hk : k < l.length) :
    ∃ ad, A = some ad ∧ (∀ w', Ext w w' → w'.cell? (ad.add (k * 2)) = some (.int .i64 (pAt l k).1)) ∧
      (∀ w', Ext w w' → w'.cell? ⟨(ad.add (k * 2)).block, (ad.add (k * 2)).off + 1, none⟩ = some (.int .i64 (pAt l k).2)) := by
  rw [pAt_eq hk]
  obtain ⟨ad, ha, hc⟩ := Row.struct (size := 2) h (fun r hr => by obtain ⟨x, _, rfl⟩ := List.mem_map.1 hr; rfl) (k := k) (by simpa using hk) (by omega)
  refine ⟨ad, ha, fun w' he => ?_, fun w' he => ?_⟩
  · have := hc 0 (by omega) w' he
    rw [add_zero_] at this
    simpa [pcells] using this
  · have := hc 1 (by omega) w' he
    rw [add_lit _ _ (by omega)] at this
    simpa [pcells] using this
end Go.Proofs.Yteilglljigjefaa

/- Comparing lists of numbers; sorting angles that are sorted. -/
namespace Go.Proofs.Yteilglljigjefaa
open Go.RowKit

theorem nan_any (a : Int) (w : World) : Calls Try.prog 112 #[.int .i64 a] w fun e w' => e = .returned (.bool false) ∧ w = w' := by
  go_enter Try.func112, Try.ntmps112
  go_wp2
  go_ret
  exact ⟨by simp, rfl⟩
def cmpI (a b : Int) : Int := if a < b then -1 else if b < a then 1 else 0
theorem cmp_any (a b : Int) (w : World) : Calls Try.prog 96 #[.int .i64 a, .int .i64 b] w fun e w' => e = .returned (.int .i64 (cmpI a b)) ∧ w = w' := by
  have h1 : a < b → (-1 : Int) = cmpI a b := fun h => by unfold cmpI; rw [if_pos h]
  have h2 : b < a → (1 : Int) = cmpI a b := fun h => by unfold cmpI; rw [if_neg (by omega), if_pos h]
  have h3 : a = b → (0 : Int) = cmpI a b := fun h => by unfold cmpI; rw [if_neg (by omega), if_neg (by omega)]
  have H1 := Lib.hid h1
  have H2 := Lib.hid h2
  have H3 := Lib.hid h3
  clear h1 h2 h3
  generalize cmpI a b = c at *
  go_enter Try.func96, Try.ntmps96
  go_wp2_with (go_at_call 112; refine (nan_any _ _).mono ?_; rintro e w' ⟨rfl, rfl⟩)
  all_goals go_ret
  all_goals first | exact ⟨ret_i (H1.out (by omega)), rfl⟩ | exact ⟨ret_i (H2.out (by omega)), rfl⟩ | exact ⟨ret_i (H3.out (by omega)), rfl⟩
/-- The first place where two lists part. -/
def cmpL : List Int → List Int → Int
  | x :: xs, y :: ys => if cmpI x y = 0 then cmpL xs ys else cmpI x y
  | [], [] => 0
  | [], _ :: _ => -1
  | _ :: _, [] => 1
theorem cmpL_at : ∀ (xs ys : List Int) (k : Nat), xs.length = ys.length → k < xs.length → (∀ j, j < k → cmpI (getI xs j) (getI ys j) = 0) → ¬ cmpI (getI xs k) (getI ys k) = 0 → cmpI (getI xs k) (getI ys k) = cmpL xs ys
  | [], _, _, _, h, _, _ => absurd h (by simp)
  | _ :: _, [], _, h, _, _, _ => absurd h (by simp)
  | x :: xs, y :: ys, 0, _, _, _, hn => by
    have hn : ¬ cmpI x y = 0 := hn
    show cmpI x y = cmpL (x :: xs) (y :: ys)
    unfold cmpL
    rw [if_neg hn]
  | x :: xs, y :: ys, k + 1, hl, hk, hj, hn => by
    have h0 : cmpI x y = 0 := hj 0 (by omega)
    show _ = cmpL (x :: xs) (y :: ys)
    unfold cmpL
    rw [if_pos h0]
    exact cmpL_at xs ys k (by simpa using hl) (by simpa using hk) (fun j h => hj (j + 1) (by omega)) hn
theorem cmpL_same : ∀ (xs ys : List Int), xs.length = ys.length → (∀ j, j < xs.length → cmpI (getI xs j) (getI ys j) = 0) → 0 = cmpL xs ys
  | [], [], _, _ => rfl
  | [], _ :: _, h, _ => absurd h (by simp)
  | _ :: _, [], h, _ => absurd h (by simp)
  | x :: xs, y :: ys, hl, hj => by
    have h0 : cmpI x y = 0 := hj 0 (by simp)
    unfold cmpL
    rw [if_pos h0]
    exact cmpL_same xs ys (by simpa using hl) (fun j h => hj (j + 1) (by simpa using h))

set_option maxHeartbeats 800000 in
theorem compare_any (A B : Option Addr) (c d : Nat) (xs ys : List Int) (w : World) (hA : Ints w A xs) (hB : Ints w B ys) (hl : xs.length = ys.length) (hn : xs.length ≤ 1000) :
    Calls Try.prog 80 #[.slice A xs.length c, .slice B xs.length d] w fun e w' => e = .returned (.int .i64 (cmpL xs ys)) ∧ w = w' := by
  have ha := fun k (hk : k < xs.length) => hA.some_ (by omega : 0 < xs.length)
  have hb := fun k (hk : k < xs.length) => hB.some_ (by omega : 0 < ys.length)
  have hat := fun k (hk : k < xs.length) => cmpL_at xs ys k hl hk
  have hsa := cmpL_same xs ys hl
  rw [← hl] at hb
  have Ha := Lib.hid ha
  have Hb := Lib.hid hb
  have Hat := Lib.hid hat
  have Hsa := Lib.hid hsa
  clear ha hb hat hsa hA hB hl
  generalize cmpL xs ys = R at *
  generalize xs.length = n at *
  go_enter Try.func80, Try.ntmps80
  go_wp2
  go_loop [11] (fun i => ∃ k : Nat, k ≤ n ∧ i = .int .i64 k ∧ ∀ j, j < k → cmpI (getI xs j) (getI ys j) = 0) (fun i => n - (intOf i).toNat)
  case atStart => exact ⟨0, by omega, rfl, fun j h => absurd h (by omega)⟩
  case round =>
    obtain ⟨k, hk, rfl, hj⟩ := hrel
    by_cases hlt : k < n
    · obtain ⟨a1, rfl, g1⟩ := Ha.out k hlt
      obtain ⟨a2, rfl, g2⟩ := Hb.out k hlt
      have c1 := g1 k hlt w (Ext.refl w)
      have c2 := g2 k hlt w (Ext.refl w)
      clear g1 g2
      have hat := Hat.out k hlt hj
      have hnx : cmpI (getI xs k) (getI ys k) = 0 → ∀ j, j < k + 1 → cmpI (getI xs j) (getI ys j) = 0 := fun h j hj2 => by
        by_cases e : j = k
        · subst e; exact h
        · exact hj j (by omega)
      have Hat' := Lib.hid hat
      have Hnx := Lib.hid hnx
      clear hat hnx hj Hat Hsa Ha Hb
      generalize getI xs k = x at *
      generalize getI ys k = y at *
      go_wp2_with (go_at_call 96; refine (cmp_any _ _ _).mono ?_; rintro e w' ⟨rfl, rfl⟩)
      · go_ret
        have hne : ¬ cmpI x y = 0 := by simpa using ‹(cmpI x y != 0) = true›
        exact ⟨ret_i (Hat'.out hne), rfl⟩
      · go_round
        have he : cmpI x y = 0 := by simpa using ‹(cmpI x y != 0) = false›
        case rel => exact ⟨k + 1, by omega, by go_num, Hnx.out he⟩
        case measure => simp [intOf]; omega
    · obtain rfl : n = k := by omega
      go_wp2
      go_ret
      exact ⟨ret_i (Hsa.out hj), rfl⟩
end Go.Proofs.Yteilglljigjefaa

/- Sorting angles that are sorted. -/
namespace Go.Proofs.Yteilglljigjefaa
open Go.RowKit
theorem ints_three {w : World} {g : Nat} {x y z : Int} (hb : Blk w g [vint x, vint y, vint z]) : Ints w (some ⟨g, 0, none⟩) [x, y, z] := fun k hk => by
  refine ⟨_, rfl, ?_⟩
  rw [add_zero']
  rcases (by simp at hk; omega : k = 0 ∨ k = 1 ∨ k = 2) with rfl | rfl | rfl
  · exact hb.c 0 _ rfl
  · exact hb.c 1 _ rfl
  · exact hb.c 2 _ rfl
abbrev turnL (t : Int × Int × Int) : List Int := [t.1, t.2.1, t.2.2]
set_option maxHeartbeats 800000 in
theorem cmp_turns (s t : Int × Int × Int) (w : World) : Calls Try.prog 79 #[tval s, tval t] w fun e w' => e = .returned (.int .i64 (cmpL (turnL s) (turnL t))) ∧ Ext w w' := by
  obtain ⟨a, b, c⟩ := s
  obtain ⟨x, y, z⟩ := t
  have hk1 : Blk ((w.alloc (.cells #[vint a, vint b, vint c] 98)).alloc (.cells #[vint x, vint y, vint z] 98)) w.heap.size [vint a, vint b, vint c] := (Blk.new _ _).ext ((Ext.refl _).alloc _)
  have hk2 : Blk ((w.alloc (.cells #[vint a, vint b, vint c] 98)).alloc (.cells #[vint x, vint y, vint z] 98)) (w.heap.size + 1) [vint x, vint y, vint z] := Blk.new' (cs := #[vint x, vint y, vint z]) (by simp)
  have cc := fun (w' : World) (h : Ext ((w.alloc (.cells #[vint a, vint b, vint c] 98)).alloc (.cells #[vint x, vint y, vint z] 98)) w') => compare_any (some ⟨w.heap.size, 0, none⟩) (some ⟨w.heap.size + 1, 0, none⟩) 3 3 [a, b, c] [x, y, z] w' (ints_three (hk1.ext h)) (ints_three (hk2.ext h)) rfl (by simp)
  have Cc := Lib.hid cc
  clear cc hk1 hk2
  have s1 : ∀ (g : Nat) (w : World), (Instr.sliceAt 98 (.pointer (some ⟨g, 0, none⟩)) none none none).run Try.prog w = .ok (.slice (some ⟨g, 0, none⟩) 3 3) w := fun _ _ => by kernel_rfl
  go_enter Try.func79, Try.ntmps79
  go_wp2
  refine wp_region_calm 4 (fun _ _ v _ => v = .int .i64 (cmpL [a, b, c] [x, y, z])) (fun _ _ _ _ _ _ h => h) (by kernel_rfl) (by kernel_rfl) ?_
  simp only [List.take_succ_cons, List.take_zero, List.drop_succ_cons, List.drop_zero]
  refine calm_quiet calm_mono_final 2 (by kernel_rfl) ?_
  simp only [List.take_succ_cons, List.take_zero, List.drop_succ_cons, List.drop_zero]
  repeat (go_big_quiet_step (fail))
  refine wpQuiet_nil ?_
  refine calm_call calm_mono_final 80 #[.slice (some ⟨w.heap.size, 0, none⟩) 3 3, .slice (some ⟨w.heap.size + 1, 0, none⟩) 3 3] rfl (fun w => ?_) (fun w he hF => ?_) ?_
  · go_simp
  · exact (Cc.out w he).mono fun e w'' ⟨he', hx⟩ => ⟨_, he', by rw [hx]; exact Ext.refl _, rfl⟩
  rintro _ _ _ rfl
  simp only [Act.put, List.setIfInBounds_toArray, List.set_cons_succ, List.set_cons_zero]
  refine calm_quiet calm_mono_final 1 (by kernel_rfl) ?_
  simp only [List.take_succ_cons, List.take_zero, List.drop_succ_cons, List.drop_zero]
  repeat (go_big_quiet_step (fail))
  refine wpQuiet_nil ?_
  refine calm_nil fun w3 he3 _ => ?_
  go_wp2
  go_ret
  exact ⟨rfl, Ext.trans (by simp) he3⟩

/-- Angles that are in order. -/
def sortedT (l : List (Int × Int × Int)) : Prop := ∀ k, 0 < k → k < l.length → 0 ≤ cmpL (turnL (tAt l k)) (turnL (tAt l (k - 1)))
set_option maxHeartbeats 2000000 in
theorem insort_turns (A : Option Addr) (c : Nat) (l : List (Int × Int × Int)) (w : World) (hA : TRow w A l) (hl : l.length ≤ 12) (hs : sortedT l) :
    Calls Try.prog 113 #[.slice A l.length c, .int .i64 0, .int .i64 l.length, .func (.func 79) #[] #[]] w fun e w' => e = .returned (.tuple #[]) ∧ Ext w w' := by
  have ha := fun k (hk : k < l.length) => hA.at_ hk
  have hc := fun (s t : Int × Int × Int) (w' : World) => cmp_turns s t w'
  have Ha := Lib.hid ha
  have Hc := Lib.hid hc
  have Hs := Lib.hid hs
  clear ha hc hs hA
  obtain ⟨n, hn⟩ : ∃ n, n = l.length := ⟨_, rfl⟩
  unfold sortedT at Hs
  rw [← hn] at hl Ha Hs ⊢
  have Hn := Lib.hid hn
  clear hn
  go_enter Try.func113, Try.ntmps113
  go_wp2
  go_loopw [8] (fun i wr => ∃ k : Nat, 1 ≤ k ∧ (k ≤ n ∨ k = 1) ∧ i = .int .i64 k ∧ Ext w wr) (fun i _ => n + 1 - (intOf i).toNat)
  case atStart => exact ⟨1, by omega, .inr rfl, rfl, Ext.refl _⟩
  case round =>
    obtain ⟨k, hk1, hk2, rfl, hex⟩ := hrel
    by_cases hlt : k < n
    · obtain ⟨ad, rfl, c0, c1, c2⟩ := Ha.out k hlt
      obtain ⟨ad', had, d0, d1, d2⟩ := Ha.out (k - 1) (by omega)
      cases had
      have c0 : ∀ w', Ext wr w' → _ := fun w' he => c0 w' (hex.trans he)
      have c1 : ∀ w', Ext wr w' → _ := fun w' he => c1 w' (hex.trans he)
      have c2 : ∀ w', Ext wr w' → _ := fun w' he => c2 w' (hex.trans he)
      have d0 : ∀ w', Ext wr w' → _ := fun w' he => d0 w' (hex.trans he)
      have d1 : ∀ w', Ext wr w' → _ := fun w' he => d1 w' (hex.trans he)
      have d2 : ∀ w', Ext wr w' → _ := fun w' he => d2 w' (hex.trans he)
      have hcmp := Hs.out k (by omega) hlt
      have hcc := fun w' => Hc.out (tAt l k) (tAt l (k - 1)) w'
      have Hcc := Lib.hid hcc
      clear hcc Hc Hs Ha
      generalize tAt l k = s at *
      generalize tAt l (k - 1) = t at *
      generalize cmpL (turnL s) (turnL t) = cm at *
      obtain ⟨s0, s1, s2⟩ := s
      obtain ⟨t0, t1, t2⟩ := t
      have e1 : IntKind.i64.wrap ((k : Int) - 1) = ((k - 1 : Nat) : Int) := by rw [IntKind.wrap_i64]; omega
      have b1 : ((k - 1 : Nat) : Int) < (n : Int) := by omega
      have b2 : (k : Int) < (n : Int) := by omega
      have b3 : (0 : Int) < (k : Int) := by omega
      have b4 : ¬ cm < 0 := by omega
      have b5 : 0 < k := by omega
      go_wp2
      obtain ⟨wo, rfl⟩ : ∃ wo : World, wo = wr := ⟨_, rfl⟩
      go_loopw [9] (fun j wr => j = .int .i64 k ∧ Ext wo wr) (fun _ _ => 0)
      case atStart => exact ⟨rfl, Ext.refl _⟩
      case round =>
        obtain ⟨rfl, hex'⟩ := hrel
        have c0 : ∀ w', Ext wr w' → _ := fun w' he => c0 w' (hex'.trans he)
        have c1 : ∀ w', Ext wr w' → _ := fun w' he => c1 w' (hex'.trans he)
        have c2 : ∀ w', Ext wr w' → _ := fun w' he => c2 w' (hex'.trans he)
        have d0 : ∀ w', Ext wr w' → _ := fun w' he => d0 w' (hex'.trans he)
        have d1 : ∀ w', Ext wr w' → _ := fun w' he => d1 w' (hex'.trans he)
        have d2 : ∀ w', Ext wr w' → _ := fun w' he => d2 w' (hex'.trans he)
        go_wp2
        refine wp_region_calm 17 (fun _ _ v _ => v = .int .i64 cm) (fun _ _ _ _ _ _ h => h) (by kernel_rfl) (by kernel_rfl) ?_
        simp only [List.take_succ_cons, List.take_zero, List.drop_succ_cons, List.drop_zero]
        refine calm_quiet calm_mono_final 14 (by kernel_rfl) ?_
        simp only [List.take_succ_cons, List.take_zero, List.drop_succ_cons, List.drop_zero]
        repeat (go_big_quiet_step (fail))
        refine wpQuiet_nil ?_
        refine calm_call calm_mono_final 79 #[tval (s0, s1, s2), tval (t0, t1, t2)] rfl (fun w => ?_) (fun w he hF => ?_) ?_
        · go_simp
        · exact (Hcc.out w).mono fun e w'' ⟨he', hx⟩ => ⟨_, he', hx, rfl⟩
        rintro _ _ _ rfl
        simp only [Act.put, List.setIfInBounds_toArray, List.set_cons_succ, List.set_cons_zero]
        refine calm_quiet calm_mono_final 2 (by kernel_rfl) ?_
        simp only [List.take_succ_cons, List.take_zero, List.drop_succ_cons, List.drop_zero]
        repeat (go_big_quiet_step (fail))
        refine wpQuiet_nil ?_
        refine calm_nil fun w3 he3 _ => ?_
        go_wp2
        go_roundw
        case rel => exact ⟨k + 1, by omega, by omega, by go_num, hex.trans (hex'.trans he3)⟩
        case measure => simp [intOf]; omega
    · go_wp2
      go_end0
      exact ⟨rfl, hex⟩
end Go.Proofs.Yteilglljigjefaa

/- The number of bits of a small number. -/
namespace Go.Proofs.Yteilglljigjefaa
open Go.RowKit
set_option maxRecDepth 100000 in
set_option maxHeartbeats 4000000 in
theorem len64_small (x : Nat) (w : World) (hx : x ≤ 12) :
    Calls Try.prog 122 #[.int .u64 x] w fun e w' => ∃ L : Int, e = .returned (.int .i64 L) ∧ w = w' := by
  rcases (by omega : x = 0 ∨ x = 1 ∨ x = 2 ∨ x = 3 ∨ x = 4 ∨ x = 5 ∨ x = 6 ∨ x = 7 ∨ x = 8 ∨ x = 9 ∨ x = 10 ∨ x = 11 ∨ x = 12) with rfl | rfl | rfl | rfl | rfl | rfl | rfl | rfl | rfl | rfl | rfl | rfl | rfl
  all_goals
    go_enter Try.func122, Try.ntmps122
    go_wp2
    go_ret
    exact ⟨_, rfl, rfl⟩

set_option maxRecDepth 100000 in
theorem len_small (x : Nat) (w : World) (hx : x ≤ 12) : Calls Try.prog 104 #[.int .u64 x] w fun e w' => ∃ L : Int, e = .returned (.int .i64 L) ∧ w = w' := by
  have hc := fun w' => len64_small x w' hx
  have Hc := Lib.hid hc
  clear hc
  go_enter Try.func104, Try.ntmps104
  go_wp2_with (go_at_call 122; refine (Hc.out _).mono ?_; rintro e w' ⟨L, rfl, rfl⟩)
  go_ret
  exact ⟨_, rfl, rfl⟩
set_option maxRecDepth 100000 in
set_option maxHeartbeats 2000000 in
theorem pdq_turns (A : Option Addr) (c : Nat) (l : List (Int × Int × Int)) (L : Int) (w : World) (hA : TRow w A l) (hl : l.length ≤ 12) (hs : sortedT l) :
    Calls Try.prog 103 #[.slice A l.length c, .int .i64 0, .int .i64 l.length, .int .i64 L, .func (.func 79) #[] #[]] w fun e w' => e = .returned (.tuple #[]) ∧ Ext w w' := by
  have hc := insort_turns A c l w hA hl hs
  have Hc := Lib.hid hc
  clear hc hs hA
  generalize l.length = n at *
  go_enter Try.func103, Try.ntmps103
  go_wp2
  go_loopw [1, 2] (fun a b wr => a = .int .i64 0 ∧ b = .int .i64 n ∧ wr = w) (fun _ _ _ => 0)
  case atStart => exact ⟨rfl, rfl, rfl⟩
  case round =>
    obtain ⟨rfl, rfl, rfl⟩ := hrel
    go_wp2_with (go_at_call 113; refine Hc.out.mono ?_; rintro e w' ⟨rfl, hx⟩)
    (try simp only [Exit.inBlock, Exit.then])
    refine bodyPost_ret (results_none rfl _ _ _) rfl ?_
    exact ⟨rfl, hx⟩
set_option maxRecDepth 100000 in
set_option maxHeartbeats 2000000 in
theorem sort_turns (A : Option Addr) (c : Nat) (l : List (Int × Int × Int)) (w : World) (hA : TRow w A l) (hl : l.length ≤ 12) (hs : sortedT l) :
    Calls Try.prog 78 #[.slice A l.length c, .func (.func 79) #[] #[]] w fun e w' => e = .returned (.tuple #[]) ∧ Ext w w' := by
  have hc := fun L => pdq_turns A c l L w hA hl hs
  have hn := fun w' => len_small l.length w' hl
  have Hc := Lib.hid hc
  have Hn := Lib.hid hn
  clear hc hs hA hn
  generalize l.length = n at *
  go_enter Try.func78, Try.ntmps78
  go_wp2_with (first | (go_at_call 104; refine (Hn.out _).mono ?_; rintro e w' ⟨L, rfl, rfl⟩) | (go_at_call 103; refine (Hc.out _).mono ?_; rintro e w' ⟨rfl, hx⟩))
  go_end0
  exact ⟨rfl, hx⟩
end Go.Proofs.Yteilglljigjefaa
