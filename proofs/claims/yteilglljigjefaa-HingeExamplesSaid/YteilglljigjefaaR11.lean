/- The pose that follows: by the reference. -/
import Derived.Test.YteilglljigjefaaR10
import Derived.Deep.WholeRow
namespace Go.Proofs.Yteilglljigjefaa
open Go.RowKit
set_option maxRecDepth 100000 in
set_option maxHeartbeats 8000000 in
theorem next_core (P Q X Y D ta tb tr ax ay bx bY ang ux uy vx vy lp lq lx ly ld : Int) (w : World)
    (f1 : -390625 ≤ ta * P ∧ ta * P ≤ 390625) (f2 : -390625 ≤ tb * Q ∧ tb * Q ≤ 390625) (f3 : -390625 ≤ tb * P ∧ tb * P ≤ 390625) (f4 : -390625 ≤ ta * Q ∧ ta * Q ≤ 390625) (f5 : -390625 ≤ tr * D ∧ tr * D ≤ 390625)
    (f6 : -273437500 ≤ ux * tr ∧ ux * tr ≤ 273437500) (f7 : -273437500 ≤ uy * tr ∧ uy * tr ≤ 273437500) (sx : -10937500 ≤ vx ∧ vx ≤ 10937500) (sy : -10937500 ≤ vy ∧ vy ≤ 10937500)
    (Ct : Hid (∀ w' : World, Calls Try.prog 105 #[vint ang] w' fun e w'' => e = .returned (.agg #[vint ta, vint tb, vint tr]) ∧ Ext w' w''))
    (Ca : Hid (∀ w' : World, Calls Try.prog 47 #[.agg #[vint P, vint Q, vint X, vint Y, vint D], .agg #[vint ax, vint ay]] w' fun e w'' => e = .returned (.agg #[vint ux, vint uy]) ∧ Ext w' w''))
    (Cb : Hid (∀ w' : World, Calls Try.prog 47 #[.agg #[vint (ta * P - tb * Q), vint (tb * P + ta * Q), vint 0, vint 0, vint (tr * D)], .agg #[vint bx, vint bY]] w' fun e w'' => e = .returned (.agg #[vint vx, vint vy]) ∧ Ext w' w''))
    (Cl : Hid (∀ w' : World, Calls Try.prog 106 #[.agg #[vint (ta * P - tb * Q), vint (tb * P + ta * Q), vint (ux * tr - vx), vint (uy * tr - vy), vint (tr * D)]] w' fun e w'' => e = .returned (.agg #[vint lp, vint lq, vint lx, vint ly, vint ld]) ∧ Ext w' w'')) :
    Calls Try.prog 84 #[.agg #[vint P, vint Q, vint X, vint Y, vint D], .agg #[vint ax, vint ay, vint bx, vint bY, vint ang]] w fun e w' => e = .returned (.agg #[vint lp, vint lq, vint lx, vint ly, vint ld]) ∧ Ext w w' := by
  have kp : Blk (((w.alloc (.cells #[vint P, vint Q, vint X, vint Y, vint D] 82)).alloc (.cells #[vint ax, vint ay, vint bx, vint bY, vint ang] 85)).alloc (.cells #[vint 0, vint 0, vint 0, vint 0, vint 0] 82)) w.heap.size [vint P, vint Q, vint X, vint Y, vint D] := (((Blk.new _ _).ext ((Ext.refl _).alloc _)).ext ((Ext.refl _).alloc _))
  have kh : Blk (((w.alloc (.cells #[vint P, vint Q, vint X, vint Y, vint D] 82)).alloc (.cells #[vint ax, vint ay, vint bx, vint bY, vint ang] 85)).alloc (.cells #[vint 0, vint 0, vint 0, vint 0, vint 0] 82)) (w.heap.size + 1) [vint ax, vint ay, vint bx, vint bY, vint ang] := ((Blk.new' (cs := #[vint ax, vint ay, vint bx, vint bY, vint ang]) (by simp)).ext ((Ext.refl _).alloc _))
  have kr : Blk (((w.alloc (.cells #[vint P, vint Q, vint X, vint Y, vint D] 82)).alloc (.cells #[vint ax, vint ay, vint bx, vint bY, vint ang] 85)).alloc (.cells #[vint 0, vint 0, vint 0, vint 0, vint 0] 82)) (w.heap.size + 1 + 1) [vint 0, vint 0, vint 0, vint 0, vint 0] := (Blk.new' (cs := #[vint 0, vint 0, vint 0, vint 0, vint 0]) (by simp))
  have hx : Ext w (((w.alloc (.cells #[vint P, vint Q, vint X, vint Y, vint D] 82)).alloc (.cells #[vint ax, vint ay, vint bx, vint bY, vint ang] 85)).alloc (.cells #[vint 0, vint 0, vint 0, vint 0, vint 0] 82)) := (((Ext.refl _).alloc _).alloc _).alloc _
  have Kp := Lib.hid kp
  have Kh := Lib.hid kh
  have Kr := Lib.hid kr
  have Hx := Lib.hid hx
  clear kp kh kr hx
  go_enter Try.func84, Try.ntmps84
  go_wp2_with (first
    | (go_at_call 105; ((with_reducible refine (Ct.out _).mono ?_); rintro e w1 ⟨rfl, hx1⟩); have p0 := (Kp.out.ext hx1).at_ 0 rfl; have p1 := (Kp.out.ext hx1).at_ 1 rfl; have p2 := (Kp.out.ext hx1).at_ 2 rfl; have p3 := (Kp.out.ext hx1).at_ 3 rfl; have p4 := (Kp.out.ext hx1).at_ 4 rfl; have h0 := (Kh.out.ext hx1).at_ 0 rfl; have h1 := (Kh.out.ext hx1).at_ 1 rfl; have h2 := (Kh.out.ext hx1).at_ 2 rfl; have h3 := (Kh.out.ext hx1).at_ 3 rfl; have p0 : ∀ w', Ext (w1.alloc (.cells #[vint ta, vint tb, vint tr] 92)) w' → _ := fun w' he => p0 w' (((Ext.refl _).alloc _).trans he); have p1 : ∀ w', Ext (w1.alloc (.cells #[vint ta, vint tb, vint tr] 92)) w' → _ := fun w' he => p1 w' (((Ext.refl _).alloc _).trans he); have p2 : ∀ w', Ext (w1.alloc (.cells #[vint ta, vint tb, vint tr] 92)) w' → _ := fun w' he => p2 w' (((Ext.refl _).alloc _).trans he); have p3 : ∀ w', Ext (w1.alloc (.cells #[vint ta, vint tb, vint tr] 92)) w' → _ := fun w' he => p3 w' (((Ext.refl _).alloc _).trans he); have p4 : ∀ w', Ext (w1.alloc (.cells #[vint ta, vint tb, vint tr] 92)) w' → _ := fun w' he => p4 w' (((Ext.refl _).alloc _).trans he); have h0 : ∀ w', Ext (w1.alloc (.cells #[vint ta, vint tb, vint tr] 92)) w' → _ := fun w' he => h0 w' (((Ext.refl _).alloc _).trans he); have h1 : ∀ w', Ext (w1.alloc (.cells #[vint ta, vint tb, vint tr] 92)) w' → _ := fun w' he => h1 w' (((Ext.refl _).alloc _).trans he); have h2 : ∀ w', Ext (w1.alloc (.cells #[vint ta, vint tb, vint tr] 92)) w' → _ := fun w' he => h2 w' (((Ext.refl _).alloc _).trans he); have h3 : ∀ w', Ext (w1.alloc (.cells #[vint ta, vint tb, vint tr] 92)) w' → _ := fun w' he => h3 w' (((Ext.refl _).alloc _).trans he); have Kr1 := Lib.hid (Kr.out.ext hx1); have Hx1 := Lib.hid (Hx.out.trans hx1); clear hx1)
    | (go_at_call 47; ((with_reducible refine (Ca.out _).mono ?_); rintro e w2 ⟨rfl, hx2⟩); have hx12 : Ext w1 w2 := (((Ext.refl _).alloc _).alloc _).trans hx2; have hxt : Ext (w1.alloc (.cells #[vint ta, vint tb, vint tr] 92)) w2 := ((Ext.refl _).alloc _).trans hx2; have kt2 := ((Blk.new' (W := w1) (n := w1.heap.size) (cs := #[vint ta, vint tb, vint tr]) (t := 92) rfl).ext ((Ext.refl _).alloc (.cells #[vint (ta * P - tb * Q), vint (tb * P + ta * Q), vint 0, vint 0, vint (tr * D)] 82))).ext hx2; have ko2 := (Blk.new' (W := w1.alloc (.cells #[vint ta, vint tb, vint tr] 92)) (n := w1.heap.size + 1) (cs := #[vint (ta * P - tb * Q), vint (tb * P + ta * Q), vint 0, vint 0, vint (tr * D)]) (t := 82) (by simp)).ext hx2; have h2 : ∀ w', Ext w2 w' → _ := fun w' he => h2 w' (hxt.trans he); have h3 : ∀ w', Ext w2 w' → _ := fun w' he => h3 w' (hxt.trans he); have o0 := ko2.at_ 0 rfl; have o1 := ko2.at_ 1 rfl; have o2 := ko2.at_ 2 rfl; have o3 := ko2.at_ 3 rfl; have o4 := ko2.at_ 4 rfl; have Kt2 := Lib.hid kt2; have Ko2 := Lib.hid ko2; have Hlo2 := Lib.hid ko2.lt; have Kr2 := Lib.hid (Kr1.out.ext hx12); have Hx2 := Lib.hid (Hx1.out.trans hx12); clear p0 p1 p2 p3 p4 h0 h1 kt2 ko2 hx2 hx12 hxt))
  go_at_call 47
  refine (Cb.out _).mono ?_
  rintro e w3 ⟨rfl, hx3⟩
  have hx23 : Ext w2 w3 := ((Ext.refl _).alloc _).trans hx3
  have ku3 := (Blk.new' (W := w2) (n := w2.heap.size) (cs := #[vint ux, vint uy]) (t := 27) rfl).ext hx3
  have ko3 := Ko2.out.ext hx23
  have u0 := ku3.at_ 0 rfl
  have u1 := ku3.at_ 1 rfl
  have t2c := (Kt2.out.ext hx23).at_ 2 rfl
  clear o0
  have o0 := ko3.at_ 0 rfl
  clear o1
  have o1 := ko3.at_ 1 rfl
  clear o2
  have o2 := ko3.at_ 2 rfl
  clear o3
  have o3 := ko3.at_ 3 rfl
  clear o4
  have o4 := ko3.at_ 4 rfl
  have fo2 := ko3.free 2
  have fo3 := ko3.free 3
  have n1 : w1.heap.size + 1 ≠ w2.heap.size := by have := Hlo2.out; omega
  have n2 : w1.heap.size + 1 ≠ w3.heap.size := by have := ko3.lt; omega
  have Ko3 := Lib.hid ko3
  have Kr3 := Lib.hid (Kr2.out.ext hx23)
  have Hx3 := Lib.hid (Hx2.out.trans hx23)
  clear h2 h3 ku3 ko3 hx3 hx23
  have kz := ((Ko3.out.ext ((Ext.refl w3).alloc (.cells #[vint vx, vint vy] 27))).set (j := 2) (by simp) (vint (ux * tr - vx))).set (j := 3) (by simp) (vint (uy * tr - vy))
  have z0 := kz.c 0 _ rfl
  have z1 := kz.c 1 _ rfl
  have z2 := kz.c 2 _ rfl
  have z3 := kz.c 3 _ rfl
  have z4 := kz.c 4 _ rfl
  have Kz := Lib.hid kz
  clear kz
  go_wp2_with fail
  go_at_call 106
  refine (Cl.out _).mono ?_
  rintro e w4 ⟨rfl, hx4⟩
  have hn3 : w.heap.size + 1 + 1 ≠ w1.heap.size + 1 := by have := Kr1.out.lt; omega
  have hwt : w.heap.size ≤ w1.heap.size := by have := Kr1.out.lt; omega
  have kr4 := (((Kr3.out.ext ((Ext.refl w3).alloc (.cells #[vint vx, vint vy] 27))).other (b := w1.heap.size + 1) (k := 2) hn3.symm (vint (ux * tr - vx))).other (b := w1.heap.size + 1) (k := 3) hn3.symm (vint (uy * tr - vy))).ext hx4
  have hx4' := (((Hx3.out.trans ((Ext.refl w3).alloc (.cells #[vint vx, vint vy] 27))).setCell (p := ⟨w1.heap.size + 1, 2, none⟩) (by simp only; omega) (vint (ux * tr - vx))).setCell (p := ⟨w1.heap.size + 1, 3, none⟩) (by simp only; omega) (vint (uy * tr - vy))).trans hx4
  have k0 := kr4.at_ 0 rfl
  have k1 := kr4.at_ 1 rfl
  have k2 := kr4.at_ 2 rfl
  have k3 := kr4.at_ 3 rfl
  have k4 := kr4.at_ 4 rfl
  have g0 := kr4.free 0
  have g1 := kr4.free 1
  have g2 := kr4.free 2
  have g3 := kr4.free 3
  have g4 := kr4.free 4
  clear z0 z1 z2 z3 z4 u0 u1 t2c o0 o1 o2 o3 o4 fo2 fo3
  go_wp2
  (try simp only [Exit.inBlock, Exit.then])
  have kf := (((((kr4.set (j := 0) (by simp) (.int .i64 lp)).set (j := 1) (by simp) (.int .i64 lq)).set (j := 2) (by simp) (.int .i64 lx)).set (j := 3) (by simp) (.int .i64 ly)).set (j := 4) (by simp) (.int .i64 ld))
  refine bodyPost_ret (results_pose rfl _ _ rfl kf) rfl ⟨rfl, ?_⟩
  exact (((((hx4'.setCell (by simp only; omega) _).setCell (by simp only; omega) _).setCell (by simp only; omega) _).setCell (by simp only; omega) _).setCell (by simp only; omega) _)
theorem next_any (p : Ps) (h : Hg) (k : Nat) (w : World) (hp : PoseOk p k) (hk : k ≤ 2) (hh : hingeB h) :
    Calls Try.prog 84 #[p.val, h.val] w fun e w' => e = .returned (flw p h (trn h.ang.toNat)).val ∧ Ext w w' := by
  have hn : h.ang.toNat < 36 := by have := hh.2.2; omega
  have hang : ((h.ang.toNat : Nat) : Int) = h.ang := by have := hh.2.2; omega
  have hr := pose_mono (raw_ok hp hh hn) (m := 3) (by omega)
  have ho := psOk (pose_mono (trn_ok hp hn) (m := 3) (by omega))
  have hp3 := psOk (pose_mono hp (m := 3) (by omega))
  have ct := fun w' => turn_any h.ang.toNat hn w'
  rw [hang] at ct
  have ca := fun w' => at_any p h.a w' hp3 hh.1
  have cb := fun w' => at_any (trnP p (trn h.ang.toNat)) h.b w' ho hh.2.1
  have cl := fun w' => lowest_any (raw p h (trn h.ang.toNat)) w' hr
  rw [raw_eq, Int.mul_comm _ (plc p h.a).x, Int.mul_comm _ (plc p h.a).y] at cl
  have sa := plc_small (pose_mono hp (m := 3) (by omega)) hh.1
  have sb := plc_small (pose_mono (trn_ok hp hn) (m := 3) (by omega)) hh.2.1
  obtain ⟨t1, t2, t3⟩ := trn_small _ hn
  have f1 := prod_le t1.1 t1.2 hp3.bp.1 hp3.bp.2
  have f2 := prod_le t2.1 t2.2 hp3.bq.1 hp3.bq.2
  have f3 := prod_le t2.1 t2.2 hp3.bp.1 hp3.bp.2
  have f4 := prod_le t1.1 t1.2 hp3.bq.1 hp3.bq.2
  have f5 := prod_le (a := (trn h.ang.toNat).2.2) (d := 25) (s := p.d) (m := 15625) (by omega) (by omega) (by have := hp3.bd; omega) hp3.bd.2
  have f6 := prod_le (a := (plc p h.a).x) (d := 10937500) (s := (trn h.ang.toNat).2.2) (m := 25) sa.1.1 sa.1.2 (by omega) (by omega)
  have f7 := prod_le (a := (plc p h.a).y) (d := 10937500) (s := (trn h.ang.toNat).2.2) (m := 25) sa.2.1 sa.2.2 (by omega) (by omega)
  have e : flw p h (trn h.ang.toNat) = low ⟨(trnP p (trn h.ang.toNat)).p, (trnP p (trn h.ang.toNat)).q, (plc p h.a).x * (trn h.ang.toNat).2.2 - (plc (trnP p (trn h.ang.toNat)) h.b).x, (plc p h.a).y * (trn h.ang.toNat).2.2 - (plc (trnP p (trn h.ang.toNat)) h.b).y, (trnP p (trn h.ang.toNat)).d⟩ := by
    rw [flw, raw_eq, Int.mul_comm _ (plc p h.a).x, Int.mul_comm _ (plc p h.a).y]
  rw [e]
  exact next_core p.p p.q p.x p.y p.d (trn h.ang.toNat).1 (trn h.ang.toNat).2.1 (trn h.ang.toNat).2.2 h.a.x h.a.y h.b.x h.b.y h.ang (plc p h.a).x (plc p h.a).y (plc (trnP p (trn h.ang.toNat)) h.b).x (plc (trnP p (trn h.ang.toNat)) h.b).y _ _ _ _ _ w f1 f2 f3 f4 f5 f6 f7 sb.1 sb.2 ct ca cb cl
end Go.Proofs.Yteilglljigjefaa

/- The poses of a linkage, by both. -/
namespace Go.Proofs.Yteilglljigjefaa
open Go.RowKit
theorem pose_elem : ElemInfo 82 (.agg #[.int .i64 0, .int .i64 0, .int .i64 0, .int .i64 0, .int .i64 0]) 5 40 := ⟨info_parts (by kernel_rfl), rfl, by decide⟩
abbrev OwnP (w1 w : World) (v : Value) (xs : List Ps) : Prop := Own w1 w 82 5 v xs.length (xs.map Ps.cells).flatten
def posT (hs : List Hg) (k : Nat) : List Ps := (List.range (k + 1)).map (posF hs)
theorem posT_succ (hs : List Hg) (k : Nat) : posT hs (k + 1) = posT hs k ++ [posF hs (k + 1)] := by simp [posT, List.range_succ]
theorem posT_len (hs : List Hg) (k : Nat) : (posT hs k).length = k + 1 := by simp [posT]
theorem posT_at {hs : List Hg} {k i : Nat} (h : i ≤ k) : psA (posT hs k) i = posF hs i := by
  rw [psA_at (by rw [posT_len]; omega)]
  simp [posT]
theorem posT_all (hs : List Hg) : posT hs hs.length = posesL hs := rfl
theorem row_heap {w : World} {b : Nat} {l : List Value} {t : TypeId} (h : w.heap[b]? = some (.cells l.toArray t)) : Row w (some ⟨b, 0, none⟩) l := fun k hk => ⟨_, rfl, by rw [add_zero', cell_heap h]; simp⟩
theorem posF_step {hs : List Hg} {k : Nat} (_ : k < hs.length) : posF hs (k + 1) = flw (posF hs k) (hgA hs k) (trn (hgA hs k).ang.toNat) := rfl

set_option maxRecDepth 100000 in
set_option maxHeartbeats 4000000 in
theorem poses_any (A : Option Addr) (np c : Nat) (B : Option Addr) (d : Nat) (hs : List Hg) (w : World) (hB : HRow w B hs) (hl : hs.length ≤ 3) (hh : ∀ h ∈ hs, hingeB h) :
    Calls Try.prog 64 #[.agg #[.slice A np c, .slice B hs.length d]] w fun e w' => ∃ v, e = .returned v ∧ OwnP w w' v (posesL hs) := by
  have ha := fun k (hk : k < hs.length) => hB.at_ hk
  have hok := fun k (hk : k ≤ hs.length) => posF_ok hh k hk
  have hhg := fun k (hk : k < hs.length) => by have := hh _ (List.getElem_mem hk); rw [← hgA_at hk] at this; exact this
  have hst := fun k (hk : k < hs.length) => posF_step hk
  have hsu := posT_succ hs
  have hln := posT_len hs
  have hat := fun k => posT_at (hs := hs) (k := k) (i := k) (Nat.le_refl _)
  have hall := posT_all hs
  have hcf := fun (p : Ps) (h : Hg) (n k : Nat) (w' : World) (h1 : PoseOk p k) (h2 : k ≤ 2) (h3 : hingeB h) (h4 : n < 36) => follow_any p h n k w' h1 h2 h3 h4
  have Ha := Lib.hid ha
  have Hok := Lib.hid hok
  have Hhg := Lib.hid hhg
  have Hst := Lib.hid hst
  have Hsu := Lib.hid hsu
  have Hln := Lib.hid hln
  have Hat := Lib.hid hat
  have Hall := Lib.hid hall
  have Hcf := Lib.hid hcf
  clear ha hok hhg hst hsu hln hat hall hcf hB hh
  generalize posesL hs = PL at *
  obtain ⟨n, hn⟩ : ∃ n, n = hs.length := ⟨_, rfl⟩
  rw [← hn] at Ha Hok Hhg Hst Hall hl ⊢
  have Hn := Lib.hid hn
  clear hn
  have kb0 : Blk (w.alloc (.cells #[.slice A np c, .slice B n d] 25)) w.heap.size [.slice A np c, .slice B n d] := Blk.new _ _
  have hx0 : Ext w (w.alloc (.cells #[.slice A np c, .slice B n d] 25)) := (Ext.refl _).alloc _
  have Kb0 := Lib.hid kb0
  have Hx0 := Lib.hid hx0
  clear kb0 hx0
  go_enter Try.func64, Try.ntmps64
  go_wp2_with (first
    | (go_at_call 52; refine (table_any _).mono ?_; rintro e w1 ⟨rfl, hx1⟩; have kb1 := Kb0.out.ext hx1; have b1 := (kb1.ext ((Ext.refl _).alloc (.cells (turns.flatMap tcells).toArray 99))).at_ 1 rfl)
    | (refine wpList_store_row rfl 99 (.tmp 3) (.tmp 7) rfl w1.heap.size (turns.flatMap tcells).toArray rfl rfl 99 Try.zeroCells99 (Go.heap_alloc_new _ _) (by kernel_rfl) (by kernel_rfl) (by kernel_rfl) ?_; rw [World.setRow_alloc_new]))
  have htab : TRow (w1.alloc (.cells (turns.flatMap tcells).toArray 99)) (some ⟨w1.heap.size, 0, none⟩) turns := Whole.row (Whole.new rfl) 0 _ (by kernel_rfl)
  have hown0 : Own (w1.alloc (.cells (turns.flatMap tcells).toArray 99)) ((w1.alloc (.cells (turns.flatMap tcells).toArray 99)).alloc (.cells #[.int .i64 1, .int .i64 0, .int .i64 0, .int .i64 0, .int .i64 1] 82)) 82 5 (.slice (some ⟨w1.heap.size + 1, 0, none⟩) 1 1) 1 ((posT hs 0).map Ps.cells).flatten := by
    have h := Own.lit (w1 := w1.alloc (.cells (turns.flatMap tcells).toArray 99)) (e := 82) (size := 5) (Ext.refl _) #[.int .i64 1, .int .i64 0, .int .i64 0, .int .i64 0, .int .i64 1] 1 (by unfold maxLen; omega) rfl
    have e : (w1.alloc (.cells (turns.flatMap tcells).toArray 99)).heap.size = w1.heap.size + 1 := by simp
    rw [e] at h
    exact h
  have hxt : Ext w (w1.alloc (.cells (turns.flatMap tcells).toArray 99)) := (Hx0.out.trans hx1).alloc _
  have htat := fun (m : Nat) (hm : m < 36) => TRow.at_ htab (k := m) hm
  have hcn : ∀ m, tAt turns m = trn m := fun _ => rfl
  simp only [hcn] at htat
  generalize (w1.alloc (.cells (turns.flatMap tcells).toArray 99)) = Wt at b1 htat hown0 hxt ⊢
  have Ht := Lib.hid htat
  have Hxt := Lib.hid hxt
  have B1 := Lib.hid b1
  generalize w1.heap.size = gt at Ht hown0 ⊢
  clear htab htat hxt hx1 kb1 b1 hcn Kb0 Hx0
  go_loopw [13, 4] (fun i v wr => ∃ k : Nat, k ≤ n ∧ i = .int .i64 k ∧ Own Wt wr 82 5 v (k + 1) ((posT hs k).map Ps.cells).flatten) (fun i _ _ => n - (intOf i).toNat)
  case atStart => exact ⟨0, by omega, rfl, hown0⟩
  case round =>
    obtain ⟨k, hk, rfl, hown⟩ := hrel
    obtain ⟨g4, c4, rfl, _, _⟩ := hown.at_ (by omega)
    by_cases hlt : k < n
    · have hxw := hown.ext
      have hrow : PRow wr (some ⟨g4, 0, none⟩) (posT hs k) := Own.row hown
      obtain ⟨_, ee, p0, p1, p2, p3, p4⟩ := hrow.at_ (k := k) (by rw [Hln.out]; omega)
      cases ee
      simp only [Hat.out k, add_zero'] at p0 p1 p2 p3 p4
      obtain ⟨ad, rfl, r0, r1, r2, r3, r4⟩ := Ha.out k hlt
      have hxr := Hxt.out.trans hxw
      have h0 : ∀ w', Ext wr w' → _ := fun w' he => r0 w' (hxr.trans he)
      have h1 : ∀ w', Ext wr w' → _ := fun w' he => r1 w' (hxr.trans he)
      have h2 : ∀ w', Ext wr w' → _ := fun w' he => r2 w' (hxr.trans he)
      have h3 : ∀ w', Ext wr w' → _ := fun w' he => r3 w' (hxr.trans he)
      have h4 : ∀ w', Ext wr w' → _ := fun w' he => r4 w' (hxr.trans he)
      clear r0 r1 r2 r3 r4
      have hh := Hhg.out k hlt
      have hok := Hok.out k (by omega)
      have hst := Hst.out k hlt
      generalize hgA hs k = h at h0 h1 h2 h3 h4 hh hst
      obtain ⟨m, hm⟩ : ∃ m : Nat, h.ang = m := ⟨h.ang.toNat, by have := hh.2.2; omega⟩
      have hm36 : m < 36 := by have := hh.2.2; omega
      rw [show h.ang.toNat = m by omega] at hst
      rw [hm] at h4
      have hfo := fun w' => Hcf.out (posF hs k) h m k w' hok (by omega) hh hm36
      rw [← hst] at hfo
      obtain ⟨_, ee, s0, s1, s2⟩ := Ht.out m hm36
      cases ee
      simp only [add_zero'] at s0 s1 s2
      have hval : h.val = .agg #[vint h.a.x, vint h.a.y, vint h.b.x, vint h.b.y, vint m] := by rw [← hm]
      rw [hval] at hfo
      have Hfo := Lib.hid hfo
      have Hst' := Lib.hid hst
      clear hfo hst hh hok hval hm
      generalize h.a.x = ax at h0 Hfo
      generalize h.a.y = ay at h1 Hfo
      generalize h.b.x = bx at h2 Hfo
      generalize h.b.y = bY at h3 Hfo
      have b36 : (m : Int) < 36 := by omega
      have hki : (k : Int) < (n : Int) := by omega
      have hk1 : (k : Int) < ((k + 1 : Nat) : Int) := by omega
      have b1 : ∀ w', Ext wr w' → _ := fun w' he => B1.out w' (hxw.trans he)
      have t0 : ∀ w', Ext wr w' → _ := fun w' he => s0 w' (hxw.trans he)
      have t1 : ∀ w', Ext wr w' → _ := fun w' he => s1 w' (hxw.trans he)
      have t2 : ∀ w', Ext wr w' → _ := fun w' he => s2 w' (hxw.trans he)
      clear s0 s1 s2 Ha Hok Hhg Hst Hcf Ht B1 Hxt
      go_wp2
      have k6 : Blk (wr.alloc (.cells #[vint ax, vint ay, vint bx, vint bY, vint m] 85)) wr.heap.size [vint ax, vint ay, vint bx, vint bY, vint m] := Blk.new _ _
      have hx6 : Ext wr (wr.alloc (.cells #[vint ax, vint ay, vint bx, vint bY, vint m] 85)) := (Ext.refl _).alloc _
      generalize (wr.alloc (.cells #[vint ax, vint ay, vint bx, vint bY, vint m] 85)) = w6 at k6 hx6 ⊢
      have hm0 : (0 : Int) ≤ (m : Int) := by omega
      have p0' : ∀ w', Ext w6 w' → _ := fun w' he => p0 w' (hx6.trans he)
      have p1' : ∀ w', Ext w6 w' → _ := fun w' he => p1 w' (hx6.trans he)
      have p2' : ∀ w', Ext w6 w' → _ := fun w' he => p2 w' (hx6.trans he)
      have p3' : ∀ w', Ext w6 w' → _ := fun w' he => p3 w' (hx6.trans he)
      have p4' : ∀ w', Ext w6 w' → _ := fun w' he => p4 w' (hx6.trans he)
      have t0' : ∀ w', Ext w6 w' → _ := fun w' he => t0 w' (hx6.trans he)
      have t1' : ∀ w', Ext w6 w' → _ := fun w' he => t1 w' (hx6.trans he)
      have t2' : ∀ w', Ext w6 w' → _ := fun w' he => t2 w' (hx6.trans he)
      have i0 := k6.at_ 0 rfl
      have i1 := k6.at_ 1 rfl
      have i2 := k6.at_ 2 rfl
      have i3 := k6.at_ 3 rfl
      have i4 := k6.at_ 4 rfl
      clear p0 p1 p2 p3 p4 t0 t1 t2 h0 h1 h2 h3 h4 b1
      refine wp_region_calm 12 (fun j _ v _ => j = 10 → v = (posF hs (k + 1)).val) (fun _ _ _ _ _ _ h => h) (by kernel_rfl) (by kernel_rfl) ?_
      simp only [List.take_succ_cons, List.take_zero, List.drop_succ_cons, List.drop_zero]
      refine calm_quiet calm_mono_final 10 (by kernel_rfl) ?_
      simp only [List.take_succ_cons, List.take_zero, List.drop_succ_cons, List.drop_zero]
      repeat (go_big_quiet_step (fail))
      refine wpQuiet_nil ?_
      refine calm_call calm_mono_final 55 #[(posF hs k).val, .agg #[vint ax, vint ay, vint bx, vint bY, vint m], tval (trn m)] rfl (fun w => ?_) (fun w he hF => ?_) ?_
      · go_simp
      · exact (Hfo.out w).mono fun e w'' ⟨he', hx⟩ => ⟨_, he', hx, fun _ => rfl⟩
      rintro _ _ _ h
      cases h rfl
      simp only [Act.put, List.setIfInBounds_toArray, List.set_cons_succ, List.set_cons_zero]
      refine calm_alloc calm_mono_final (fun b => .slice (some ⟨b, 0, none⟩) 1 1) (.cells (posF hs (k + 1)).cells.toArray 82) (fun b c h => by simpa using h) rfl (fun w => ?_) (fun b hb => ?_)
      · go_simp
        rfl
      simp only [Act.put, List.setIfInBounds_toArray, List.set_cons_succ, List.set_cons_zero]
      refine calm_nil fun w3 he3 hF => ?_
      have hrow3 := row_heap ((hF 11).2 rfl)
      clear hF
      have hov := hown.later (hx6.trans he3)
      have Hfl := Lib.hid (show ((posT hs (k + 1)).map Ps.cells).flatten = ((posT hs k).map Ps.cells).flatten ++ (posF hs (k + 1)).cells by rw [Hsu.out]; simp)
      go_wp2_with (refine own_append_src (w1 := Wt) pose_elem rfl _ _ 47 rfl Try.underlying47 _ (k + 1) _ rfl hov _ 1 1 _ rfl rfl hrow3 (by intro u hu; simp [Ps.cells] at hu; rcases hu with rfl | rfl | rfl | rfl | rfl <;> rfl) (by omega) (by unfold maxLen; omega) ?_; intro v' w' ho _)
      go_roundw
      case rel => exact ⟨k + 1, by omega, by go_num, by rw [Hfl.out]; exact ho⟩
      case measure => simp [intOf]; omega
    · obtain rfl : n = k := by omega
      have hall := Hall.out
      have hln := Hln.out n
      rw [hall] at hln hown
      have Hln' := Lib.hid hln
      have Hown := Lib.hid hown
      clear hall hln hown
      go_wp2
      go_ret
      refine ⟨_, rfl, ?_⟩
      show Own w wr _ 5 _ PL.length _
      rw [Hln'.out]
      exact Hown.out.since Hxt.out
end Go.Proofs.Yteilglljigjefaa

/- The poses of a linkage, by the reference. -/
namespace Go.Proofs.Yteilglljigjefaa
open Go.RowKit
set_option maxRecDepth 100000 in
set_option maxHeartbeats 4000000 in
theorem placed_any (A : Option Addr) (np c : Nat) (B : Option Addr) (d : Nat) (hs : List Hg) (w : World) (hB : HRow w B hs) (hl : hs.length ≤ 3) (hh : ∀ h ∈ hs, hingeB h) :
    Calls Try.prog 66 #[.agg #[.slice A np c, .slice B hs.length d]] w fun e w' => ∃ v, e = .returned v ∧ OwnP w w' v (posesL hs) := by
  have ha := fun k (hk : k < hs.length) => hB.at_ hk
  have hhg := fun k (hk : k < hs.length) => by have := hh _ (List.getElem_mem hk); rw [← hgA_at hk] at this; exact this
  have hcf := fun k (hk : k < hs.length) (w' : World) => next_any (posF hs k) (hgA hs k) k w' (posF_ok hh k (by omega)) (by omega) (hhg k hk)
  have hst := fun k (hk : k < hs.length) => posF_step hk
  have hsu := posT_succ hs
  have hln := posT_len hs
  have hat := fun k => posT_at (hs := hs) (k := k) (i := k) (Nat.le_refl _)
  have hall := posT_all hs
  have Ha := Lib.hid ha
  have Hst := Lib.hid hst
  have Hsu := Lib.hid hsu
  have Hln := Lib.hid hln
  have Hat := Lib.hid hat
  have Hall := Lib.hid hall
  have Hcf := Lib.hid hcf
  clear ha hhg hst hsu hln hat hall hcf hB hh
  generalize posesL hs = PL at *
  obtain ⟨n, hn⟩ : ∃ n, n = hs.length := ⟨_, rfl⟩
  rw [← hn] at Ha Hst Hcf Hall hl ⊢
  clear hn
  have b0 : ∀ w', Ext (w.alloc (.cells #[.slice A np c, .slice B n d] 25)) w' → w'.cell? ⟨w.heap.size, 1, none⟩ = some (.slice B n d) := (Blk.new (W := w) #[.slice A np c, .slice B n d] 25).at_ 1 rfl
  have hx0 : Ext w (w.alloc (.cells #[.slice A np c, .slice B n d] 25)) := (Ext.refl _).alloc _
  have hown0 : Own (w.alloc (.cells #[.slice A np c, .slice B n d] 25)) ((w.alloc (.cells #[.slice A np c, .slice B n d] 25)).alloc (.cells #[.int .i64 1, .int .i64 0, .int .i64 0, .int .i64 0, .int .i64 1] 82)) 82 5 (.slice (some ⟨w.heap.size + 1, 0, none⟩) 1 1) 1 ((posT hs 0).map Ps.cells).flatten := by
    have h := Own.lit (w1 := (w.alloc (.cells #[.slice A np c, .slice B n d] 25))) (e := 82) (size := 5) (Ext.refl _) #[.int .i64 1, .int .i64 0, .int .i64 0, .int .i64 0, .int .i64 1] 1 (by unfold maxLen; omega) rfl
    have e : (w.alloc (.cells #[.slice A np c, .slice B n d] 25)).heap.size = w.heap.size + 1 := by simp
    rw [e] at h
    exact h
  go_enter Try.func66, Try.ntmps66
  go_wp2
  generalize (w.alloc (.cells #[.slice A np c, .slice B n d] 25)) = Wt at b0 hx0 hown0 ⊢
  have Hxt := Lib.hid hx0
  have B1 := Lib.hid b0
  clear hx0 b0
  go_loopw [4, 3] (fun i v wr => ∃ k : Nat, k ≤ n ∧ i = .int .i64 k ∧ Own Wt wr 82 5 v (k + 1) ((posT hs k).map Ps.cells).flatten) (fun i _ _ => n - (intOf i).toNat)
  case atStart => exact ⟨0, by omega, rfl, hown0⟩
  case round =>
    obtain ⟨k, hk, rfl, hown⟩ := hrel
    obtain ⟨g4, c4, rfl, _, _⟩ := hown.at_ (by omega)
    have hxw := hown.ext
    have b1 : ∀ w', Ext wr w' → _ := fun w' he => B1.out w' (hxw.trans he)
    by_cases hlt : k < n
    · have hrow : PRow wr (some ⟨g4, 0, none⟩) (posT hs k) := Own.row hown
      obtain ⟨_, ee, p0, p1, p2, p3, p4⟩ := hrow.at_ (k := k) (by rw [Hln.out]; omega)
      cases ee
      simp only [Hat.out k, add_zero'] at p0 p1 p2 p3 p4
      obtain ⟨ad, rfl, r0, r1, r2, r3, r4⟩ := Ha.out k hlt
      have hxr := Hxt.out.trans hxw
      have h0 : ∀ w', Ext wr w' → _ := fun w' he => r0 w' (hxr.trans he)
      have h1 : ∀ w', Ext wr w' → _ := fun w' he => r1 w' (hxr.trans he)
      have h2 : ∀ w', Ext wr w' → _ := fun w' he => r2 w' (hxr.trans he)
      have h3 : ∀ w', Ext wr w' → _ := fun w' he => r3 w' (hxr.trans he)
      have h4 : ∀ w', Ext wr w' → _ := fun w' he => r4 w' (hxr.trans he)
      clear r0 r1 r2 r3 r4
      have hst := Hst.out k hlt
      have hfo := Hcf.out k hlt
      rw [← hst] at hfo
      have Hfo := Lib.hid hfo
      clear hfo hst Ha Hst Hcf B1 Hxt
      generalize hgA hs k = h at h0 h1 h2 h3 h4 Hfo
      have hki : (k : Int) < (n : Int) := by omega
      have hk1 : (k : Int) < ((k + 1 : Nat) : Int) := by omega
      go_wp2
      refine wp_region_calm 12 (fun j _ v _ => j = 10 → v = (posF hs (k + 1)).val) (fun _ _ _ _ _ _ h => h) (by kernel_rfl) (by kernel_rfl) ?_
      simp only [List.take_succ_cons, List.take_zero, List.drop_succ_cons, List.drop_zero]
      refine calm_quiet calm_mono_final 10 (by kernel_rfl) ?_
      simp only [List.take_succ_cons, List.take_zero, List.drop_succ_cons, List.drop_zero]
      repeat (go_big_quiet_step (fail))
      refine wpQuiet_nil ?_
      refine calm_call calm_mono_final 84 #[(posF hs k).val, h.val] rfl (fun w => ?_) (fun w he hF => ?_) ?_
      · go_simp
      · exact (Hfo.out w).mono fun e w'' ⟨he', hx⟩ => ⟨_, he', hx, fun _ => rfl⟩
      rintro _ _ _ h
      cases h rfl
      simp only [Act.put, List.setIfInBounds_toArray, List.set_cons_succ, List.set_cons_zero]
      refine calm_alloc calm_mono_final (fun b => .slice (some ⟨b, 0, none⟩) 1 1) (.cells (posF hs (k + 1)).cells.toArray 82) (fun b c h => by simpa using h) rfl (fun w => ?_) (fun b hb => ?_)
      · go_simp
        rfl
      simp only [Act.put, List.setIfInBounds_toArray, List.set_cons_succ, List.set_cons_zero]
      refine calm_nil fun w3 he3 hF => ?_
      have hrow3 := row_heap ((hF 11).2 rfl)
      clear hF
      have hov := hown.later he3
      have Hfl := Lib.hid (show ((posT hs (k + 1)).map Ps.cells).flatten = ((posT hs k).map Ps.cells).flatten ++ (posF hs (k + 1)).cells by rw [Hsu.out]; simp)
      go_wp2_with (refine own_append_src (w1 := Wt) pose_elem rfl _ _ 47 rfl Try.underlying47 _ (k + 1) _ rfl hov _ 1 1 _ rfl rfl hrow3 (by intro u hu; simp [Ps.cells] at hu; rcases hu with rfl | rfl | rfl | rfl | rfl <;> rfl) (by omega) (by unfold maxLen; omega) ?_; intro v' w' ho _)
      go_roundw
      case rel => exact ⟨k + 1, by omega, by go_num, by rw [Hfl.out]; exact ho⟩
      case measure => simp [intOf]; omega
    · obtain rfl : n = k := by omega
      have hall := Hall.out
      have hln := Hln.out n
      rw [hall] at hln hown
      have Hln' := Lib.hid hln
      have Hown := Lib.hid hown
      clear hall hln hown
      go_wp2
      go_ret
      refine ⟨_, rfl, ?_⟩
      show Own w wr _ 5 _ PL.length _
      rw [Hln'.out]
      exact Hown.out.since Hxt.out
end Go.Proofs.Yteilglljigjefaa

/- Places in their range: by both. -/
namespace Go.Proofs.Yteilglljigjefaa
open Go.RowKit
def spotD (s : Sp) : Bool := decide (spotB s)
theorem spotD_eq {s : Sp} {b : Bool} (h : b = true ↔ spotB s) : b = spotD s := by
  unfold spotD
  cases b <;> simp at h ⊢ <;> exact h
set_option maxHeartbeats 1000000 in
theorem far_any (s : Sp) (w : World) : Calls Try.prog 87 #[s.val] w fun e w' => e = .returned (.bool (!spotD s)) ∧ Ext w w' := by
  have hb : ∀ b : Bool, (b = true ↔ ¬ spotB s) → b = !spotD s := fun b h => by
    rw [← spotD_eq (s := s) (b := !b) (by cases b <;> simp at h ⊢ <;> exact h)]
    simp
  have Hb := Lib.hid hb
  clear hb
  obtain ⟨x, y⟩ := s
  generalize (!spotD ⟨x, y⟩) = R at Hb ⊢
  go_enter Try.func87, Try.ntmps87
  go_wp2
  all_goals go_ret
  all_goals refine ⟨ret_b (Hb.out _ ?_), (Ext.refl _).alloc _⟩
  all_goals simp only [spotB]
  all_goals simp
  all_goals omega
set_option maxHeartbeats 1000000 in
theorem index_far (A : Option Addr) (c : Nat) (l : List Sp) (w : World) (hA : SRow w A l) (hl : l.length ≤ 1000) :
    Calls Try.prog 108 #[.slice A l.length c, .func (.func 87) #[] #[]] w fun e w' => ∃ i : Int, e = .returned (.int .i64 i) ∧ (0 ≤ i ↔ ∃ k, k < l.length ∧ spotD (ptA l k) = false) ∧ Ext w w' := by
  have ha := fun k (hk : k < l.length) => hA.at_ hk
  have hc := fun (s : Sp) (w' : World) => far_any s w'
  have Ha := Lib.hid ha
  have Hc := Lib.hid hc
  clear ha hc hA
  generalize l.length = n at *
  go_enter Try.func108, Try.ntmps108
  go_wp2
  go_loopw [8] (fun i wr => ∃ k : Nat, k ≤ n ∧ i = .int .i64 k ∧ Ext w wr ∧ ∀ j, j < k → spotD (ptA l j) = true) (fun i _ => n - (intOf i).toNat)
  case atStart => exact ⟨0, by omega, rfl, Ext.refl _, fun j h => absurd h (by omega)⟩
  case round =>
    obtain ⟨k, hk, rfl, hex, hall⟩ := hrel
    have Hall := Lib.hid hall
    clear hall
    by_cases hlt : k < n
    · obtain ⟨ad, rfl, r0, r1⟩ := Ha.out k hlt
      have c0 : ∀ w', Ext wr w' → _ := fun w' he => r0 w' (hex.trans he)
      have c1 : ∀ w', Ext wr w' → _ := fun w' he => r1 w' (hex.trans he)
      have hcc := fun w' => Hc.out (ptA l k) w'
      have Hp := Lib.hid (show ∀ b, spotD (ptA l k) = b → spotD (ptA l k) = b from fun _ h => h)
      clear r0 r1 Ha Hc
      have hnx : spotD (ptA l k) = true → ∀ j, j < k + 1 → spotD (ptA l j) = true := fun h j hj => by
        by_cases e : j = k
        · subst e; exact h
        · exact Hall.out j (by omega)
      have hyes : spotD (ptA l k) = false → ∃ k, k < n ∧ spotD (ptA l k) = false := fun h => ⟨k, hlt, h⟩
      have Hnx := Lib.hid hnx
      have Hyes := Lib.hid hyes
      clear hnx hyes Hall Hp
      generalize ptA l k = s at c0 c1 hcc Hnx Hyes
      cases hs : spotD s
      · rw [hs] at hcc
        have Hcc := Lib.hid hcc
        have hy := Hyes.out hs
        have Hy := Lib.hid hy
        clear hcc hs hy Hnx Hyes
        go_wp2_with (go_at_call 87; refine (Hcc.out _).mono ?_; rintro e w5 ⟨rfl, hx5⟩)
        go_ret
        exact ⟨k, rfl, ⟨fun _ => Hy.out, fun _ => by omega⟩, hex.trans hx5⟩
      · rw [hs] at hcc
        have Hcc := Lib.hid hcc
        have hy := Hnx.out hs
        have Hy := Lib.hid hy
        clear hcc hs hy Hnx Hyes
        go_wp2_with (go_at_call 87; refine (Hcc.out _).mono ?_; rintro e w5 ⟨rfl, hx5⟩)
        go_roundw
        case rel => exact ⟨k + 1, by omega, by go_num, hex.trans hx5, Hy.out⟩
        case measure => simp [intOf]; omega
    · obtain rfl : n = k := by omega
      go_wp2
      go_ret
      exact ⟨-1, rfl, ⟨fun h => absurd h (by omega), fun ⟨j, h1, h2⟩ => by rw [Hall.out j h1] at h2; cases h2⟩, hex⟩
def smallB (l : List Sp) : Bool := l.all spotD
theorem smallB_iff {l : List Sp} {i : Int} (h : 0 ≤ i ↔ ∃ k, k < l.length ∧ spotD (ptA l k) = false) : decide (0 ≤ i) = !smallB l := by
  by_cases hi : 0 ≤ i
  · obtain ⟨k, hk, hf⟩ := h.1 hi
    rw [decide_eq_true hi]
    have : smallB l = false := by
      unfold smallB
      rw [List.all_eq_false]
      exact ⟨ptA l k, by rw [ptA_at hk]; exact List.getElem_mem hk, by simp [hf]⟩
    rw [this]; rfl
  · rw [decide_eq_false hi]
    have : smallB l = true := by
      unfold smallB
      rw [List.all_eq_true]
      intro s hs
      obtain ⟨k, hk, rfl⟩ := List.getElem_of_mem hs
      cases e : spotD l[k]
      · exact absurd (h.2 ⟨k, hk, by rw [ptA_at hk]; exact e⟩) hi
      · rfl
    rw [this]; rfl
theorem smallB_spec {l : List Sp} : smallB l = true ↔ ∀ s ∈ l, spotB s := by simp [smallB, spotD]
set_option maxHeartbeats 1000000 in
theorem small_any (A : Option Addr) (c : Nat) (l : List Sp) (w : World) (hA : SRow w A l) (hl : l.length ≤ 1000) :
    Calls Try.prog 60 #[.slice A l.length c] w fun e w' => e = .returned (.bool (smallB l)) ∧ Ext w w' := by
  have hc := fun (w' : World) (he : Ext w w') => index_far A c l w' (hA.ext he) hl
  have hd := fun (i : Int) (h : 0 ≤ i ↔ ∃ k, k < l.length ∧ spotD (ptA l k) = false) => smallB_iff h
  have Hc := Lib.hid hc
  have Hd := Lib.hid hd
  clear hc hd hA
  generalize smallB l = S at *
  have cc : ∀ w' : World, Ext w w' → Calls Try.prog 86 #[.slice A l.length c, .func (.func 87) #[] #[]] w' fun e w'' => e = .returned (.bool (!S)) ∧ Ext w' w'' := fun w' he => by
    have hq := Hc.out w' he
    have Hq := Lib.hid hq
    clear hq Hc
    generalize l.length = n at *
    go_enter Try.func86, Try.ntmps86
    go_wp2_with (go_at_call 108; refine Hq.out.mono ?_; rintro e w1 ⟨i, rfl, hi, h1⟩; have Hi := Lib.hid hi; clear hi)
    go_ret
    exact ⟨ret_b (Hd.out _ Hi.out), h1⟩
  have Cc := Lib.hid cc
  clear cc Hc Hd
  generalize l.length = n at *
  go_enter Try.func60, Try.ntmps60
  go_wp2_with (go_at_call 86; refine (Cc.out _ (Ext.refl _)).mono ?_; rintro e w1 ⟨rfl, h1⟩)
  go_ret
  exact ⟨ret_b (by simp), h1⟩
set_option maxHeartbeats 1000000 in
theorem spot_any (s : Sp) (w : World) : Calls Try.prog 83 #[s.val] w fun e w' => e = .returned (.bool (spotD s)) ∧ Ext w w' := by
  have hb : (withinB s.x (-50) 50 && withinB s.y (-50) 50) = spotD s := spotD_eq (by rw [Bool.and_eq_true, withinB_true, withinB_true]; exact Iff.rfl)
  obtain ⟨x, y⟩ := s
  simp only at hb
  have Hb := Lib.hid hb
  clear hb
  generalize spotD ⟨x, y⟩ = R at Hb ⊢
  cases h1 : withinB x (-50) 50
  all_goals
    rw [h1] at Hb
    go_enter Try.func83, Try.ntmps83
    go_wp2_with (go_at_call 58; refine (within_any _ _ _ _).mono ?_; rintro e w' ⟨rfl, rfl⟩)
    go_ret
    exact ⟨ret_b (by rw [← Hb.out]; simp), (Ext.refl _).alloc _⟩
end Go.Proofs.Yteilglljigjefaa
