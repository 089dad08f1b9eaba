/- Boards on the lattice and in the plane: they share a cell exactly if their rectangles clash. Plain Lean. -/
import Derived.Test.YtebkhdhhajjhfaaGreatU15
import Derived.Test.YtebkhdhhajjhfaaGreatU21
import Derived.Test.YtebkhdhhajjhfaaGreatU23
import Derived.Test.YtebkhdhhajjhfaaGreatU05
namespace Go.Proofs.YtebkhdhhajjhfaaGreat.Lt
/-! ### Edges along the axes -/
/-! ### The cells -/
def boardC (w h : Nat) : List Ce := (List.range (w * h)).map fun i => ⟨(i % w : Nat), (i / w : Nat), 0⟩
end Go.Proofs.YtebkhdhhajjhfaaGreat.Lt

/- The board of the law: its cells, row by row, and no knobs. -/
namespace Go.Proofs.YtebkhdhhajjhfaaGreat.Lt
open Go.RowKit
theorem boardC_len (w h : Nat) : (boardC w h).length = w * h := by simp [boardC]
theorem boardC_at {w h i : Nat} (hi : i < w * h) : (boardC w h)[i]? = some ⟨(i % w : Nat), (i / w : Nat), 0⟩ := by
  simp [boardC, hi]
theorem tdiv_nat (a b : Nat) : (a : Int).tdiv (b : Int) = ((a / b : Nat) : Int) := by
  rw [Int.tdiv_eq_ediv_of_nonneg (by omega)]; rfl
theorem wrap_nat {x : Nat} (h : x ≤ 1000) : IntKind.i64.wrap (x : Int) = (x : Int) := by rw [IntKind.wrap_i64]; omega
theorem tmod_nat (a b : Nat) : (a : Int).tmod (b : Int) = ((a % b : Nat) : Int) := by
  rw [Int.tmod_eq_emod_of_nonneg (by omega)]; rfl
theorem results_ki {fn : Func} {t : Tmp} (h : fn.results = #[.cell t 82]) (tmps : Array Value) (w : World) {g : Nat} {u0 u1 u2 : Value} (h8 : tmps.getD t undef = .pointer (some ⟨g, 0, none⟩)) (c0 : w.cell? ⟨g, 0, none⟩ = some u0) (c1 : w.cell? ⟨g, 1, none⟩ = some u1) (c2 : w.cell? ⟨g, 2, none⟩ = some u2) :
    (results fn tmps).run Tryz.prog w = .ok (.agg #[u0, u1, u2]) w := by
  rw [Array.getD_eq_getD_getElem?] at h8
  simp [results, h, loadVar, h8, c0, c1, c2, loadCells, loadCellsFrom, asAddr, Addr.add_lit, Result.andThen, go_sem]
theorem field_store {w w9 : World} {e1 e2 s1 n1 n8 c8 m8 : Nat} {v9 v a b : Value} {xs ys : List Value} {g8 g9 : Nat} (hne : g8 ≠ g9) (he : e1 ≠ e2) (ho : Own w w9 e1 s1 v9 n1 xs) (h9 : Own w w9 e2 3 (.slice (some ⟨g9, 0, none⟩) 1 1) 1 [v, a, b]) (h8 : Own w w9 e2 3 (.slice (some ⟨g8, 0, none⟩) m8 c8) n8 ys) (u : Value) :
    Own w (w9.setCell ⟨g9, 0, none⟩ u) e1 s1 v9 n1 xs ∧ Own w (w9.setCell ⟨g9, 0, none⟩ u) e2 3 (.slice (some ⟨g9, 0, none⟩) 1 1) 1 [u, a, b] ∧ Own w (w9.setCell ⟨g9, 0, none⟩ u) e2 3 (.slice (some ⟨g8, 0, none⟩) m8 c8) n8 ys := by
  have hg : w.heap.size ≤ g9 := h9.ge
  refine ⟨ho.other hg ?_ u, h9.store 0 u, h8.other hg (by simp [Value.ownBlock, hne]) u⟩
  rcases own_ne_row ho h9.2 he with h | h
  · rw [h]
    simp
  · exact h
set_option maxRecDepth 100000 in
set_option maxHeartbeats 1000000 in
theorem board_any (wd ht : Nat) (wt : Int) (w : World) (hw1 : 1 ≤ wd) (hw2 : wd ≤ 6) (hh1 : 1 ≤ ht) (hh2 : ht ≤ 4) :
    Calls Tryz.prog 24 #[.int .i64 wd, .int .i64 ht, .int .i64 wt, .bool false] w fun e w' => ∃ g cap, e = .returned (.agg #[.slice (some ⟨g, 0, none⟩) (wd * ht) cap, .slice none 0 0, .int .i64 wt]) ∧ Own w w' 60 3 (.slice (some ⟨g, 0, none⟩) (wd * ht) cap) (wd * ht) ((boardC wd ht).map Ce.cells).flatten := by
  obtain ⟨n, hn⟩ : ∃ n, n = wd * ht := ⟨_, rfl⟩
  have hn0 : 0 < n := by rw [hn]; exact Nat.mul_pos (by omega) (by omega)
  have hn24 : n ≤ 24 := by
    rw [hn]
    exact Nat.le_trans (Nat.mul_le_mul hw2 hh2) (by omega)
  have hmul : IntKind.i64.wrap ((wd : Int) * (ht : Int)) = (n : Int) := by
    have e : (wd : Int) * (ht : Int) = (n : Int) := by rw [hn]; rfl
    rw [e, IntKind.wrap_i64]
    omega
  have hbl : (boardC wd ht).length = n := by rw [boardC_len, hn]
  have hba : ∀ i, i < n → ceA (boardC wd ht) i = ⟨((i % wd : Nat) : Int), ((i / wd : Nat) : Int), 0⟩ := fun i hi => by
    have := boardC_at (w := wd) (h := ht) (i := i) (by rw [← hn]; exact hi)
    simp [ceA, List.getD, this]
  rw [← hn]
  have Hbl := Lib.hid hbl
  have Hba := Lib.hid hba
  clear hn hbl hba
  generalize boardC wd ht = C at *
  have hwi : (wd : Int) ≠ 0 := by omega
  have h9 : Own w ((w.alloc (.cells #[.slice none 0 0, .slice none 0 0, .int .i64 0] 82)).alloc (.cells #[.slice none 0 0, .slice none 0 0, .int .i64 wt] 82)) 82 3 (.slice (some ⟨w.heap.size + 1, 0, none⟩) 1 1) 1 [.slice none 0 0, .slice none 0 0, .int .i64 wt] := by
    have := Own.lit (e := 82) (size := 3) ((Ext.refl w).alloc (.cells #[.slice none 0 0, .slice none 0 0, .int .i64 0] 82)) #[.slice none 0 0, .slice none 0 0, .int .i64 wt] 1 (by unfold maxLen; omega) rfl
    simpa using this
  go_enter Tryz.func24, Tryz.ntmps24
  go_wp2
  have h8 : Own w ((w.alloc (.cells #[.slice none 0 0, .slice none 0 0, .int .i64 0] 82)).alloc (.cells #[.slice none 0 0, .slice none 0 0, .int .i64 wt] 82)) 82 3 (.slice (some ⟨w.heap.size, 0, none⟩) 1 1) 1 [.slice none 0 0, .slice none 0 0, .int .i64 0] := by
    have := Own.lit (e := 82) (size := 3) (Ext.refl w) #[.slice none 0 0, .slice none 0 0, .int .i64 0] 1 (by unfold maxLen; omega) rfl
    exact this.alloc _
  have Hst := Lib.hid (And.intro h9 h8)
  clear h9 h8
  generalize ((w.alloc (.cells #[.slice none 0 0, .slice none 0 0, .int .i64 0] 82)).alloc (.cells #[.slice none 0 0, .slice none 0 0, .int .i64 wt] 82)) = w1 at Hst ⊢
  go_loopw [17] (fun i wr => ∃ (k : Nat) (v : Value), k ≤ n ∧ i = .int .i64 k ∧ Own w wr 60 3 v k ((C.take k).map Ce.cells).flatten ∧ Own w wr 82 3 (.slice (some ⟨w.heap.size + 1, 0, none⟩) 1 1) 1 [v, .slice none 0 0, .int .i64 wt] ∧ Own w wr 82 3 (.slice (some ⟨w.heap.size, 0, none⟩) 1 1) 1 [.slice none 0 0, .slice none 0 0, .int .i64 0]) (fun i _ => n - (intOf i).toNat)
  case atStart => exact ⟨0, .slice none 0 0, by omega, rfl, Own.nil' Hst.out.1.ext _ _, Hst.out⟩
  case round =>
    clear Hst
    obtain ⟨k, v, hk, rfl, hV, h9, h8⟩ := hrel
    by_cases hlt : k < n
    · have hki : (k : Int) < (n : Int) := by omega
      obtain ⟨X, xc, rfl⟩ := hV.form
      have e0 : wr.cell? ⟨w.heap.size + 1, 0, none⟩ = some (.slice X k xc) := h9.cell (j := 0) (by simp)
      have ha := Hba.out k hlt
      have hct : C.take (k + 1) = C.take k ++ [⟨((k % wd : Nat) : Int), ((k / wd : Nat) : Int), 0⟩] := by
        have hl : k < C.length := by rw [Hbl.out]; exact hlt
        rw [List.take_succ_eq_append_getElem hl, ← ceA_at hl, ha]
      have hm := tmod_nat k wd
      have hd := tdiv_nat k wd
      have hm2 : IntKind.i64.wrap ((k % wd : Nat) : Int) = ((k % wd : Nat) : Int) := wrap_nat (by have := Nat.mod_lt k (show 0 < wd by omega); omega)
      have hd2 : IntKind.i64.wrap ((k / wd : Nat) : Int) = ((k / wd : Nat) : Int) := wrap_nat (Nat.le_trans (Nat.div_le_self k wd) (by omega))
      have Hct := Lib.hid hct
      clear ha hct
      generalize k % wd = cx at *
      generalize k / wd = cy at *
      have HV := Lib.hid hV
      have H9 := Lib.hid h9
      have H8 := Lib.hid h8
      clear hV h9 h8
      go_wp2
      go_region
      have hx5 : Ext wr (wr.alloc (.cells #[.int .i64 cx, .int .i64 cy, .int .i64 0] 60)).drew := ((Ext.refl _).alloc _).drew
      have kb : Blk (wr.alloc (.cells #[.int .i64 cx, .int .i64 cy, .int .i64 0] 60)).drew wr.heap.size [.int .i64 cx, .int .i64 cy, .int .i64 0] := (Blk.new _ _).ext (Ext.refl _).drew
      generalize (wr.alloc (.cells #[.int .i64 cx, .int .i64 cy, .int .i64 0] 60)).drew = w5 at hx5 kb ⊢
      have b0 := kb.at_ 0 rfl
      have b1 := kb.at_ 1 rfl
      have b2 := kb.at_ 2 rfl
      have e5 := (H9.out.later hx5).cell (j := 0) (by simp)
      simp only [List.getElem?_cons_zero] at e5
      have HV6 := Lib.hid ((HV.out.later hx5).alloc (.cells #[.int .i64 cx, .int .i64 cy, .int .i64 0] 60))
      have H96 := Lib.hid ((H9.out.later hx5).alloc (.cells #[.int .i64 cx, .int .i64 cy, .int .i64 0] 60))
      have H86 := Lib.hid ((H8.out.later hx5).alloc (.cells #[.int .i64 cx, .int .i64 cy, .int .i64 0] 60))
      have Hrw := Lib.hid (Gr.row_alloc w5 #[.int .i64 cx, .int .i64 cy, .int .i64 0] 60)
      clear kb e0 HV H9 H8 hx5
      go_wp2_with (refine Gr.own_append_at cell_elem rfl _ _ 79 rfl Tryz.underlying79 (.slice X k xc) k _ rfl HV6.out ⟨w5.heap.size, 0, none⟩ 1 1 [.int .i64 cx, .int .i64 cy, .int .i64 0] rfl rfl Hrw.out (by intro u hu; simp only [List.mem_cons, List.not_mem_nil, or_false] at hu; rcases hu with rfl | rfl | rfl <;> rfl) (by omega) (by unfold maxLen; omega) ?_; intro v9 w9 ho9 hg9 hl9; have hbs := (fun j (e : (Value.slice X k xc).ownBlock = some j) => (HV6.out.2.lt j e).1); have h99 := own_grown H96.out hg9 hbs (own_ne_row H96.out HV6.out.2 (by decide)); have h89 := own_grown H86.out hg9 hbs (own_ne_row H86.out HV6.out.2 (by decide)); obtain ⟨X9, c9, rfl⟩ := ho9.form; have c0 := h99.cell (j := 0) (by simp); have hf := h99.free 0; have hst := field_store (g8 := w.heap.size) (by omega) (by decide) ho9 h99 h89 (.slice X9 (k + 1) c9); have Hst := Lib.hid hst; clear ho9 h99 h89 hst hg9 hl9 hbs)
      go_roundw
      case rel => exact ⟨k + 1, .slice X9 (k + 1) c9, by omega, by go_num, by rw [Hct.out, List.map_append, List.flatten_append]; exact Hst.out.1, Hst.out.2⟩
      case measure => simp [intOf]; omega
    · obtain rfl : n = k := by omega
      have hki : ¬ (n : Int) < (n : Int) := by omega
      obtain ⟨g, c, rfl, _, _⟩ := hV.at_ hn0
      have c0 : wr.cell? ⟨w.heap.size + 1, 0, none⟩ = some (.slice (some ⟨g, 0, none⟩) n c) := h9.cell (j := 0) (by simp)
      have c1 : wr.cell? ⟨w.heap.size + 1, 1, none⟩ = some (.slice none 0 0) := h9.cell (j := 1) (by simp)
      have c2 : wr.cell? ⟨w.heap.size + 1, 2, none⟩ = some (.int .i64 wt) := h9.cell (j := 2) (by simp)
      have d0 : wr.cell? ⟨w.heap.size, 0, none⟩ = some (.slice none 0 0) := h8.cell (j := 0) (by simp)
      have d1 : wr.cell? ⟨w.heap.size, 1, none⟩ = some (.slice none 0 0) := h8.cell (j := 1) (by simp)
      have d2 : wr.cell? ⟨w.heap.size, 2, none⟩ = some (.int .i64 0) := h8.cell (j := 2) (by simp)
      have f0 := h8.free 0
      have f1 := h8.free 1
      have f2 := h8.free 2
      have h8s := ((h8.store 0 (.slice (some ⟨g, 0, none⟩) n c)).store 1 (.slice none 0 0)).store 2 (.int .i64 wt)
      have hle : w.heap.size ≤ w.heap.size := Nat.le_refl _
      have hne : (Value.slice (some ⟨g, 0, none⟩) n c).ownBlock ≠ some w.heap.size := by
        rcases own_ne_row hV h8.2 (by decide) with h | h
        · cases h
        · exact h
      have hVs := ((hV.other (p := ⟨w.heap.size, 0, none⟩) hle hne (.slice (some ⟨g, 0, none⟩) n c)).other (p := ⟨w.heap.size, 1, none⟩) hle hne (.slice none 0 0)).other (p := ⟨w.heap.size, 2, none⟩) hle hne (.int .i64 wt)
      have r0 := h8s.cell (j := 0) (by simp)
      have r1 := h8s.cell (j := 1) (by simp)
      have r2 := h8s.cell (j := 2) (by simp)
      have HV := Lib.hid hVs
      have Hr := Lib.hid (And.intro r0 (And.intro r1 r2))
      clear hV h9 h8 h8s hVs r0 r1 r2 hle hne
      go_wp2
      refine bodyPost_ret (results_ki rfl _ _ rfl Hr.out.1 Hr.out.2.1 Hr.out.2.2) rfl ?_
      refine ⟨g, c, rfl, ?_⟩
      have ht : C.take n = C := List.take_of_length_le (by rw [Hbl.out]; exact Nat.le_refl _)
      have := HV.out
      rw [ht] at this
      exact this
end Go.Proofs.YtebkhdhhajjhfaaGreat.Lt

/- Hinges at quarter turns: their poses are on the lattice. Plain Lean. -/
namespace Go.Proofs.YtebkhdhhajjhfaaGreat.Lt
end Go.Proofs.YtebkhdhhajjhfaaGreat.Lt

/- The law's plain, panel; kinds and bricks of two boards. -/
namespace Go.Proofs.YtebkhdhhajjhfaaGreat.Lt
open Go.RowKit
end Go.Proofs.YtebkhdhhajjhfaaGreat.Lt
