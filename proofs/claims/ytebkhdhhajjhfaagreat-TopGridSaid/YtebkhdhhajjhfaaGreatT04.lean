/- The factors of a mesh, by the code, for each kind. -/
import Derived.Test.YtebkhdhhajjhfaaGreatT03
import Derived.Maps.AppendAt
import Derived.Deep.AppendLies
import Derived.Test.YtebkhdhhajjhfaaGreatT02
import Derived.Laws.CopyOwn
namespace Go.Proofs.YtebkhdhhajjhfaaGreat.Gr
open Go.RowKit

def EqRes (w : World) (l : List Int) (e : Ending) (w' : World) : Prop :=
  ∃ g, e = .returned (.slice (some ⟨g, 0, none⟩) l.length l.length) ∧ Own w w' 3 1 (.slice (some ⟨g, 0, none⟩) l.length l.length) l.length (l.map vint)

theorem eqRes_of {w wb w' : World} {g n j : Nat} {l : List Int} {x : Int} (he : Ext w wb) (hl : (l.set j x).length = n)
    (h : Own wb w' 3 1 (.slice (some ⟨g, 0, none⟩) n n) n ((l.map vint).set j (vint x))) : EqRes w (l.set j x) (.returned (.slice (some ⟨g, 0, none⟩) n n)) w' := by
  subst hl
  exact ⟨g, rfl, by rw [List.map_set]; exact h.since he⟩

theorem made_ints (n : Nat) : (madeCells (Value.cells (.int .i64 0)) (n * 1)).toList = (List.replicate n 0).map vint := by
  apply List.ext_getElem
  · simp [madeCells]
  · intro i h1 h2
    simp [madeCells, Value.cells, Nat.mod_one]

set_option maxRecDepth 100000 in
set_option maxHeartbeats 2000000 in
theorem equation_1 (a b c : Nat) (n m : Int) (cnt : Nat) (w : World) (h8 : cnt ≤ 8) (ha : a < cnt) (hb : b < cnt) (hba : b ≠ a) :
    Calls Tryz.prog 85 #[.agg #[.int .u8 1, .int .i64 a, .int .i64 b, .int .i64 c, .int .i64 n, .int .i64 m], .int .i64 cnt] w (EqRes w (((List.replicate cnt (0 : Int)).set a n).set b m)) := by
  go_enter Tryz.func85, Tryz.ntmps85
  have hp0 : ∀ w', Ext (w.alloc (.cells #[.int .u8 1, vint a, vint b, vint c, vint n, vint m] 104)) w' → w'.cell? ⟨w.heap.size, 0, none⟩ = some (.int .u8 1) := fun w' he => he.cell (by simp)
  have hp1 : ∀ w', Ext (w.alloc (.cells #[.int .u8 1, vint a, vint b, vint c, vint n, vint m] 104)) w' → w'.cell? ⟨w.heap.size, 1, none⟩ = some (vint a) := fun w' he => he.cell (by simp)
  have hp2 : ∀ w', Ext (w.alloc (.cells #[.int .u8 1, vint a, vint b, vint c, vint n, vint m] 104)) w' → w'.cell? ⟨w.heap.size, 2, none⟩ = some (vint b) := fun w' he => he.cell (by simp)
  have hp3 : ∀ w', Ext (w.alloc (.cells #[.int .u8 1, vint a, vint b, vint c, vint n, vint m] 104)) w' → w'.cell? ⟨w.heap.size, 3, none⟩ = some (vint c) := fun w' he => he.cell (by simp)
  have hp4 : ∀ w', Ext (w.alloc (.cells #[.int .u8 1, vint a, vint b, vint c, vint n, vint m] 104)) w' → w'.cell? ⟨w.heap.size, 4, none⟩ = some (vint n) := fun w' he => he.cell (by simp)
  have hp5 : ∀ w', Ext (w.alloc (.cells #[.int .u8 1, vint a, vint b, vint c, vint n, vint m] 104)) w' → w'.cell? ⟨w.heap.size, 5, none⟩ = some (vint m) := fun w' he => he.cell (by simp)
  have hex0 : Ext w (w.alloc (.cells #[.int .u8 1, vint a, vint b, vint c, vint n, vint m] 104)) := by simp
  go_wp2_with (refine own_make (w1 := w.alloc (.cells #[.int .u8 1, vint a, vint b, vint c, vint n, vint m] 104)) int_elem rfl _ _ rfl Tryz.underlying128 _ cnt rfl rfl (by omega) (by unfold maxLen; omega) (Ext.refl _) ?_; intro w2 hown hx; rw [made_ints] at hown)
  simp only [World.alloc, Array.size_push] at hown
  change Own (w.alloc (.cells #[.int .u8 1, vint a, vint b, vint c, vint n, vint m] 104)) w2 _ _ _ _ _ at hown
  generalize w.heap.size + 1 = g at *
  generalize hwb : w.alloc (.cells #[.int .u8 1, vint a, vint b, vint c, vint n, vint m] 104) = wb at *
  clear hwb hx
  generalize w.heap.size = bx at *
  have hai : (a : Int) < (cnt : Int) := by omega
  have hbi : (b : Int) < (cnt : Int) := by omega
  have hfa : ((List.replicate cnt (0 : Int)).set a n)[a]? = some n := by rw [List.getElem?_set_self (by simpa using ha)]
  have hmix : Mixed wb g cnt (List.replicate cnt (0 : Int)) ((List.replicate cnt (0 : Int)).set a n) w2 := Mixed.start hown
  have hb0 : ∀ w', (ownPre wb g cnt (List.replicate cnt (0 : Int)) ((List.replicate cnt (0 : Int)).set a n)).R w2 w' → Ext wb w' := fun w' h => (h hmix).1.ext
  refine Cw.wp_region_calm (p := ownPre wb g cnt (List.replicate cnt (0 : Int)) ((List.replicate cnt (0 : Int)).set a n)) 12 (fun _ _ _ _ => True) (fun _ _ _ _ _ _ h => h) (by kernel_rfl) (by kernel_rfl) ?_
  simp only [List.take_succ_cons, List.take_zero, List.drop_succ_cons, List.drop_zero]
  refine Cw.calm_quiet Cw.calm_mono_final wb hb0 11 (by kernel_rfl) ?_
  simp only [List.take_succ_cons, List.take_zero, List.drop_succ_cons, List.drop_zero]
  repeat (go_big_quiet_step (fail))
  refine wpQuiet_nil ?_
  refine Cw.calm_store Cw.calm_mono_final ⟨g, a, none⟩ (vint n) rfl (fun w' hw => ?_) (fun w' hw => (hw hmix).1.setR ha hfa) ?_
  · have hm := (hw hmix).1
    obtain ⟨y, hy⟩ := hm.cell ha
    have hf := hm.free a
    go_simp
  simp only [Act.put]
  refine Cw.calm_nil fun w3 hw3 hF => ?_
  have hsa := ownPre_stored hmix ha hfa (by have := hF 11; first | exact this.2 rfl | exact this.1.2 rfl)
  have hfinal := (hw3 hmix).1.final (by simp) (fun i hi => by
    by_cases ea : i = a
    · subst ea; exact .inr hsa
    exact .inl (by rw [List.getElem?_set_ne (fun h => ea h.symm)]))
  clear hF hw3 hmix hb0 hown
  have hcell := hfinal.cell (j := b) (by simpa using hb)
  rw [List.getElem?_map, List.getElem?_set_ne (fun h => hba h.symm), List.getElem?_replicate, if_pos hb] at hcell
  have hfr := hfinal.free b
  have hst := hfinal.store b (vint m)
  go_wp2
  refine bodyPost_ret (by simp [results, Tryz.results85, go_sem]; try rfl) rfl ?_
  exact eqRes_of hex0 (by simp) hst

set_option maxRecDepth 100000 in
set_option maxHeartbeats 2000000 in
theorem equation_2 (a b c : Nat) (n m : Int) (cnt : Nat) (w : World) (h8 : cnt ≤ 8) (ha : a < cnt) (hb : b < cnt) (hba : b ≠ a) (hn1 : 1 ≤ n) (hn24 : n ≤ 24) (hm1 : 1 ≤ m) (hm24 : m ≤ 24) :
    Calls Tryz.prog 85 #[.agg #[.int .u8 2, .int .i64 a, .int .i64 b, .int .i64 c, .int .i64 n, .int .i64 m], .int .i64 cnt] w (EqRes w (((List.replicate cnt (0 : Int)).set a n).set b (-m))) := by
  have e1 : IntKind.i64.wrap (-m) = -m := by rw [IntKind.wrap_i64]; omega
  have e2 : IntKind.i64.wrap (n + m) = n + m := by rw [IntKind.wrap_i64]; omega
  have e3 : IntKind.i64.wrap (-(n + m)) = -(n + m) := by rw [IntKind.wrap_i64]; omega
  have e4 : IntKind.i64.wrap (-n) = -n := by rw [IntKind.wrap_i64]; omega
  have e5 : IntKind.i64.wrap (-n - m) = -(n + m) := by rw [IntKind.wrap_i64]; omega
  go_enter Tryz.func85, Tryz.ntmps85
  have hp0 : ∀ w', Ext (w.alloc (.cells #[.int .u8 2, vint a, vint b, vint c, vint n, vint m] 104)) w' → w'.cell? ⟨w.heap.size, 0, none⟩ = some (.int .u8 2) := fun w' he => he.cell (by simp)
  have hp1 : ∀ w', Ext (w.alloc (.cells #[.int .u8 2, vint a, vint b, vint c, vint n, vint m] 104)) w' → w'.cell? ⟨w.heap.size, 1, none⟩ = some (vint a) := fun w' he => he.cell (by simp)
  have hp2 : ∀ w', Ext (w.alloc (.cells #[.int .u8 2, vint a, vint b, vint c, vint n, vint m] 104)) w' → w'.cell? ⟨w.heap.size, 2, none⟩ = some (vint b) := fun w' he => he.cell (by simp)
  have hp3 : ∀ w', Ext (w.alloc (.cells #[.int .u8 2, vint a, vint b, vint c, vint n, vint m] 104)) w' → w'.cell? ⟨w.heap.size, 3, none⟩ = some (vint c) := fun w' he => he.cell (by simp)
  have hp4 : ∀ w', Ext (w.alloc (.cells #[.int .u8 2, vint a, vint b, vint c, vint n, vint m] 104)) w' → w'.cell? ⟨w.heap.size, 4, none⟩ = some (vint n) := fun w' he => he.cell (by simp)
  have hp5 : ∀ w', Ext (w.alloc (.cells #[.int .u8 2, vint a, vint b, vint c, vint n, vint m] 104)) w' → w'.cell? ⟨w.heap.size, 5, none⟩ = some (vint m) := fun w' he => he.cell (by simp)
  have hex0 : Ext w (w.alloc (.cells #[.int .u8 2, vint a, vint b, vint c, vint n, vint m] 104)) := by simp
  go_wp2_with (refine own_make (w1 := w.alloc (.cells #[.int .u8 2, vint a, vint b, vint c, vint n, vint m] 104)) int_elem rfl _ _ rfl Tryz.underlying128 _ cnt rfl rfl (by omega) (by unfold maxLen; omega) (Ext.refl _) ?_; intro w2 hown hx; rw [made_ints] at hown)
  simp only [World.alloc, Array.size_push] at hown
  change Own (w.alloc (.cells #[.int .u8 2, vint a, vint b, vint c, vint n, vint m] 104)) w2 _ _ _ _ _ at hown
  generalize w.heap.size + 1 = g at *
  generalize hwb : w.alloc (.cells #[.int .u8 2, vint a, vint b, vint c, vint n, vint m] 104) = wb at *
  clear hwb hx
  generalize w.heap.size = bx at *
  have hai : (a : Int) < (cnt : Int) := by omega
  have hbi : (b : Int) < (cnt : Int) := by omega
  have hfa : ((List.replicate cnt (0 : Int)).set a n)[a]? = some n := by rw [List.getElem?_set_self (by simpa using ha)]
  have hmix : Mixed wb g cnt (List.replicate cnt (0 : Int)) ((List.replicate cnt (0 : Int)).set a n) w2 := Mixed.start hown
  have hb0 : ∀ w', (ownPre wb g cnt (List.replicate cnt (0 : Int)) ((List.replicate cnt (0 : Int)).set a n)).R w2 w' → Ext wb w' := fun w' h => (h hmix).1.ext
  refine Cw.wp_region_calm (p := ownPre wb g cnt (List.replicate cnt (0 : Int)) ((List.replicate cnt (0 : Int)).set a n)) 13 (fun _ _ _ _ => True) (fun _ _ _ _ _ _ h => h) (by kernel_rfl) (by kernel_rfl) ?_
  simp only [List.take_succ_cons, List.take_zero, List.drop_succ_cons, List.drop_zero]
  refine Cw.calm_quiet Cw.calm_mono_final wb hb0 12 (by kernel_rfl) ?_
  simp only [List.take_succ_cons, List.take_zero, List.drop_succ_cons, List.drop_zero]
  repeat (go_big_quiet_step (fail))
  refine wpQuiet_nil ?_
  refine Cw.calm_store Cw.calm_mono_final ⟨g, a, none⟩ (vint n) rfl (fun w' hw => ?_) (fun w' hw => (hw hmix).1.setR ha hfa) ?_
  · have hm := (hw hmix).1
    obtain ⟨y, hy⟩ := hm.cell ha
    have hf := hm.free a
    go_simp
  simp only [Act.put]
  refine Cw.calm_nil fun w3 hw3 hF => ?_
  have hsa := ownPre_stored hmix ha hfa (by have := hF 12; first | exact this.2 rfl | exact this.1.2 rfl)
  have hfinal := (hw3 hmix).1.final (by simp) (fun i hi => by
    by_cases ea : i = a
    · subst ea; exact .inr hsa
    exact .inl (by rw [List.getElem?_set_ne (fun h => ea h.symm)]))
  clear hF hw3 hmix hb0 hown
  have hcell := hfinal.cell (j := b) (by simpa using hb)
  rw [List.getElem?_map, List.getElem?_set_ne (fun h => hba h.symm), List.getElem?_replicate, if_pos hb] at hcell
  have hfr := hfinal.free b
  have hst := hfinal.store b (vint (-m))
  go_wp2
  refine bodyPost_ret (by simp [results, Tryz.results85, go_sem]; try rfl) rfl ?_
  exact eqRes_of hex0 (by simp) hst

set_option maxRecDepth 100000 in
set_option maxHeartbeats 2000000 in
theorem equation_3 (a b c : Nat) (n m : Int) (cnt : Nat) (w : World) (h8 : cnt ≤ 8) (ha : a < cnt) (hb : b < cnt) (hba : b ≠ a) :
    Calls Tryz.prog 85 #[.agg #[.int .u8 3, .int .i64 a, .int .i64 b, .int .i64 c, .int .i64 n, .int .i64 m], .int .i64 cnt] w (EqRes w (((List.replicate cnt (0 : Int)).set a 1).set b (-1))) := by
  go_enter Tryz.func85, Tryz.ntmps85
  have hp0 : ∀ w', Ext (w.alloc (.cells #[.int .u8 3, vint a, vint b, vint c, vint n, vint m] 104)) w' → w'.cell? ⟨w.heap.size, 0, none⟩ = some (.int .u8 3) := fun w' he => he.cell (by simp)
  have hp1 : ∀ w', Ext (w.alloc (.cells #[.int .u8 3, vint a, vint b, vint c, vint n, vint m] 104)) w' → w'.cell? ⟨w.heap.size, 1, none⟩ = some (vint a) := fun w' he => he.cell (by simp)
  have hp2 : ∀ w', Ext (w.alloc (.cells #[.int .u8 3, vint a, vint b, vint c, vint n, vint m] 104)) w' → w'.cell? ⟨w.heap.size, 2, none⟩ = some (vint b) := fun w' he => he.cell (by simp)
  have hp3 : ∀ w', Ext (w.alloc (.cells #[.int .u8 3, vint a, vint b, vint c, vint n, vint m] 104)) w' → w'.cell? ⟨w.heap.size, 3, none⟩ = some (vint c) := fun w' he => he.cell (by simp)
  have hp4 : ∀ w', Ext (w.alloc (.cells #[.int .u8 3, vint a, vint b, vint c, vint n, vint m] 104)) w' → w'.cell? ⟨w.heap.size, 4, none⟩ = some (vint n) := fun w' he => he.cell (by simp)
  have hp5 : ∀ w', Ext (w.alloc (.cells #[.int .u8 3, vint a, vint b, vint c, vint n, vint m] 104)) w' → w'.cell? ⟨w.heap.size, 5, none⟩ = some (vint m) := fun w' he => he.cell (by simp)
  have hex0 : Ext w (w.alloc (.cells #[.int .u8 3, vint a, vint b, vint c, vint n, vint m] 104)) := by simp
  go_wp2_with (refine own_make (w1 := w.alloc (.cells #[.int .u8 3, vint a, vint b, vint c, vint n, vint m] 104)) int_elem rfl _ _ rfl Tryz.underlying128 _ cnt rfl rfl (by omega) (by unfold maxLen; omega) (Ext.refl _) ?_; intro w2 hown hx; rw [made_ints] at hown)
  simp only [World.alloc, Array.size_push] at hown
  change Own (w.alloc (.cells #[.int .u8 3, vint a, vint b, vint c, vint n, vint m] 104)) w2 _ _ _ _ _ at hown
  generalize w.heap.size + 1 = g at *
  generalize hwb : w.alloc (.cells #[.int .u8 3, vint a, vint b, vint c, vint n, vint m] 104) = wb at *
  clear hwb hx
  generalize w.heap.size = bx at *
  have hai : (a : Int) < (cnt : Int) := by omega
  have hbi : (b : Int) < (cnt : Int) := by omega
  have hfa : ((List.replicate cnt (0 : Int)).set a 1)[a]? = some 1 := by rw [List.getElem?_set_self (by simpa using ha)]
  have hmix : Mixed wb g cnt (List.replicate cnt (0 : Int)) ((List.replicate cnt (0 : Int)).set a 1) w2 := Mixed.start hown
  have hb0 : ∀ w', (ownPre wb g cnt (List.replicate cnt (0 : Int)) ((List.replicate cnt (0 : Int)).set a 1)).R w2 w' → Ext wb w' := fun w' h => (h hmix).1.ext
  refine Cw.wp_region_calm (p := ownPre wb g cnt (List.replicate cnt (0 : Int)) ((List.replicate cnt (0 : Int)).set a 1)) 8 (fun _ _ _ _ => True) (fun _ _ _ _ _ _ h => h) (by kernel_rfl) (by kernel_rfl) ?_
  simp only [List.take_succ_cons, List.take_zero, List.drop_succ_cons, List.drop_zero]
  refine Cw.calm_quiet Cw.calm_mono_final wb hb0 7 (by kernel_rfl) ?_
  simp only [List.take_succ_cons, List.take_zero, List.drop_succ_cons, List.drop_zero]
  repeat (go_big_quiet_step (fail))
  refine wpQuiet_nil ?_
  refine Cw.calm_store Cw.calm_mono_final ⟨g, a, none⟩ (vint 1) rfl (fun w' hw => ?_) (fun w' hw => (hw hmix).1.setR ha hfa) ?_
  · have hm := (hw hmix).1
    obtain ⟨y, hy⟩ := hm.cell ha
    have hf := hm.free a
    go_simp
  simp only [Act.put]
  refine Cw.calm_nil fun w3 hw3 hF => ?_
  have hsa := ownPre_stored hmix ha hfa (by have := hF 7; first | exact this.2 rfl | exact this.1.2 rfl)
  have hfinal := (hw3 hmix).1.final (by simp) (fun i hi => by
    by_cases ea : i = a
    · subst ea; exact .inr hsa
    exact .inl (by rw [List.getElem?_set_ne (fun h => ea h.symm)]))
  clear hF hw3 hmix hb0 hown
  have hcell := hfinal.cell (j := b) (by simpa using hb)
  rw [List.getElem?_map, List.getElem?_set_ne (fun h => hba h.symm), List.getElem?_replicate, if_pos hb] at hcell
  have hfr := hfinal.free b
  have hst := hfinal.store b (vint (-1))
  go_wp2
  refine bodyPost_ret (by simp [results, Tryz.results85, go_sem]; try rfl) rfl ?_
  exact eqRes_of hex0 (by simp) hst

set_option maxRecDepth 100000 in
set_option maxHeartbeats 2000000 in
theorem equation_4 (a b c : Nat) (n m : Int) (cnt : Nat) (w : World) (h8 : cnt ≤ 8) (ha : a < cnt) :
    Calls Tryz.prog 85 #[.agg #[.int .u8 4, .int .i64 a, .int .i64 b, .int .i64 c, .int .i64 n, .int .i64 m], .int .i64 cnt] w (EqRes w ((List.replicate cnt (0 : Int)).set a 1)) := by
  go_enter Tryz.func85, Tryz.ntmps85
  have hp0 : ∀ w', Ext (w.alloc (.cells #[.int .u8 4, vint a, vint b, vint c, vint n, vint m] 104)) w' → w'.cell? ⟨w.heap.size, 0, none⟩ = some (.int .u8 4) := fun w' he => he.cell (by simp)
  have hp1 : ∀ w', Ext (w.alloc (.cells #[.int .u8 4, vint a, vint b, vint c, vint n, vint m] 104)) w' → w'.cell? ⟨w.heap.size, 1, none⟩ = some (vint a) := fun w' he => he.cell (by simp)
  have hp2 : ∀ w', Ext (w.alloc (.cells #[.int .u8 4, vint a, vint b, vint c, vint n, vint m] 104)) w' → w'.cell? ⟨w.heap.size, 2, none⟩ = some (vint b) := fun w' he => he.cell (by simp)
  have hp3 : ∀ w', Ext (w.alloc (.cells #[.int .u8 4, vint a, vint b, vint c, vint n, vint m] 104)) w' → w'.cell? ⟨w.heap.size, 3, none⟩ = some (vint c) := fun w' he => he.cell (by simp)
  have hp4 : ∀ w', Ext (w.alloc (.cells #[.int .u8 4, vint a, vint b, vint c, vint n, vint m] 104)) w' → w'.cell? ⟨w.heap.size, 4, none⟩ = some (vint n) := fun w' he => he.cell (by simp)
  have hp5 : ∀ w', Ext (w.alloc (.cells #[.int .u8 4, vint a, vint b, vint c, vint n, vint m] 104)) w' → w'.cell? ⟨w.heap.size, 5, none⟩ = some (vint m) := fun w' he => he.cell (by simp)
  have hex0 : Ext w (w.alloc (.cells #[.int .u8 4, vint a, vint b, vint c, vint n, vint m] 104)) := by simp
  go_wp2_with (refine own_make (w1 := w.alloc (.cells #[.int .u8 4, vint a, vint b, vint c, vint n, vint m] 104)) int_elem rfl _ _ rfl Tryz.underlying128 _ cnt rfl rfl (by omega) (by unfold maxLen; omega) (Ext.refl _) ?_; intro w2 hown hx; rw [made_ints] at hown; have hcell := hown.cell (j := a) (by simpa using ha); rw [List.getElem?_map, List.getElem?_replicate, if_pos ha] at hcell; have hfr := hown.free a; have hai : (a : Int) < (cnt : Int) := (by omega); simp only [World.alloc, Array.size_push] at hcell hfr)
  simp only [World.alloc, Array.size_push] at hown
  change Own (w.alloc (.cells #[.int .u8 4, vint a, vint b, vint c, vint n, vint m] 104)) w2 _ _ _ _ _ at hown
  generalize w.heap.size + 1 = g at *
  generalize hwb : w.alloc (.cells #[.int .u8 4, vint a, vint b, vint c, vint n, vint m] 104) = wb at *
  clear hwb hx
  generalize w.heap.size = bx at *
  have hai : (a : Int) < (cnt : Int) := by omega
  have hst := hown.store a (vint 1)
  refine bodyPost_ret (by simp [results, Tryz.results85, go_sem]; try rfl) rfl ?_
  exact eqRes_of hex0 (by simp) hst

set_option maxRecDepth 100000 in
set_option maxHeartbeats 2000000 in
theorem equation_5 (a b c : Nat) (n m : Int) (cnt : Nat) (w : World) (h8 : cnt ≤ 8) (ha : a < cnt) (hb : b < cnt) (hba : b ≠ a) (hc : c < cnt) (hca : c ≠ a) (hcb : c ≠ b) :
    Calls Tryz.prog 85 #[.agg #[.int .u8 5, .int .i64 a, .int .i64 b, .int .i64 c, .int .i64 n, .int .i64 m], .int .i64 cnt] w (EqRes w ((((List.replicate cnt (0 : Int)).set a 1).set b 1).set c (-2))) := by
  go_enter Tryz.func85, Tryz.ntmps85
  have hp0 : ∀ w', Ext (w.alloc (.cells #[.int .u8 5, vint a, vint b, vint c, vint n, vint m] 104)) w' → w'.cell? ⟨w.heap.size, 0, none⟩ = some (.int .u8 5) := fun w' he => he.cell (by simp)
  have hp1 : ∀ w', Ext (w.alloc (.cells #[.int .u8 5, vint a, vint b, vint c, vint n, vint m] 104)) w' → w'.cell? ⟨w.heap.size, 1, none⟩ = some (vint a) := fun w' he => he.cell (by simp)
  have hp2 : ∀ w', Ext (w.alloc (.cells #[.int .u8 5, vint a, vint b, vint c, vint n, vint m] 104)) w' → w'.cell? ⟨w.heap.size, 2, none⟩ = some (vint b) := fun w' he => he.cell (by simp)
  have hp3 : ∀ w', Ext (w.alloc (.cells #[.int .u8 5, vint a, vint b, vint c, vint n, vint m] 104)) w' → w'.cell? ⟨w.heap.size, 3, none⟩ = some (vint c) := fun w' he => he.cell (by simp)
  have hp4 : ∀ w', Ext (w.alloc (.cells #[.int .u8 5, vint a, vint b, vint c, vint n, vint m] 104)) w' → w'.cell? ⟨w.heap.size, 4, none⟩ = some (vint n) := fun w' he => he.cell (by simp)
  have hp5 : ∀ w', Ext (w.alloc (.cells #[.int .u8 5, vint a, vint b, vint c, vint n, vint m] 104)) w' → w'.cell? ⟨w.heap.size, 5, none⟩ = some (vint m) := fun w' he => he.cell (by simp)
  have hex0 : Ext w (w.alloc (.cells #[.int .u8 5, vint a, vint b, vint c, vint n, vint m] 104)) := by simp
  go_wp2_with (refine own_make (w1 := w.alloc (.cells #[.int .u8 5, vint a, vint b, vint c, vint n, vint m] 104)) int_elem rfl _ _ rfl Tryz.underlying128 _ cnt rfl rfl (by omega) (by unfold maxLen; omega) (Ext.refl _) ?_; intro w2 hown hx; rw [made_ints] at hown)
  simp only [World.alloc, Array.size_push] at hown
  change Own (w.alloc (.cells #[.int .u8 5, vint a, vint b, vint c, vint n, vint m] 104)) w2 _ _ _ _ _ at hown
  generalize w.heap.size + 1 = g at *
  generalize hwb : w.alloc (.cells #[.int .u8 5, vint a, vint b, vint c, vint n, vint m] 104) = wb at *
  clear hwb hx
  generalize w.heap.size = bx at *
  have hai : (a : Int) < (cnt : Int) := by omega
  have hbi : (b : Int) < (cnt : Int) := by omega
  have hci : (c : Int) < (cnt : Int) := by omega
  have hfa : (((List.replicate cnt (0 : Int)).set a 1).set b 1)[a]? = some 1 := by rw [List.getElem?_set_ne hba]; rw [List.getElem?_set_self (by simpa using ha)]
  have hfb : (((List.replicate cnt (0 : Int)).set a 1).set b 1)[b]? = some 1 := by rw [List.getElem?_set_self (by simpa using hb)]
  have hmix : Mixed wb g cnt (List.replicate cnt (0 : Int)) (((List.replicate cnt (0 : Int)).set a 1).set b 1) w2 := Mixed.start hown
  have hb0 : ∀ w', (ownPre wb g cnt (List.replicate cnt (0 : Int)) (((List.replicate cnt (0 : Int)).set a 1).set b 1)).R w2 w' → Ext wb w' := fun w' h => (h hmix).1.ext
  refine Cw.wp_region_calm (p := ownPre wb g cnt (List.replicate cnt (0 : Int)) (((List.replicate cnt (0 : Int)).set a 1).set b 1)) 13 (fun _ _ _ _ => True) (fun _ _ _ _ _ _ h => h) (by kernel_rfl) (by kernel_rfl) ?_
  simp only [List.take_succ_cons, List.take_zero, List.drop_succ_cons, List.drop_zero]
  refine Cw.calm_quiet Cw.calm_mono_final wb hb0 10 (by kernel_rfl) ?_
  simp only [List.take_succ_cons, List.take_zero, List.drop_succ_cons, List.drop_zero]
  repeat (go_big_quiet_step (fail))
  refine wpQuiet_nil ?_
  refine Cw.calm_store Cw.calm_mono_final ⟨g, a, none⟩ (vint 1) rfl (fun w' hw => ?_) (fun w' hw => (hw hmix).1.setR ha hfa) ?_
  · have hm := (hw hmix).1
    obtain ⟨y, hy⟩ := hm.cell ha
    have hf := hm.free a
    go_simp
  simp only [Act.put]
  refine Cw.calm_quiet Cw.calm_mono_final wb hb0 1 (by kernel_rfl) ?_
  simp only [List.take_succ_cons, List.take_zero, List.drop_succ_cons, List.drop_zero]
  repeat (go_big_quiet_step (fail))
  refine wpQuiet_nil ?_
  refine Cw.calm_store Cw.calm_mono_final ⟨g, b, none⟩ (vint 1) rfl (fun w' hw => ?_) (fun w' hw => (hw hmix).1.setR hb hfb) ?_
  · have hm := (hw hmix).1
    obtain ⟨y, hy⟩ := hm.cell hb
    have hf := hm.free b
    go_simp
  simp only [Act.put]
  refine Cw.calm_nil fun w3 hw3 hF => ?_
  have hsa := ownPre_stored hmix ha hfa (by have := hF 10; first | exact this.2 rfl | exact this.1.2 rfl)
  have hsb := ownPre_stored hmix hb hfb (by have := hF 12; first | exact this.2 rfl | exact this.1.2 rfl)
  have hfinal := (hw3 hmix).1.final (by simp) (fun i hi => by
    by_cases ea : i = a
    · subst ea; exact .inr hsa
    by_cases eb : i = b
    · subst eb; exact .inr hsb
    exact .inl (by rw [List.getElem?_set_ne (fun h => eb h.symm)]; rw [List.getElem?_set_ne (fun h => ea h.symm)]))
  clear hF hw3 hmix hb0 hown
  have hcell := hfinal.cell (j := c) (by simpa using hc)
  rw [List.getElem?_map, List.getElem?_set_ne (fun h => hcb h.symm), List.getElem?_set_ne (fun h => hca h.symm), List.getElem?_replicate, if_pos hc] at hcell
  have hfr := hfinal.free c
  have hst := hfinal.store c (vint (-2))
  go_wp2
  refine bodyPost_ret (by simp [results, Tryz.results85, go_sem]; try rfl) rfl ?_
  exact eqRes_of hex0 (by simp) hst

set_option maxRecDepth 100000 in
set_option maxHeartbeats 2000000 in
theorem equation_6 (a b c : Nat) (n m : Int) (cnt : Nat) (w : World) (h8 : cnt ≤ 8) (ha : a < cnt) (hb : b < cnt) (hba : b ≠ a) (hc : c < cnt) (hca : c ≠ a) (hcb : c ≠ b) (hn1 : 1 ≤ n) (hn24 : n ≤ 24) (hm1 : 1 ≤ m) (hm24 : m ≤ 24) :
    Calls Tryz.prog 85 #[.agg #[.int .u8 6, .int .i64 a, .int .i64 b, .int .i64 c, .int .i64 n, .int .i64 m], .int .i64 cnt] w (EqRes w ((((List.replicate cnt (0 : Int)).set a n).set b m).set c (-(n + m)))) := by
  have e1 : IntKind.i64.wrap (-m) = -m := by rw [IntKind.wrap_i64]; omega
  have e2 : IntKind.i64.wrap (n + m) = n + m := by rw [IntKind.wrap_i64]; omega
  have e3 : IntKind.i64.wrap (-(n + m)) = -(n + m) := by rw [IntKind.wrap_i64]; omega
  have e4 : IntKind.i64.wrap (-n) = -n := by rw [IntKind.wrap_i64]; omega
  have e5 : IntKind.i64.wrap (-n - m) = -(n + m) := by rw [IntKind.wrap_i64]; omega
  go_enter Tryz.func85, Tryz.ntmps85
  have hp0 : ∀ w', Ext (w.alloc (.cells #[.int .u8 6, vint a, vint b, vint c, vint n, vint m] 104)) w' → w'.cell? ⟨w.heap.size, 0, none⟩ = some (.int .u8 6) := fun w' he => he.cell (by simp)
  have hp1 : ∀ w', Ext (w.alloc (.cells #[.int .u8 6, vint a, vint b, vint c, vint n, vint m] 104)) w' → w'.cell? ⟨w.heap.size, 1, none⟩ = some (vint a) := fun w' he => he.cell (by simp)
  have hp2 : ∀ w', Ext (w.alloc (.cells #[.int .u8 6, vint a, vint b, vint c, vint n, vint m] 104)) w' → w'.cell? ⟨w.heap.size, 2, none⟩ = some (vint b) := fun w' he => he.cell (by simp)
  have hp3 : ∀ w', Ext (w.alloc (.cells #[.int .u8 6, vint a, vint b, vint c, vint n, vint m] 104)) w' → w'.cell? ⟨w.heap.size, 3, none⟩ = some (vint c) := fun w' he => he.cell (by simp)
  have hp4 : ∀ w', Ext (w.alloc (.cells #[.int .u8 6, vint a, vint b, vint c, vint n, vint m] 104)) w' → w'.cell? ⟨w.heap.size, 4, none⟩ = some (vint n) := fun w' he => he.cell (by simp)
  have hp5 : ∀ w', Ext (w.alloc (.cells #[.int .u8 6, vint a, vint b, vint c, vint n, vint m] 104)) w' → w'.cell? ⟨w.heap.size, 5, none⟩ = some (vint m) := fun w' he => he.cell (by simp)
  have hex0 : Ext w (w.alloc (.cells #[.int .u8 6, vint a, vint b, vint c, vint n, vint m] 104)) := by simp
  go_wp2_with (refine own_make (w1 := w.alloc (.cells #[.int .u8 6, vint a, vint b, vint c, vint n, vint m] 104)) int_elem rfl _ _ rfl Tryz.underlying128 _ cnt rfl rfl (by omega) (by unfold maxLen; omega) (Ext.refl _) ?_; intro w2 hown hx; rw [made_ints] at hown)
  simp only [World.alloc, Array.size_push] at hown
  change Own (w.alloc (.cells #[.int .u8 6, vint a, vint b, vint c, vint n, vint m] 104)) w2 _ _ _ _ _ at hown
  generalize w.heap.size + 1 = g at *
  generalize hwb : w.alloc (.cells #[.int .u8 6, vint a, vint b, vint c, vint n, vint m] 104) = wb at *
  clear hwb hx
  generalize w.heap.size = bx at *
  have hai : (a : Int) < (cnt : Int) := by omega
  have hbi : (b : Int) < (cnt : Int) := by omega
  have hci : (c : Int) < (cnt : Int) := by omega
  have hfa : (((List.replicate cnt (0 : Int)).set a n).set b m)[a]? = some n := by rw [List.getElem?_set_ne hba]; rw [List.getElem?_set_self (by simpa using ha)]
  have hfb : (((List.replicate cnt (0 : Int)).set a n).set b m)[b]? = some m := by rw [List.getElem?_set_self (by simpa using hb)]
  have hmix : Mixed wb g cnt (List.replicate cnt (0 : Int)) (((List.replicate cnt (0 : Int)).set a n).set b m) w2 := Mixed.start hown
  have hb0 : ∀ w', (ownPre wb g cnt (List.replicate cnt (0 : Int)) (((List.replicate cnt (0 : Int)).set a n).set b m)).R w2 w' → Ext wb w' := fun w' h => (h hmix).1.ext
  refine Cw.wp_region_calm (p := ownPre wb g cnt (List.replicate cnt (0 : Int)) (((List.replicate cnt (0 : Int)).set a n).set b m)) 23 (fun _ _ _ _ => True) (fun _ _ _ _ _ _ h => h) (by kernel_rfl) (by kernel_rfl) ?_
  simp only [List.take_succ_cons, List.take_zero, List.drop_succ_cons, List.drop_zero]
  refine Cw.calm_quiet Cw.calm_mono_final wb hb0 20 (by kernel_rfl) ?_
  simp only [List.take_succ_cons, List.take_zero, List.drop_succ_cons, List.drop_zero]
  repeat (go_big_quiet_step (fail))
  refine wpQuiet_nil ?_
  refine Cw.calm_store Cw.calm_mono_final ⟨g, a, none⟩ (vint n) rfl (fun w' hw => ?_) (fun w' hw => (hw hmix).1.setR ha hfa) ?_
  · have hm := (hw hmix).1
    obtain ⟨y, hy⟩ := hm.cell ha
    have hf := hm.free a
    go_simp
  simp only [Act.put]
  refine Cw.calm_quiet Cw.calm_mono_final wb hb0 1 (by kernel_rfl) ?_
  simp only [List.take_succ_cons, List.take_zero, List.drop_succ_cons, List.drop_zero]
  repeat (go_big_quiet_step (fail))
  refine wpQuiet_nil ?_
  refine Cw.calm_store Cw.calm_mono_final ⟨g, b, none⟩ (vint m) rfl (fun w' hw => ?_) (fun w' hw => (hw hmix).1.setR hb hfb) ?_
  · have hm := (hw hmix).1
    obtain ⟨y, hy⟩ := hm.cell hb
    have hf := hm.free b
    go_simp
  simp only [Act.put]
  refine Cw.calm_nil fun w3 hw3 hF => ?_
  have hsa := ownPre_stored hmix ha hfa (by have := hF 20; first | exact this.2 rfl | exact this.1.2 rfl)
  have hsb := ownPre_stored hmix hb hfb (by have := hF 22; first | exact this.2 rfl | exact this.1.2 rfl)
  have hfinal := (hw3 hmix).1.final (by simp) (fun i hi => by
    by_cases ea : i = a
    · subst ea; exact .inr hsa
    by_cases eb : i = b
    · subst eb; exact .inr hsb
    exact .inl (by rw [List.getElem?_set_ne (fun h => eb h.symm)]; rw [List.getElem?_set_ne (fun h => ea h.symm)]))
  clear hF hw3 hmix hb0 hown
  have hcell := hfinal.cell (j := c) (by simpa using hc)
  rw [List.getElem?_map, List.getElem?_set_ne (fun h => hcb h.symm), List.getElem?_set_ne (fun h => hca h.symm), List.getElem?_replicate, if_pos hc] at hcell
  have hfr := hfinal.free c
  have hst := hfinal.store c (vint (-(n + m)))
  go_wp2
  refine bodyPost_ret (by simp [results, Tryz.results85, go_sem]; try rfl) rfl ?_
  exact eqRes_of hex0 (by simp) hst

set_option maxRecDepth 100000 in
set_option maxHeartbeats 2000000 in
theorem equation_7 (a b c : Nat) (n m : Int) (cnt : Nat) (w : World) (h8 : cnt ≤ 8) (ha : a < cnt) (hb : b < cnt) (hba : b ≠ a) :
    Calls Tryz.prog 85 #[.agg #[.int .u8 7, .int .i64 a, .int .i64 b, .int .i64 c, .int .i64 n, .int .i64 m], .int .i64 cnt] w (EqRes w (((List.replicate cnt (0 : Int)).set a 1).set b (-1))) := by
  go_enter Tryz.func85, Tryz.ntmps85
  have hp0 : ∀ w', Ext (w.alloc (.cells #[.int .u8 7, vint a, vint b, vint c, vint n, vint m] 104)) w' → w'.cell? ⟨w.heap.size, 0, none⟩ = some (.int .u8 7) := fun w' he => he.cell (by simp)
  have hp1 : ∀ w', Ext (w.alloc (.cells #[.int .u8 7, vint a, vint b, vint c, vint n, vint m] 104)) w' → w'.cell? ⟨w.heap.size, 1, none⟩ = some (vint a) := fun w' he => he.cell (by simp)
  have hp2 : ∀ w', Ext (w.alloc (.cells #[.int .u8 7, vint a, vint b, vint c, vint n, vint m] 104)) w' → w'.cell? ⟨w.heap.size, 2, none⟩ = some (vint b) := fun w' he => he.cell (by simp)
  have hp3 : ∀ w', Ext (w.alloc (.cells #[.int .u8 7, vint a, vint b, vint c, vint n, vint m] 104)) w' → w'.cell? ⟨w.heap.size, 3, none⟩ = some (vint c) := fun w' he => he.cell (by simp)
  have hp4 : ∀ w', Ext (w.alloc (.cells #[.int .u8 7, vint a, vint b, vint c, vint n, vint m] 104)) w' → w'.cell? ⟨w.heap.size, 4, none⟩ = some (vint n) := fun w' he => he.cell (by simp)
  have hp5 : ∀ w', Ext (w.alloc (.cells #[.int .u8 7, vint a, vint b, vint c, vint n, vint m] 104)) w' → w'.cell? ⟨w.heap.size, 5, none⟩ = some (vint m) := fun w' he => he.cell (by simp)
  have hex0 : Ext w (w.alloc (.cells #[.int .u8 7, vint a, vint b, vint c, vint n, vint m] 104)) := by simp
  go_wp2_with (refine own_make (w1 := w.alloc (.cells #[.int .u8 7, vint a, vint b, vint c, vint n, vint m] 104)) int_elem rfl _ _ rfl Tryz.underlying128 _ cnt rfl rfl (by omega) (by unfold maxLen; omega) (Ext.refl _) ?_; intro w2 hown hx; rw [made_ints] at hown)
  simp only [World.alloc, Array.size_push] at hown
  change Own (w.alloc (.cells #[.int .u8 7, vint a, vint b, vint c, vint n, vint m] 104)) w2 _ _ _ _ _ at hown
  generalize w.heap.size + 1 = g at *
  generalize hwb : w.alloc (.cells #[.int .u8 7, vint a, vint b, vint c, vint n, vint m] 104) = wb at *
  clear hwb hx
  generalize w.heap.size = bx at *
  have hai : (a : Int) < (cnt : Int) := by omega
  have hbi : (b : Int) < (cnt : Int) := by omega
  have hfa : ((List.replicate cnt (0 : Int)).set a 1)[a]? = some 1 := by rw [List.getElem?_set_self (by simpa using ha)]
  have hmix : Mixed wb g cnt (List.replicate cnt (0 : Int)) ((List.replicate cnt (0 : Int)).set a 1) w2 := Mixed.start hown
  have hb0 : ∀ w', (ownPre wb g cnt (List.replicate cnt (0 : Int)) ((List.replicate cnt (0 : Int)).set a 1)).R w2 w' → Ext wb w' := fun w' h => (h hmix).1.ext
  refine Cw.wp_region_calm (p := ownPre wb g cnt (List.replicate cnt (0 : Int)) ((List.replicate cnt (0 : Int)).set a 1)) 8 (fun _ _ _ _ => True) (fun _ _ _ _ _ _ h => h) (by kernel_rfl) (by kernel_rfl) ?_
  simp only [List.take_succ_cons, List.take_zero, List.drop_succ_cons, List.drop_zero]
  refine Cw.calm_quiet Cw.calm_mono_final wb hb0 7 (by kernel_rfl) ?_
  simp only [List.take_succ_cons, List.take_zero, List.drop_succ_cons, List.drop_zero]
  repeat (go_big_quiet_step (fail))
  refine wpQuiet_nil ?_
  refine Cw.calm_store Cw.calm_mono_final ⟨g, a, none⟩ (vint 1) rfl (fun w' hw => ?_) (fun w' hw => (hw hmix).1.setR ha hfa) ?_
  · have hm := (hw hmix).1
    obtain ⟨y, hy⟩ := hm.cell ha
    have hf := hm.free a
    go_simp
  simp only [Act.put]
  refine Cw.calm_nil fun w3 hw3 hF => ?_
  have hsa := ownPre_stored hmix ha hfa (by have := hF 7; first | exact this.2 rfl | exact this.1.2 rfl)
  have hfinal := (hw3 hmix).1.final (by simp) (fun i hi => by
    by_cases ea : i = a
    · subst ea; exact .inr hsa
    exact .inl (by rw [List.getElem?_set_ne (fun h => ea h.symm)]))
  clear hF hw3 hmix hb0 hown
  have hcell := hfinal.cell (j := b) (by simpa using hb)
  rw [List.getElem?_map, List.getElem?_set_ne (fun h => hba h.symm), List.getElem?_replicate, if_pos hb] at hcell
  have hfr := hfinal.free b
  have hst := hfinal.store b (vint (-1))
  go_wp2
  refine bodyPost_ret (by simp [results, Tryz.results85, go_sem]; try rfl) rfl ?_
  exact eqRes_of hex0 (by simp) hst
end Go.Proofs.YtebkhdhhajjhfaaGreat.Gr

/- The factors of a mesh, by the reference, for each kind. -/
namespace Go.Proofs.YtebkhdhhajjhfaaGreat.Gr
open Go.RowKit

theorem valid_nat {x : Msh} {cnt : Nat} (h : validB x (cnt : Int) = true) :
    ∃ a b c : Nat, ∃ n m : Int, x.a = a ∧ x.b = b ∧ x.c = c ∧ x.n = n ∧ x.m = m := by
  have hv : validP x cnt := of_decide_eq_true h
  obtain ⟨kind, a, b, c, n, m⟩ := x
  have hk := nsS_kind hv.1
  refine ⟨a.toNat, b.toNat, c.toNat, n, m, ?_, ?_, ?_, rfl, rfl⟩
  all_goals
    unfold validP nsS inR at hv
    simp only at hv hk ⊢
    repeat' split at hv
    all_goals omega

theorem equation_any (x : Msh) (cnt : Nat) (w : World) (h : validB x (cnt : Int) = true) (h8 : cnt ≤ 8) :
    Calls Tryz.prog 85 #[x.val, .int .i64 cnt] w (EqRes w (facS x cnt)) := by
  obtain ⟨a, b, c, n, m, ha, hb, hc, hn, hm⟩ := valid_nat h
  obtain ⟨kind, a', b', c', n', m'⟩ := x
  simp only at ha hb hc hn hm
  subst ha hb hc hn hm
  have hv : validP _ cnt := of_decide_eq_true h
  have hk := nsS_kind hv.1
  simp only at hk
  rcases (by omega : kind = 1 ∨ kind = 2 ∨ kind = 3 ∨ kind = 4 ∨ kind = 5 ∨ kind = 6 ∨ kind = 7) with rfl | rfl | rfl | rfl | rfl | rfl | rfl
  all_goals simp [validP, nsS, teethS, inR] at hv
  · exact equation_1 a b c n' m' cnt w h8 (by omega) (by omega) (by omega)
  · exact equation_2 a b c n' m' cnt w h8 (by omega) (by omega) (by omega) (by omega) (by omega) (by omega) (by omega)
  · exact equation_3 a b c n' m' cnt w h8 (by omega) (by omega) (by omega)
  · exact equation_4 a b c n' m' cnt w h8 (by omega)
  · exact equation_5 a b c n' m' cnt w h8 (by omega) (by omega) (by omega) (by omega) (by omega) (by omega)
  · exact equation_6 a b c n' m' cnt w h8 (by omega) (by omega) (by omega) (by omega) (by omega) (by omega) (by omega) (by omega) (by omega) (by omega)
  · exact equation_7 a b c n' m' cnt w h8 (by omega) (by omega) (by omega)

end Go.Proofs.YtebkhdhhajjhfaaGreat.Gr

/- The factors of a train's mesh, or the error: by both sides. -/
namespace Go.Proofs.YtebkhdhhajjhfaaGreat.Gr
open Go.RowKit

/-- The values that a slice of numbers may be. -/
def isInts (l : List Int) (v : Value) (w : World) : Prop := ∃ A c, v = .slice A l.length c ∧ Ints w A l
theorem isInts.ext {l : List Int} {v : Value} {w w' : World} (he : Ext w w') (h : isInts l v w) : isInts l v w' := by
  obtain ⟨A, c, hv, hi⟩ := h
  exact ⟨A, c, hv, hi.ext he⟩
end Go.Proofs.YtebkhdhhajjhfaaGreat.Gr

/- The factors of a train's mesh, or the error: by the reference. -/
namespace Go.Proofs.YtebkhdhhajjhfaaGreat.Gr
open Go.RowKit

end Go.Proofs.YtebkhdhhajjhfaaGreat.Gr

/- A train under construction: appending to a field of a struct in the call's own memory. No program in sight but the table of types. -/
namespace Go.Proofs.YtebkhdhhajjhfaaGreat.Gr
open Go.RowKit

theorem own_append_at {ops : Array Oper} {rest : List Oper} {o : Oper} {a : Act} {Q : Exit → Act → World → Prop} {w1 w : World} {e : TypeId} {z : Value} {size bytes : Nat}
    (hE : ElemInfo e z size bytes) (hg : o.guard = none) (s x : Operand) (t : TypeId) (hop : o.op = .call { callee := .builtin .append, args := #[s, x], argTypes := #[t, t] }) (ht : Tryz.prog.underlying t = some (.slice e))
    (v : Value) (n : Nat) (xs : List Value) (hs : a.eval s = v) (hown : Own w1 w e size v n xs) (ad : Addr) (m c : Nat) (news : List Value) (hx : a.eval x = .slice (some ad) m c) (hl : news.length = m * size) (hr : Row w (some ad) news) (h1 : ∀ u ∈ news, u.oneCell' = true)
    (hn : (n + m) * bytes ≤ 140737488355328) (hn2 : n + m ≤ maxLen)
    (hK : ∀ v' w', Own w1 w' e size v' (n + m) (xs ++ news) → w.grownBy w' v.ownBlock → (v'.ownBlock = v.ownBlock ∨ v'.ownBlock = some w.heap.size) → wpList Tryz.prog ops Q rest (a.put o.dst v') w') :
    wpList Tryz.prog ops Q (o :: rest) a w := by
  obtain ⟨i, hi, hz0, hz1, hz2⟩ := hE.info
  refine wpList_append_own_at w hg s x t hop w1.heap.size e i z size bytes ht hi hz0 hz1 hz2 hE.zs hE.pos v n xs hs hown.2 ad m c news hx hl (fun j u hu => ?_) h1 hn2 hn hown.1.le fun v' w' h2 h3 _ h5 => ?_
  · have hj := (List.getElem?_eq_some_iff.1 hu).1
    obtain ⟨ad', he, hc⟩ := hr j hj
    rw [Option.some.inj he]
    exact hc.trans hu
  · exact hK v' w' ⟨hown.1.grown h3 (fun k hk => (hown.2.lt k hk).1), h2⟩ h3 h5

theorem row_alloc (w : World) (cs : Array Value) (t : TypeId) : Row (w.alloc (.cells cs t)) (some ⟨w.heap.size, 0, none⟩) cs.toList := fun k hk => by
  refine ⟨_, rfl, ?_⟩
  have hadd : (⟨w.heap.size, 0, none⟩ : Addr).add k = ⟨w.heap.size, k, none⟩ := by unfold Addr.add; split <;> simp_all
  rw [hadd, World.cell?_alloc_at _ _ _ _ rfl]
  simp

end Go.Proofs.YtebkhdhhajjhfaaGreat.Gr

/- A train without some meshes, by the code. -/
namespace Go.Proofs.YtebkhdhhajjhfaaGreat.Gr
open Go.RowKit

end Go.Proofs.YtebkhdhhajjhfaaGreat.Gr

/- A train without some meshes, by the reference. -/
namespace Go.Proofs.YtebkhdhhajjhfaaGreat.Gr
open Go.RowKit

theorem row_heap {w : World} {b : Nat} {cs : Array Value} {t : TypeId} (h : w.heap[b]? = some (.cells cs t)) : Row w (some ⟨b, 0, none⟩) cs.toList := fun k hk => by
  refine ⟨_, rfl, ?_⟩
  have hadd : (⟨b, 0, none⟩ : Addr).add k = ⟨b, k, none⟩ := by unfold Addr.add; split <;> simp_all
  rw [hadd]
  simp [World.cell?, h]

end Go.Proofs.YtebkhdhhajjhfaaGreat.Gr

/- Lists of clutches: by the reference. -/
namespace Go.Proofs.YtebkhdhhajjhfaaGreat.Gr
open Go.RowKit

end Go.Proofs.YtebkhdhhajjhfaaGreat.Gr

/- Open: by both sides. -/
namespace Go.Proofs.YtebkhdhhajjhfaaGreat.Gr
open Go.RowKit

end Go.Proofs.YtebkhdhhajjhfaaGreat.Gr

/- Open: by the code. -/
namespace Go.Proofs.YtebkhdhhajjhfaaGreat.Gr
open Go.RowKit

end Go.Proofs.YtebkhdhhajjhfaaGreat.Gr

/- Lines: a shaft's factor; a line in new memory. -/
namespace Go.Proofs.YtebkhdhhajjhfaaGreat.Gr
open Go.RowKit

/-- Block g is new since w, and holds the numbers xs. -/
def NewInts (w w' : World) (g : Nat) (xs : List Int) : Prop := Ext w w' ∧ w.heap.size ≤ g ∧ w'.heap[g]? = some (.cells (xs.map vint).toArray 3)
abbrev sl (g n : Nat) : Value := .slice (some ⟨g, 0, none⟩) n n

section
variable {w w' : World} {g : Nat} {xs : List Int}
theorem NewInts.own (h : NewInts w w' g xs) (hx : xs.length ≤ maxLen) : Own w w' 3 1 (sl g xs.length) xs.length (xs.map vint) :=
  ⟨h.1, by simp, .inr ⟨g, xs.length, _, rfl, h.2.1, h.2.2, by omega, hx, by simp, by simp [← List.map_take]⟩⟩
theorem NewInts.ext (h : NewInts w w' g xs) : Ext w w' := h.1
theorem NewInts.later {w2 : World} (h : NewInts w w' g xs) (he : Ext w' w2) : NewInts w w2 g xs := ⟨h.1.trans he, h.2.1, he.heap h.2.2⟩
theorem NewInts.since {w0 : World} (h : NewInts w w' g xs) (he : Ext w0 w) : NewInts w0 w' g xs := ⟨he.trans h.1, Nat.le_trans he.le h.2.1, h.2.2⟩
theorem NewInts.lt (h : NewInts w w' g xs) : g < w'.heap.size := (Array.getElem?_eq_some_iff.1 h.2.2).1
theorem NewInts.new (h : NewInts w w' g xs) : Cf.New (sl g xs.length) w w' := ⟨g, rfl, h.2.1, h.lt⟩
theorem NewInts.cell (h : NewInts w w' g xs) {k : Nat} (hk : k < xs.length) : w'.cell? ⟨g, k, none⟩ = some (vint (getI xs k)) := by
  simp [World.cell?, h.2.2, hk, getI]
theorem NewInts.ints (h : NewInts w w' g xs) : Ints w' (some ⟨g, 0, none⟩) xs := by
  have := row_heap h.2.2
  simpa [Ints] using this
/-- From the row that 'make' has laid. -/
theorem NewInts.of_own {n : Nat} (h : Own w w' 3 1 (sl g n) n (xs.map vint)) : NewInts w w' g xs := by
  obtain ⟨he, hl, h2⟩ := h
  rcases h2 with ⟨h1, _⟩ | ⟨g', cap, cur, hv, hb, hh, hn, hc, hs, ht⟩
  · cases h1
  · simp only [sl, Value.slice.injEq, Option.some.injEq, Addr.mk.injEq, and_true, true_and] at hv
    obtain ⟨rfl, rfl⟩ := hv
    refine ⟨he, hb, ?_⟩
    have : cur.toList = xs.map vint := by
      rw [← ht, List.take_of_length_le]
      simp only [Array.length_toList, hs]
      omega
    rw [hh, ← this]
end

theorem splice_all {cur cs : List Value} (h : cur.length = cs.length) : splice cur 0 cs = cs := by
  simp [splice, ← h]

theorem src_ints {w w2 : World} {A : Option Addr} {xs : List Int} (hA : Ints w A xs) (he : Ext w w2) (hp : 0 < (xs.map vint).length) : ∃ ad, A = some ad ∧ ∀ j v, (xs.map vint)[j]? = some v → w2.cell? (ad.add j) = some v := by
  have hA := hA.ext he
  obtain ⟨ad, ha, _⟩ := hA 0 hp
  refine ⟨ad, ha, fun j v hv => ?_⟩
  obtain ⟨ad', ha', hc⟩ := hA j (List.getElem?_eq_some_iff.1 hv).1
  rw [ha] at ha'
  injection ha' with ha'
  subst ha'
  exact hc.trans hv

def TwinRes (w : World) (xs : List Int) (e : Ending) (w' : World) : Prop := ∃ g, e = .returned (sl g xs.length) ∧ NewInts w w' g xs

set_option maxRecDepth 100000 in
set_option maxHeartbeats 1000000 in
theorem twin_any (A : Option Addr) (c : Nat) (xs : List Int) (w : World) (hA : Ints w A xs) (hx : xs.length ≤ 1000000) :
    Calls Tryz.prog 83 #[.slice A xs.length c] w (TwinRes w xs) := by
  obtain ⟨n, hn⟩ : ∃ n, n = xs.length := ⟨_, rfl⟩
  rw [← hn]
  rw [← hn] at hx
  have Hn := Lib.hid hn
  clear hn
  go_enter Tryz.func83, Tryz.ntmps83
  go_wp2_with (first
    | (refine own_make (w1 := w) int_elem rfl _ _ rfl Tryz.underlying128 _ n rfl rfl (by omega) (by unfold maxLen; omega) (Ext.refl _) ?_; intro w2 hown hx2; rw [made_ints] at hown; have hnew := NewInts.of_own hown)
    | (refine wpList_copy_splice rfl _ _ 128 128 rfl 3 Tryz.underlying128 (by kernel_rfl) _ _ _ _ _ _ rfl rfl w.heap.size 0 ((List.replicate n 0).map vint) 3 hnew.2.2 (xs.map vint) (by have := Hn.out; rw [List.length_map, ← this]; exact (Nat.min_self n).symm) (fun hp => ⟨rfl, src_ints hA hx2 hp⟩) (by have := Hn.out; rw [List.length_map, List.length_map, List.length_replicate, ← this]; omega) (by intro v hv; simp at hv; obtain ⟨x, _, rfl⟩ := hv; rfl) w.heap.size w hnew.1 (Nat.le_refl _) ?_; intro w3 hw3 hb3))
  refine bodyPost_ret (by simp [results, Tryz.results83, go_sem]; try rfl) rfl ?_
  have hn := Hn.out
  refine ⟨w.heap.size, by rw [hn], hb3, Nat.le_refl _, ?_⟩
  have := hw3.out
  rw [splice_all (by simp [hn])] at this
  exact this
end Go.Proofs.YtebkhdhhajjhfaaGreat.Gr

/- Rows of equations in the call's own memory. No program in sight but the table of types. -/
namespace Go.Proofs.YtebkhdhhajjhfaaGreat.Gr
open Go.RowKit

theorem row_elem : ElemInfo 130 (.agg #[.slice none 0 0, .slice none 0 0]) 2 48 := ⟨info_parts (by kernel_rfl), rfl, by decide⟩

/-- An equation: where its two lines lie, and what they hold. -/
structure RowM where
  g : Nat
  h : Nat
  l : List Int
  b : List Int
def RowM.cells (n m : Nat) (r : RowM) : List Value := [sl r.g n, sl r.h m]
def blocksM (rs : List RowM) : List Nat := rs.flatMap fun r => [r.g, r.h]
def cellsM (n m : Nat) (rs : List RowM) : List Value := (rs.map (RowM.cells n m)).flatten
theorem cellsM_snoc (n m : Nat) (rs : List RowM) (r : RowM) : cellsM n m (rs ++ [r]) = cellsM n m rs ++ r.cells n m := by simp [cellsM]
theorem blocksM_snoc (rs : List RowM) (r : RowM) : blocksM (rs ++ [r]) = blocksM rs ++ [r.g, r.h] := by simp [blocksM]

structure RowOk (b w : World) (n m : Nat) (r : RowM) : Prop where
  gl : NewInts b w r.g r.l
  hb : NewInts b w r.h r.b
  ln : r.l.length = n
  bn : r.b.length = m

structure Mat (b w : World) (v : Value) (n m : Nat) (rs : List RowM) : Prop where
  own : Own b w 130 2 v rs.length (cellsM n m rs)
  rows : ∀ r ∈ rs, RowOk b w n m r
  nd : (blocksM rs).Nodup

section
variable {b w w' : World} {v : Value} {n m : Nat} {rs : List RowM}
theorem RowOk.later {r : RowM} (h : RowOk b w n m r) (he : Ext w w') : RowOk b w' n m r := ⟨h.gl.later he, h.hb.later he, h.ln, h.bn⟩
theorem Mat.later (h : Mat b w v n m rs) (he : Ext w w') : Mat b w' v n m rs := ⟨h.own.later he, fun r hr => (h.rows r hr).later he, h.nd⟩
theorem Mat.since {b0 : World} (h : Mat b w v n m rs) (he : Ext b0 b) : Mat b0 w v n m rs := ⟨h.own.since he, fun r hr => ⟨(h.rows r hr).gl.since he, (h.rows r hr).hb.since he, (h.rows r hr).ln, (h.rows r hr).bn⟩, h.nd⟩
theorem Mat.start (he : Ext b w) (n m : Nat) : Mat b w (.slice none 0 0) n m [] := ⟨Own.nil' he _ _, by simp, by simp [blocksM]⟩
theorem Mat.lt (h : Mat b w v n m rs) {k : Nat} (hk : k ∈ blocksM rs) : k < w.heap.size := by
  obtain ⟨r, hr, hk⟩ := List.mem_flatMap.1 hk
  simp at hk
  rcases hk with rfl | rfl
  · exact (h.rows r hr).gl.lt
  · exact (h.rows r hr).hb.lt
/-- The slice's own block is none of the lines'. -/
theorem Mat.apart (h : Mat b w v n m rs) {k : Nat} (hk : k ∈ blocksM rs) : v.ownBlock ≠ some k := fun e => by
  rcases h.own.2.2 with ⟨rfl, _⟩ | ⟨g, cap, cur, rfl, _, hh, _⟩
  · cases e
  · injection e with e
    simp only at e
    subst e
    obtain ⟨r, hr, hk⟩ := List.mem_flatMap.1 hk
    simp at hk
    rcases hk with rfl | rfl
    · have := (h.rows r hr).gl.2.2
      rw [hh] at this
      injection this with this
      injection this with _ ht
      exact absurd ht (by decide)
    · have := (h.rows r hr).hb.2.2
      rw [hh] at this
      injection this with this
      injection this with _ ht
      exact absurd ht (by decide)

/-- One row more, in new memory. -/
theorem Mat.append {w1 w2 : World} {v' : Value} {g h : Nat} {l bl : List Int} (hm : Mat b w v n m rs) (he : Ext w w1) (hg : NewInts w w1 g l) (hh : NewInts w w1 h bl) (hne : g ≠ h) (hl : l.length = n) (hb : bl.length = m)
    (ho : Own b w2 130 2 v' (rs.length + 1) (cellsM n m rs ++ [sl g n, sl h m])) (hgr : w1.grownBy w2 v.ownBlock) : Mat b w2 v' n m (rs ++ [⟨g, h, l, bl⟩]) := by
  have hbw : Ext b w := hm.own.ext
  have keep : ∀ k, k < w1.heap.size → v.ownBlock ≠ some k → w2.heap[k]? = w1.heap[k]? := fun k hk hv => hgr.block k hk (fun e => hv e.symm)
  have hv1 : ∀ k, w.heap.size ≤ k → v.ownBlock ≠ some k := fun k hk e => by
    have := (hm.own.2.lt k e).2
    omega
  refine ⟨by rw [cellsM_snoc, List.length_append]; exact ho, fun r hr => ?_, ?_⟩
  · rcases List.mem_append.1 hr with hr | hr
    · have h1 := hm.rows r hr
      have m1 : r.g ∈ blocksM rs := List.mem_flatMap.2 ⟨r, hr, by simp⟩
      have m2 : r.h ∈ blocksM rs := List.mem_flatMap.2 ⟨r, hr, by simp⟩
      refine ⟨⟨ho.ext, h1.gl.2.1, ?_⟩, ⟨ho.ext, h1.hb.2.1, ?_⟩, h1.ln, h1.bn⟩
      · rw [keep _ (Nat.lt_of_lt_of_le h1.gl.lt he.le) (hm.apart m1)]; exact he.heap h1.gl.2.2
      · rw [keep _ (Nat.lt_of_lt_of_le h1.hb.lt he.le) (hm.apart m2)]; exact he.heap h1.hb.2.2
    · simp only [List.mem_singleton] at hr
      subst hr
      refine ⟨⟨ho.ext, Nat.le_trans hbw.le hg.2.1, ?_⟩, ⟨ho.ext, Nat.le_trans hbw.le hh.2.1, ?_⟩, hl, hb⟩
      · rw [keep _ hg.lt (hv1 _ hg.2.1)]; exact hg.2.2
      · rw [keep _ hh.lt (hv1 _ hh.2.1)]; exact hh.2.2
  · rw [blocksM_snoc]
    refine List.nodup_append.2 ⟨hm.nd, by simp [hne], ?_⟩
    intro a ha c hc e
    subst e
    have := hm.lt ha
    simp at hc
    have h1 := hg.2.1
    have h2 := hh.2.1
    omega
end
end Go.Proofs.YtebkhdhhajjhfaaGreat.Gr
