/- The factors of a mesh, by the code, for each kind. -/
import Derived.Maps.AppendAt
import Derived.Deep.AppendLies
import Derived.Test.YtbclbcldplmppaaMv02
namespace Go.Proofs.Ytbclbcldplmppaa
open Go.RowKit

def EqRes (w : World) (l : List Int) (e : Ending) (w' : World) : Prop :=
  ∃ g, e = .returned (.slice (some ⟨g, 0, none⟩) l.length l.length) ∧ Own w w' 3 1 (.slice (some ⟨g, 0, none⟩) l.length l.length) l.length (l.map vint)

theorem eqRes_of {w wb w' : World} {g n j : Nat} {l : List Int} {x : Int} (he : Ext w wb) (hl : (l.set j x).length = n)
    (h : Own wb w' 3 1 (.slice (some ⟨g, 0, none⟩) n n) n ((l.map vint).set j (vint x))) : EqRes w (l.set j x) (.returned (.slice (some ⟨g, 0, none⟩) n n)) w' := by
  subst hl
  exact ⟨g, rfl, by rw [List.map_set]; exact h.since he⟩

theorem made_ints (n : Nat) : (madeCells (Value.cells (.int .i64 0)) (n * 1)).toList = (List.replicate n 0).map vint := by
  apply List.ext_getElem
  · simp [madeCells]
  · intro i h1 h2
    simp [madeCells, Value.cells, Nat.mod_one]

set_option maxRecDepth 100000 in
set_option maxHeartbeats 2000000 in
theorem equation_1 (a b c : Nat) (n m : Int) (cnt : Nat) (w : World) (h8 : cnt ≤ 8) (ha : a < cnt) (hb : b < cnt) (hba : b ≠ a) :
    Calls Try.prog 62 #[.agg #[.int .u8 1, .int .i64 a, .int .i64 b, .int .i64 c, .int .i64 n, .int .i64 m], .int .i64 cnt] w (EqRes w (((List.replicate cnt (0 : Int)).set a n).set b m)) := by
  go_enter Try.func62, Try.ntmps62
  have hp0 : ∀ w', Ext (w.alloc (.cells #[.int .u8 1, vint a, vint b, vint c, vint n, vint m] 57)) w' → w'.cell? ⟨w.heap.size, 0, none⟩ = some (.int .u8 1) := fun w' he => he.cell (by simp)
  have hp1 : ∀ w', Ext (w.alloc (.cells #[.int .u8 1, vint a, vint b, vint c, vint n, vint m] 57)) w' → w'.cell? ⟨w.heap.size, 1, none⟩ = some (vint a) := fun w' he => he.cell (by simp)
  have hp2 : ∀ w', Ext (w.alloc (.cells #[.int .u8 1, vint a, vint b, vint c, vint n, vint m] 57)) w' → w'.cell? ⟨w.heap.size, 2, none⟩ = some (vint b) := fun w' he => he.cell (by simp)
  have hp3 : ∀ w', Ext (w.alloc (.cells #[.int .u8 1, vint a, vint b, vint c, vint n, vint m] 57)) w' → w'.cell? ⟨w.heap.size, 3, none⟩ = some (vint c) := fun w' he => he.cell (by simp)
  have hp4 : ∀ w', Ext (w.alloc (.cells #[.int .u8 1, vint a, vint b, vint c, vint n, vint m] 57)) w' → w'.cell? ⟨w.heap.size, 4, none⟩ = some (vint n) := fun w' he => he.cell (by simp)
  have hp5 : ∀ w', Ext (w.alloc (.cells #[.int .u8 1, vint a, vint b, vint c, vint n, vint m] 57)) w' → w'.cell? ⟨w.heap.size, 5, none⟩ = some (vint m) := fun w' he => he.cell (by simp)
  have hex0 : Ext w (w.alloc (.cells #[.int .u8 1, vint a, vint b, vint c, vint n, vint m] 57)) := by simp
  go_wp2_with (refine own_make (w1 := w.alloc (.cells #[.int .u8 1, vint a, vint b, vint c, vint n, vint m] 57)) int_elem rfl _ _ rfl Try.underlying94 _ cnt rfl rfl (by omega) (by unfold maxLen; omega) (Ext.refl _) ?_; intro w2 hown hx; rw [made_ints] at hown)
  simp only [World.alloc, Array.size_push] at hown
  change Own (w.alloc (.cells #[.int .u8 1, vint a, vint b, vint c, vint n, vint m] 57)) w2 _ _ _ _ _ at hown
  generalize w.heap.size + 1 = g at *
  generalize hwb : w.alloc (.cells #[.int .u8 1, vint a, vint b, vint c, vint n, vint m] 57) = wb at *
  clear hwb hx
  generalize w.heap.size = bx at *
  have hai : (a : Int) < (cnt : Int) := by omega
  have hbi : (b : Int) < (cnt : Int) := by omega
  have hfa : ((List.replicate cnt (0 : Int)).set a n)[a]? = some n := by rw [List.getElem?_set_self (by simpa using ha)]
  have hmix : Mixed wb g cnt (List.replicate cnt (0 : Int)) ((List.replicate cnt (0 : Int)).set a n) w2 := Mixed.start hown
  have hb0 : ∀ w', (ownPre wb g cnt (List.replicate cnt (0 : Int)) ((List.replicate cnt (0 : Int)).set a n)).R w2 w' → Ext wb w' := fun w' h => (h hmix).1.ext
  refine Cw.wp_region_calm (p := ownPre wb g cnt (List.replicate cnt (0 : Int)) ((List.replicate cnt (0 : Int)).set a n)) 12 (fun _ _ _ _ => True) (fun _ _ _ _ _ _ h => h) (by kernel_rfl) (by kernel_rfl) ?_
  simp only [List.take_succ_cons, List.take_zero, List.drop_succ_cons, List.drop_zero]
  refine Cw.calm_quiet Cw.calm_mono_final wb hb0 11 (by kernel_rfl) ?_
  simp only [List.take_succ_cons, List.take_zero, List.drop_succ_cons, List.drop_zero]
  repeat (go_big_quiet_step (fail))
  refine wpQuiet_nil ?_
  refine Cw.calm_store Cw.calm_mono_final ⟨g, a, none⟩ (vint n) rfl (fun w' hw => ?_) (fun w' hw => (hw hmix).1.setR ha hfa) ?_
  · have hm := (hw hmix).1
    obtain ⟨y, hy⟩ := hm.cell ha
    have hf := hm.free a
    go_simp
  simp only [Act.put]
  refine Cw.calm_nil fun w3 hw3 hF => ?_
  have hsa := ownPre_stored hmix ha hfa (by have := hF 11; first | exact this.2 rfl | exact this.1.2 rfl)
  have hfinal := (hw3 hmix).1.final (by simp) (fun i hi => by
    by_cases ea : i = a
    · subst ea; exact .inr hsa
    exact .inl (by rw [List.getElem?_set_ne (fun h => ea h.symm)]))
  clear hF hw3 hmix hb0 hown
  have hcell := hfinal.cell (j := b) (by simpa using hb)
  rw [List.getElem?_map, List.getElem?_set_ne (fun h => hba h.symm), List.getElem?_replicate, if_pos hb] at hcell
  have hfr := hfinal.free b
  have hst := hfinal.store b (vint m)
  go_wp2
  refine bodyPost_ret (by simp [results, Try.results62, go_sem]; try rfl) rfl ?_
  exact eqRes_of hex0 (by simp) hst

set_option maxRecDepth 100000 in
set_option maxHeartbeats 2000000 in
theorem equation_2 (a b c : Nat) (n m : Int) (cnt : Nat) (w : World) (h8 : cnt ≤ 8) (ha : a < cnt) (hb : b < cnt) (hba : b ≠ a) (hn1 : 1 ≤ n) (hn24 : n ≤ 24) (hm1 : 1 ≤ m) (hm24 : m ≤ 24) :
    Calls Try.prog 62 #[.agg #[.int .u8 2, .int .i64 a, .int .i64 b, .int .i64 c, .int .i64 n, .int .i64 m], .int .i64 cnt] w (EqRes w (((List.replicate cnt (0 : Int)).set a n).set b (-m))) := by
  have e1 : IntKind.i64.wrap (-m) = -m := by rw [IntKind.wrap_i64]; omega
  have e2 : IntKind.i64.wrap (n + m) = n + m := by rw [IntKind.wrap_i64]; omega
  have e3 : IntKind.i64.wrap (-(n + m)) = -(n + m) := by rw [IntKind.wrap_i64]; omega
  have e4 : IntKind.i64.wrap (-n) = -n := by rw [IntKind.wrap_i64]; omega
  have e5 : IntKind.i64.wrap (-n - m) = -(n + m) := by rw [IntKind.wrap_i64]; omega
  go_enter Try.func62, Try.ntmps62
  have hp0 : ∀ w', Ext (w.alloc (.cells #[.int .u8 2, vint a, vint b, vint c, vint n, vint m] 57)) w' → w'.cell? ⟨w.heap.size, 0, none⟩ = some (.int .u8 2) := fun w' he => he.cell (by simp)
  have hp1 : ∀ w', Ext (w.alloc (.cells #[.int .u8 2, vint a, vint b, vint c, vint n, vint m] 57)) w' → w'.cell? ⟨w.heap.size, 1, none⟩ = some (vint a) := fun w' he => he.cell (by simp)
  have hp2 : ∀ w', Ext (w.alloc (.cells #[.int .u8 2, vint a, vint b, vint c, vint n, vint m] 57)) w' → w'.cell? ⟨w.heap.size, 2, none⟩ = some (vint b) := fun w' he => he.cell (by simp)
  have hp3 : ∀ w', Ext (w.alloc (.cells #[.int .u8 2, vint a, vint b, vint c, vint n, vint m] 57)) w' → w'.cell? ⟨w.heap.size, 3, none⟩ = some (vint c) := fun w' he => he.cell (by simp)
  have hp4 : ∀ w', Ext (w.alloc (.cells #[.int .u8 2, vint a, vint b, vint c, vint n, vint m] 57)) w' → w'.cell? ⟨w.heap.size, 4, none⟩ = some (vint n) := fun w' he => he.cell (by simp)
  have hp5 : ∀ w', Ext (w.alloc (.cells #[.int .u8 2, vint a, vint b, vint c, vint n, vint m] 57)) w' → w'.cell? ⟨w.heap.size, 5, none⟩ = some (vint m) := fun w' he => he.cell (by simp)
  have hex0 : Ext w (w.alloc (.cells #[.int .u8 2, vint a, vint b, vint c, vint n, vint m] 57)) := by simp
  go_wp2_with (refine own_make (w1 := w.alloc (.cells #[.int .u8 2, vint a, vint b, vint c, vint n, vint m] 57)) int_elem rfl _ _ rfl Try.underlying94 _ cnt rfl rfl (by omega) (by unfold maxLen; omega) (Ext.refl _) ?_; intro w2 hown hx; rw [made_ints] at hown)
  simp only [World.alloc, Array.size_push] at hown
  change Own (w.alloc (.cells #[.int .u8 2, vint a, vint b, vint c, vint n, vint m] 57)) w2 _ _ _ _ _ at hown
  generalize w.heap.size + 1 = g at *
  generalize hwb : w.alloc (.cells #[.int .u8 2, vint a, vint b, vint c, vint n, vint m] 57) = wb at *
  clear hwb hx
  generalize w.heap.size = bx at *
  have hai : (a : Int) < (cnt : Int) := by omega
  have hbi : (b : Int) < (cnt : Int) := by omega
  have hfa : ((List.replicate cnt (0 : Int)).set a n)[a]? = some n := by rw [List.getElem?_set_self (by simpa using ha)]
  have hmix : Mixed wb g cnt (List.replicate cnt (0 : Int)) ((List.replicate cnt (0 : Int)).set a n) w2 := Mixed.start hown
  have hb0 : ∀ w', (ownPre wb g cnt (List.replicate cnt (0 : Int)) ((List.replicate cnt (0 : Int)).set a n)).R w2 w' → Ext wb w' := fun w' h => (h hmix).1.ext
  refine Cw.wp_region_calm (p := ownPre wb g cnt (List.replicate cnt (0 : Int)) ((List.replicate cnt (0 : Int)).set a n)) 13 (fun _ _ _ _ => True) (fun _ _ _ _ _ _ h => h) (by kernel_rfl) (by kernel_rfl) ?_
  simp only [List.take_succ_cons, List.take_zero, List.drop_succ_cons, List.drop_zero]
  refine Cw.calm_quiet Cw.calm_mono_final wb hb0 12 (by kernel_rfl) ?_
  simp only [List.take_succ_cons, List.take_zero, List.drop_succ_cons, List.drop_zero]
  repeat (go_big_quiet_step (fail))
  refine wpQuiet_nil ?_
  refine Cw.calm_store Cw.calm_mono_final ⟨g, a, none⟩ (vint n) rfl (fun w' hw => ?_) (fun w' hw => (hw hmix).1.setR ha hfa) ?_
  · have hm := (hw hmix).1
    obtain ⟨y, hy⟩ := hm.cell ha
    have hf := hm.free a
    go_simp
  simp only [Act.put]
  refine Cw.calm_nil fun w3 hw3 hF => ?_
  have hsa := ownPre_stored hmix ha hfa (by have := hF 12; first | exact this.2 rfl | exact this.1.2 rfl)
  have hfinal := (hw3 hmix).1.final (by simp) (fun i hi => by
    by_cases ea : i = a
    · subst ea; exact .inr hsa
    exact .inl (by rw [List.getElem?_set_ne (fun h => ea h.symm)]))
  clear hF hw3 hmix hb0 hown
  have hcell := hfinal.cell (j := b) (by simpa using hb)
  rw [List.getElem?_map, List.getElem?_set_ne (fun h => hba h.symm), List.getElem?_replicate, if_pos hb] at hcell
  have hfr := hfinal.free b
  have hst := hfinal.store b (vint (-m))
  go_wp2
  refine bodyPost_ret (by simp [results, Try.results62, go_sem]; try rfl) rfl ?_
  exact eqRes_of hex0 (by simp) hst

set_option maxRecDepth 100000 in
set_option maxHeartbeats 2000000 in
theorem equation_3 (a b c : Nat) (n m : Int) (cnt : Nat) (w : World) (h8 : cnt ≤ 8) (ha : a < cnt) (hb : b < cnt) (hba : b ≠ a) :
    Calls Try.prog 62 #[.agg #[.int .u8 3, .int .i64 a, .int .i64 b, .int .i64 c, .int .i64 n, .int .i64 m], .int .i64 cnt] w (EqRes w (((List.replicate cnt (0 : Int)).set a 1).set b (-1))) := by
  go_enter Try.func62, Try.ntmps62
  have hp0 : ∀ w', Ext (w.alloc (.cells #[.int .u8 3, vint a, vint b, vint c, vint n, vint m] 57)) w' → w'.cell? ⟨w.heap.size, 0, none⟩ = some (.int .u8 3) := fun w' he => he.cell (by simp)
  have hp1 : ∀ w', Ext (w.alloc (.cells #[.int .u8 3, vint a, vint b, vint c, vint n, vint m] 57)) w' → w'.cell? ⟨w.heap.size, 1, none⟩ = some (vint a) := fun w' he => he.cell (by simp)
  have hp2 : ∀ w', Ext (w.alloc (.cells #[.int .u8 3, vint a, vint b, vint c, vint n, vint m] 57)) w' → w'.cell? ⟨w.heap.size, 2, none⟩ = some (vint b) := fun w' he => he.cell (by simp)
  have hp3 : ∀ w', Ext (w.alloc (.cells #[.int .u8 3, vint a, vint b, vint c, vint n, vint m] 57)) w' → w'.cell? ⟨w.heap.size, 3, none⟩ = some (vint c) := fun w' he => he.cell (by simp)
  have hp4 : ∀ w', Ext (w.alloc (.cells #[.int .u8 3, vint a, vint b, vint c, vint n, vint m] 57)) w' → w'.cell? ⟨w.heap.size, 4, none⟩ = some (vint n) := fun w' he => he.cell (by simp)
  have hp5 : ∀ w', Ext (w.alloc (.cells #[.int .u8 3, vint a, vint b, vint c, vint n, vint m] 57)) w' → w'.cell? ⟨w.heap.size, 5, none⟩ = some (vint m) := fun w' he => he.cell (by simp)
  have hex0 : Ext w (w.alloc (.cells #[.int .u8 3, vint a, vint b, vint c, vint n, vint m] 57)) := by simp
  go_wp2_with (refine own_make (w1 := w.alloc (.cells #[.int .u8 3, vint a, vint b, vint c, vint n, vint m] 57)) int_elem rfl _ _ rfl Try.underlying94 _ cnt rfl rfl (by omega) (by unfold maxLen; omega) (Ext.refl _) ?_; intro w2 hown hx; rw [made_ints] at hown)
  simp only [World.alloc, Array.size_push] at hown
  change Own (w.alloc (.cells #[.int .u8 3, vint a, vint b, vint c, vint n, vint m] 57)) w2 _ _ _ _ _ at hown
  generalize w.heap.size + 1 = g at *
  generalize hwb : w.alloc (.cells #[.int .u8 3, vint a, vint b, vint c, vint n, vint m] 57) = wb at *
  clear hwb hx
  generalize w.heap.size = bx at *
  have hai : (a : Int) < (cnt : Int) := by omega
  have hbi : (b : Int) < (cnt : Int) := by omega
  have hfa : ((List.replicate cnt (0 : Int)).set a 1)[a]? = some 1 := by rw [List.getElem?_set_self (by simpa using ha)]
  have hmix : Mixed wb g cnt (List.replicate cnt (0 : Int)) ((List.replicate cnt (0 : Int)).set a 1) w2 := Mixed.start hown
  have hb0 : ∀ w', (ownPre wb g cnt (List.replicate cnt (0 : Int)) ((List.replicate cnt (0 : Int)).set a 1)).R w2 w' → Ext wb w' := fun w' h => (h hmix).1.ext
  refine Cw.wp_region_calm (p := ownPre wb g cnt (List.replicate cnt (0 : Int)) ((List.replicate cnt (0 : Int)).set a 1)) 8 (fun _ _ _ _ => True) (fun _ _ _ _ _ _ h => h) (by kernel_rfl) (by kernel_rfl) ?_
  simp only [List.take_succ_cons, List.take_zero, List.drop_succ_cons, List.drop_zero]
  refine Cw.calm_quiet Cw.calm_mono_final wb hb0 7 (by kernel_rfl) ?_
  simp only [List.take_succ_cons, List.take_zero, List.drop_succ_cons, List.drop_zero]
  repeat (go_big_quiet_step (fail))
  refine wpQuiet_nil ?_
  refine Cw.calm_store Cw.calm_mono_final ⟨g, a, none⟩ (vint 1) rfl (fun w' hw => ?_) (fun w' hw => (hw hmix).1.setR ha hfa) ?_
  · have hm := (hw hmix).1
    obtain ⟨y, hy⟩ := hm.cell ha
    have hf := hm.free a
    go_simp
  simp only [Act.put]
  refine Cw.calm_nil fun w3 hw3 hF => ?_
  have hsa := ownPre_stored hmix ha hfa (by have := hF 7; first | exact this.2 rfl | exact this.1.2 rfl)
  have hfinal := (hw3 hmix).1.final (by simp) (fun i hi => by
    by_cases ea : i = a
    · subst ea; exact .inr hsa
    exact .inl (by rw [List.getElem?_set_ne (fun h => ea h.symm)]))
  clear hF hw3 hmix hb0 hown
  have hcell := hfinal.cell (j := b) (by simpa using hb)
  rw [List.getElem?_map, List.getElem?_set_ne (fun h => hba h.symm), List.getElem?_replicate, if_pos hb] at hcell
  have hfr := hfinal.free b
  have hst := hfinal.store b (vint (-1))
  go_wp2
  refine bodyPost_ret (by simp [results, Try.results62, go_sem]; try rfl) rfl ?_
  exact eqRes_of hex0 (by simp) hst

set_option maxRecDepth 100000 in
set_option maxHeartbeats 2000000 in
theorem equation_4 (a b c : Nat) (n m : Int) (cnt : Nat) (w : World) (h8 : cnt ≤ 8) (ha : a < cnt) :
    Calls Try.prog 62 #[.agg #[.int .u8 4, .int .i64 a, .int .i64 b, .int .i64 c, .int .i64 n, .int .i64 m], .int .i64 cnt] w (EqRes w ((List.replicate cnt (0 : Int)).set a 1)) := by
  go_enter Try.func62, Try.ntmps62
  have hp0 : ∀ w', Ext (w.alloc (.cells #[.int .u8 4, vint a, vint b, vint c, vint n, vint m] 57)) w' → w'.cell? ⟨w.heap.size, 0, none⟩ = some (.int .u8 4) := fun w' he => he.cell (by simp)
  have hp1 : ∀ w', Ext (w.alloc (.cells #[.int .u8 4, vint a, vint b, vint c, vint n, vint m] 57)) w' → w'.cell? ⟨w.heap.size, 1, none⟩ = some (vint a) := fun w' he => he.cell (by simp)
  have hp2 : ∀ w', Ext (w.alloc (.cells #[.int .u8 4, vint a, vint b, vint c, vint n, vint m] 57)) w' → w'.cell? ⟨w.heap.size, 2, none⟩ = some (vint b) := fun w' he => he.cell (by simp)
  have hp3 : ∀ w', Ext (w.alloc (.cells #[.int .u8 4, vint a, vint b, vint c, vint n, vint m] 57)) w' → w'.cell? ⟨w.heap.size, 3, none⟩ = some (vint c) := fun w' he => he.cell (by simp)
  have hp4 : ∀ w', Ext (w.alloc (.cells #[.int .u8 4, vint a, vint b, vint c, vint n, vint m] 57)) w' → w'.cell? ⟨w.heap.size, 4, none⟩ = some (vint n) := fun w' he => he.cell (by simp)
  have hp5 : ∀ w', Ext (w.alloc (.cells #[.int .u8 4, vint a, vint b, vint c, vint n, vint m] 57)) w' → w'.cell? ⟨w.heap.size, 5, none⟩ = some (vint m) := fun w' he => he.cell (by simp)
  have hex0 : Ext w (w.alloc (.cells #[.int .u8 4, vint a, vint b, vint c, vint n, vint m] 57)) := by simp
  go_wp2_with (refine own_make (w1 := w.alloc (.cells #[.int .u8 4, vint a, vint b, vint c, vint n, vint m] 57)) int_elem rfl _ _ rfl Try.underlying94 _ cnt rfl rfl (by omega) (by unfold maxLen; omega) (Ext.refl _) ?_; intro w2 hown hx; rw [made_ints] at hown; have hcell := hown.cell (j := a) (by simpa using ha); rw [List.getElem?_map, List.getElem?_replicate, if_pos ha] at hcell; have hfr := hown.free a; have hai : (a : Int) < (cnt : Int) := (by omega); simp only [World.alloc, Array.size_push] at hcell hfr)
  simp only [World.alloc, Array.size_push] at hown
  change Own (w.alloc (.cells #[.int .u8 4, vint a, vint b, vint c, vint n, vint m] 57)) w2 _ _ _ _ _ at hown
  generalize w.heap.size + 1 = g at *
  generalize hwb : w.alloc (.cells #[.int .u8 4, vint a, vint b, vint c, vint n, vint m] 57) = wb at *
  clear hwb hx
  generalize w.heap.size = bx at *
  have hai : (a : Int) < (cnt : Int) := by omega
  have hst := hown.store a (vint 1)
  refine bodyPost_ret (by simp [results, Try.results62, go_sem]; try rfl) rfl ?_
  exact eqRes_of hex0 (by simp) hst

set_option maxRecDepth 100000 in
set_option maxHeartbeats 2000000 in
theorem equation_5 (a b c : Nat) (n m : Int) (cnt : Nat) (w : World) (h8 : cnt ≤ 8) (ha : a < cnt) (hb : b < cnt) (hba : b ≠ a) (hc : c < cnt) (hca : c ≠ a) (hcb : c ≠ b) :
    Calls Try.prog 62 #[.agg #[.int .u8 5, .int .i64 a, .int .i64 b, .int .i64 c, .int .i64 n, .int .i64 m], .int .i64 cnt] w (EqRes w ((((List.replicate cnt (0 : Int)).set a 1).set b 1).set c (-2))) := by
  go_enter Try.func62, Try.ntmps62
  have hp0 : ∀ w', Ext (w.alloc (.cells #[.int .u8 5, vint a, vint b, vint c, vint n, vint m] 57)) w' → w'.cell? ⟨w.heap.size, 0, none⟩ = some (.int .u8 5) := fun w' he => he.cell (by simp)
  have hp1 : ∀ w', Ext (w.alloc (.cells #[.int .u8 5, vint a, vint b, vint c, vint n, vint m] 57)) w' → w'.cell? ⟨w.heap.size, 1, none⟩ = some (vint a) := fun w' he => he.cell (by simp)
  have hp2 : ∀ w', Ext (w.alloc (.cells #[.int .u8 5, vint a, vint b, vint c, vint n, vint m] 57)) w' → w'.cell? ⟨w.heap.size, 2, none⟩ = some (vint b) := fun w' he => he.cell (by simp)
  have hp3 : ∀ w', Ext (w.alloc (.cells #[.int .u8 5, vint a, vint b, vint c, vint n, vint m] 57)) w' → w'.cell? ⟨w.heap.size, 3, none⟩ = some (vint c) := fun w' he => he.cell (by simp)
  have hp4 : ∀ w', Ext (w.alloc (.cells #[.int .u8 5, vint a, vint b, vint c, vint n, vint m] 57)) w' → w'.cell? ⟨w.heap.size, 4, none⟩ = some (vint n) := fun w' he => he.cell (by simp)
  have hp5 : ∀ w', Ext (w.alloc (.cells #[.int .u8 5, vint a, vint b, vint c, vint n, vint m] 57)) w' → w'.cell? ⟨w.heap.size, 5, none⟩ = some (vint m) := fun w' he => he.cell (by simp)
  have hex0 : Ext w (w.alloc (.cells #[.int .u8 5, vint a, vint b, vint c, vint n, vint m] 57)) := by simp
  go_wp2_with (refine own_make (w1 := w.alloc (.cells #[.int .u8 5, vint a, vint b, vint c, vint n, vint m] 57)) int_elem rfl _ _ rfl Try.underlying94 _ cnt rfl rfl (by omega) (by unfold maxLen; omega) (Ext.refl _) ?_; intro w2 hown hx; rw [made_ints] at hown)
  simp only [World.alloc, Array.size_push] at hown
  change Own (w.alloc (.cells #[.int .u8 5, vint a, vint b, vint c, vint n, vint m] 57)) w2 _ _ _ _ _ at hown
  generalize w.heap.size + 1 = g at *
  generalize hwb : w.alloc (.cells #[.int .u8 5, vint a, vint b, vint c, vint n, vint m] 57) = wb at *
  clear hwb hx
  generalize w.heap.size = bx at *
  have hai : (a : Int) < (cnt : Int) := by omega
  have hbi : (b : Int) < (cnt : Int) := by omega
  have hci : (c : Int) < (cnt : Int) := by omega
  have hfa : (((List.replicate cnt (0 : Int)).set a 1).set b 1)[a]? = some 1 := by rw [List.getElem?_set_ne hba]; rw [List.getElem?_set_self (by simpa using ha)]
  have hfb : (((List.replicate cnt (0 : Int)).set a 1).set b 1)[b]? = some 1 := by rw [List.getElem?_set_self (by simpa using hb)]
  have hmix : Mixed wb g cnt (List.replicate cnt (0 : Int)) (((List.replicate cnt (0 : Int)).set a 1).set b 1) w2 := Mixed.start hown
  have hb0 : ∀ w', (ownPre wb g cnt (List.replicate cnt (0 : Int)) (((List.replicate cnt (0 : Int)).set a 1).set b 1)).R w2 w' → Ext wb w' := fun w' h => (h hmix).1.ext
  refine Cw.wp_region_calm (p := ownPre wb g cnt (List.replicate cnt (0 : Int)) (((List.replicate cnt (0 : Int)).set a 1).set b 1)) 13 (fun _ _ _ _ => True) (fun _ _ _ _ _ _ h => h) (by kernel_rfl) (by kernel_rfl) ?_
  simp only [List.take_succ_cons, List.take_zero, List.drop_succ_cons, List.drop_zero]
  refine Cw.calm_quiet Cw.calm_mono_final wb hb0 10 (by kernel_rfl) ?_
  simp only [List.take_succ_cons, List.take_zero, List.drop_succ_cons, List.drop_zero]
  repeat (go_big_quiet_step (fail))
  refine wpQuiet_nil ?_
  refine Cw.calm_store Cw.calm_mono_final ⟨g, a, none⟩ (vint 1) rfl (fun w' hw => ?_) (fun w' hw => (hw hmix).1.setR ha hfa) ?_
  · have hm := (hw hmix).1
    obtain ⟨y, hy⟩ := hm.cell ha
    have hf := hm.free a
    go_simp
  simp only [Act.put]
  refine Cw.calm_quiet Cw.calm_mono_final wb hb0 1 (by kernel_rfl) ?_
  simp only [List.take_succ_cons, List.take_zero, List.drop_succ_cons, List.drop_zero]
  repeat (go_big_quiet_step (fail))
  refine wpQuiet_nil ?_
  refine Cw.calm_store Cw.calm_mono_final ⟨g, b, none⟩ (vint 1) rfl (fun w' hw => ?_) (fun w' hw => (hw hmix).1.setR hb hfb) ?_
  · have hm := (hw hmix).1
    obtain ⟨y, hy⟩ := hm.cell hb
    have hf := hm.free b
    go_simp
  simp only [Act.put]
  refine Cw.calm_nil fun w3 hw3 hF => ?_
  have hsa := ownPre_stored hmix ha hfa (by have := hF 10; first | exact this.2 rfl | exact this.1.2 rfl)
  have hsb := ownPre_stored hmix hb hfb (by have := hF 12; first | exact this.2 rfl | exact this.1.2 rfl)
  have hfinal := (hw3 hmix).1.final (by simp) (fun i hi => by
    by_cases ea : i = a
    · subst ea; exact .inr hsa
    by_cases eb : i = b
    · subst eb; exact .inr hsb
    exact .inl (by rw [List.getElem?_set_ne (fun h => eb h.symm)]; rw [List.getElem?_set_ne (fun h => ea h.symm)]))
  clear hF hw3 hmix hb0 hown
  have hcell := hfinal.cell (j := c) (by simpa using hc)
  rw [List.getElem?_map, List.getElem?_set_ne (fun h => hcb h.symm), List.getElem?_set_ne (fun h => hca h.symm), List.getElem?_replicate, if_pos hc] at hcell
  have hfr := hfinal.free c
  have hst := hfinal.store c (vint (-2))
  go_wp2
  refine bodyPost_ret (by simp [results, Try.results62, go_sem]; try rfl) rfl ?_
  exact eqRes_of hex0 (by simp) hst

set_option maxRecDepth 100000 in
set_option maxHeartbeats 2000000 in
theorem equation_6 (a b c : Nat) (n m : Int) (cnt : Nat) (w : World) (h8 : cnt ≤ 8) (ha : a < cnt) (hb : b < cnt) (hba : b ≠ a) (hc : c < cnt) (hca : c ≠ a) (hcb : c ≠ b) (hn1 : 1 ≤ n) (hn24 : n ≤ 24) (hm1 : 1 ≤ m) (hm24 : m ≤ 24) :
    Calls Try.prog 62 #[.agg #[.int .u8 6, .int .i64 a, .int .i64 b, .int .i64 c, .int .i64 n, .int .i64 m], .int .i64 cnt] w (EqRes w ((((List.replicate cnt (0 : Int)).set a n).set b m).set c (-(n + m)))) := by
  have e1 : IntKind.i64.wrap (-m) = -m := by rw [IntKind.wrap_i64]; omega
  have e2 : IntKind.i64.wrap (n + m) = n + m := by rw [IntKind.wrap_i64]; omega
  have e3 : IntKind.i64.wrap (-(n + m)) = -(n + m) := by rw [IntKind.wrap_i64]; omega
  have e4 : IntKind.i64.wrap (-n) = -n := by rw [IntKind.wrap_i64]; omega
  have e5 : IntKind.i64.wrap (-n - m) = -(n + m) := by rw [IntKind.wrap_i64]; omega
  go_enter Try.func62, Try.ntmps62
  have hp0 : ∀ w', Ext (w.alloc (.cells #[.int .u8 6, vint a, vint b, vint c, vint n, vint m] 57)) w' → w'.cell? ⟨w.heap.size, 0, none⟩ = some (.int .u8 6) := fun w' he => he.cell (by simp)
  have hp1 : ∀ w', Ext (w.alloc (.cells #[.int .u8 6, vint a, vint b, vint c, vint n, vint m] 57)) w' → w'.cell? ⟨w.heap.size, 1, none⟩ = some (vint a) := fun w' he => he.cell (by simp)
  have hp2 : ∀ w', Ext (w.alloc (.cells #[.int .u8 6, vint a, vint b, vint c, vint n, vint m] 57)) w' → w'.cell? ⟨w.heap.size, 2, none⟩ = some (vint b) := fun w' he => he.cell (by simp)
  have hp3 : ∀ w', Ext (w.alloc (.cells #[.int .u8 6, vint a, vint b, vint c, vint n, vint m] 57)) w' → w'.cell? ⟨w.heap.size, 3, none⟩ = some (vint c) := fun w' he => he.cell (by simp)
  have hp4 : ∀ w', Ext (w.alloc (.cells #[.int .u8 6, vint a, vint b, vint c, vint n, vint m] 57)) w' → w'.cell? ⟨w.heap.size, 4, none⟩ = some (vint n) := fun w' he => he.cell (by simp)
  have hp5 : ∀ w', Ext (w.alloc (.cells #[.int .u8 6, vint a, vint b, vint c, vint n, vint m] 57)) w' → w'.cell? ⟨w.heap.size, 5, none⟩ = some (vint m) := fun w' he => he.cell (by simp)
  have hex0 : Ext w (w.alloc (.cells #[.int .u8 6, vint a, vint b, vint c, vint n, vint m] 57)) := by simp
  go_wp2_with (refine own_make (w1 := w.alloc (.cells #[.int .u8 6, vint a, vint b, vint c, vint n, vint m] 57)) int_elem rfl _ _ rfl Try.underlying94 _ cnt rfl rfl (by omega) (by unfold maxLen; omega) (Ext.refl _) ?_; intro w2 hown hx; rw [made_ints] at hown)
  simp only [World.alloc, Array.size_push] at hown
  change Own (w.alloc (.cells #[.int .u8 6, vint a, vint b, vint c, vint n, vint m] 57)) w2 _ _ _ _ _ at hown
  generalize w.heap.size + 1 = g at *
  generalize hwb : w.alloc (.cells #[.int .u8 6, vint a, vint b, vint c, vint n, vint m] 57) = wb at *
  clear hwb hx
  generalize w.heap.size = bx at *
  have hai : (a : Int) < (cnt : Int) := by omega
  have hbi : (b : Int) < (cnt : Int) := by omega
  have hci : (c : Int) < (cnt : Int) := by omega
  have hfa : (((List.replicate cnt (0 : Int)).set a n).set b m)[a]? = some n := by rw [List.getElem?_set_ne hba]; rw [List.getElem?_set_self (by simpa using ha)]
  have hfb : (((List.replicate cnt (0 : Int)).set a n).set b m)[b]? = some m := by rw [List.getElem?_set_self (by simpa using hb)]
  have hmix : Mixed wb g cnt (List.replicate cnt (0 : Int)) (((List.replicate cnt (0 : Int)).set a n).set b m) w2 := Mixed.start hown
  have hb0 : ∀ w', (ownPre wb g cnt (List.replicate cnt (0 : Int)) (((List.replicate cnt (0 : Int)).set a n).set b m)).R w2 w' → Ext wb w' := fun w' h => (h hmix).1.ext
  refine Cw.wp_region_calm (p := ownPre wb g cnt (List.replicate cnt (0 : Int)) (((List.replicate cnt (0 : Int)).set a n).set b m)) 23 (fun _ _ _ _ => True) (fun _ _ _ _ _ _ h => h) (by kernel_rfl) (by kernel_rfl) ?_
  simp only [List.take_succ_cons, List.take_zero, List.drop_succ_cons, List.drop_zero]
  refine Cw.calm_quiet Cw.calm_mono_final wb hb0 20 (by kernel_rfl) ?_
  simp only [List.take_succ_cons, List.take_zero, List.drop_succ_cons, List.drop_zero]
  repeat (go_big_quiet_step (fail))
  refine wpQuiet_nil ?_
  refine Cw.calm_store Cw.calm_mono_final ⟨g, a, none⟩ (vint n) rfl (fun w' hw => ?_) (fun w' hw => (hw hmix).1.setR ha hfa) ?_
  · have hm := (hw hmix).1
    obtain ⟨y, hy⟩ := hm.cell ha
    have hf := hm.free a
    go_simp
  simp only [Act.put]
  refine Cw.calm_quiet Cw.calm_mono_final wb hb0 1 (by kernel_rfl) ?_
  simp only [List.take_succ_cons, List.take_zero, List.drop_succ_cons, List.drop_zero]
  repeat (go_big_quiet_step (fail))
  refine wpQuiet_nil ?_
  refine Cw.calm_store Cw.calm_mono_final ⟨g, b, none⟩ (vint m) rfl (fun w' hw => ?_) (fun w' hw => (hw hmix).1.setR hb hfb) ?_
  · have hm := (hw hmix).1
    obtain ⟨y, hy⟩ := hm.cell hb
    have hf := hm.free b
    go_simp
  simp only [Act.put]
  refine Cw.calm_nil fun w3 hw3 hF => ?_
  have hsa := ownPre_stored hmix ha hfa (by have := hF 20; first | exact this.2 rfl | exact this.1.2 rfl)
  have hsb := ownPre_stored hmix hb hfb (by have := hF 22; first | exact this.2 rfl | exact this.1.2 rfl)
  have hfinal := (hw3 hmix).1.final (by simp) (fun i hi => by
    by_cases ea : i = a
    · subst ea; exact .inr hsa
    by_cases eb : i = b
    · subst eb; exact .inr hsb
    exact .inl (by rw [List.getElem?_set_ne (fun h => eb h.symm)]; rw [List.getElem?_set_ne (fun h => ea h.symm)]))
  clear hF hw3 hmix hb0 hown
  have hcell := hfinal.cell (j := c) (by simpa using hc)
  rw [List.getElem?_map, List.getElem?_set_ne (fun h => hcb h.symm), List.getElem?_set_ne (fun h => hca h.symm), List.getElem?_replicate, if_pos hc] at hcell
  have hfr := hfinal.free c
  have hst := hfinal.store c (vint (-(n + m)))
  go_wp2
  refine bodyPost_ret (by simp [results, Try.results62, go_sem]; try rfl) rfl ?_
  exact eqRes_of hex0 (by simp) hst

set_option maxRecDepth 100000 in
set_option maxHeartbeats 2000000 in
theorem equation_7 (a b c : Nat) (n m : Int) (cnt : Nat) (w : World) (h8 : cnt ≤ 8) (ha : a < cnt) (hb : b < cnt) (hba : b ≠ a) :
    Calls Try.prog 62 #[.agg #[.int .u8 7, .int .i64 a, .int .i64 b, .int .i64 c, .int .i64 n, .int .i64 m], .int .i64 cnt] w (EqRes w (((List.replicate cnt (0 : Int)).set a 1).set b (-1))) := by
  go_enter Try.func62, Try.ntmps62
  have hp0 : ∀ w', Ext (w.alloc (.cells #[.int .u8 7, vint a, vint b, vint c, vint n, vint m] 57)) w' → w'.cell? ⟨w.heap.size, 0, none⟩ = some (.int .u8 7) := fun w' he => he.cell (by simp)
  have hp1 : ∀ w', Ext (w.alloc (.cells #[.int .u8 7, vint a, vint b, vint c, vint n, vint m] 57)) w' → w'.cell? ⟨w.heap.size, 1, none⟩ = some (vint a) := fun w' he => he.cell (by simp)
  have hp2 : ∀ w', Ext (w.alloc (.cells #[.int .u8 7, vint a, vint b, vint c, vint n, vint m] 57)) w' → w'.cell? ⟨w.heap.size, 2, none⟩ = some (vint b) := fun w' he => he.cell (by simp)
  have hp3 : ∀ w', Ext (w.alloc (.cells #[.int .u8 7, vint a, vint b, vint c, vint n, vint m] 57)) w' → w'.cell? ⟨w.heap.size, 3, none⟩ = some (vint c) := fun w' he => he.cell (by simp)
  have hp4 : ∀ w', Ext (w.alloc (.cells #[.int .u8 7, vint a, vint b, vint c, vint n, vint m] 57)) w' → w'.cell? ⟨w.heap.size, 4, none⟩ = some (vint n) := fun w' he => he.cell (by simp)
  have hp5 : ∀ w', Ext (w.alloc (.cells #[.int .u8 7, vint a, vint b, vint c, vint n, vint m] 57)) w' → w'.cell? ⟨w.heap.size, 5, none⟩ = some (vint m) := fun w' he => he.cell (by simp)
  have hex0 : Ext w (w.alloc (.cells #[.int .u8 7, vint a, vint b, vint c, vint n, vint m] 57)) := by simp
  go_wp2_with (refine own_make (w1 := w.alloc (.cells #[.int .u8 7, vint a, vint b, vint c, vint n, vint m] 57)) int_elem rfl _ _ rfl Try.underlying94 _ cnt rfl rfl (by omega) (by unfold maxLen; omega) (Ext.refl _) ?_; intro w2 hown hx; rw [made_ints] at hown)
  simp only [World.alloc, Array.size_push] at hown
  change Own (w.alloc (.cells #[.int .u8 7, vint a, vint b, vint c, vint n, vint m] 57)) w2 _ _ _ _ _ at hown
  generalize w.heap.size + 1 = g at *
  generalize hwb : w.alloc (.cells #[.int .u8 7, vint a, vint b, vint c, vint n, vint m] 57) = wb at *
  clear hwb hx
  generalize w.heap.size = bx at *
  have hai : (a : Int) < (cnt : Int) := by omega
  have hbi : (b : Int) < (cnt : Int) := by omega
  have hfa : ((List.replicate cnt (0 : Int)).set a 1)[a]? = some 1 := by rw [List.getElem?_set_self (by simpa using ha)]
  have hmix : Mixed wb g cnt (List.replicate cnt (0 : Int)) ((List.replicate cnt (0 : Int)).set a 1) w2 := Mixed.start hown
  have hb0 : ∀ w', (ownPre wb g cnt (List.replicate cnt (0 : Int)) ((List.replicate cnt (0 : Int)).set a 1)).R w2 w' → Ext wb w' := fun w' h => (h hmix).1.ext
  refine Cw.wp_region_calm (p := ownPre wb g cnt (List.replicate cnt (0 : Int)) ((List.replicate cnt (0 : Int)).set a 1)) 8 (fun _ _ _ _ => True) (fun _ _ _ _ _ _ h => h) (by kernel_rfl) (by kernel_rfl) ?_
  simp only [List.take_succ_cons, List.take_zero, List.drop_succ_cons, List.drop_zero]
  refine Cw.calm_quiet Cw.calm_mono_final wb hb0 7 (by kernel_rfl) ?_
  simp only [List.take_succ_cons, List.take_zero, List.drop_succ_cons, List.drop_zero]
  repeat (go_big_quiet_step (fail))
  refine wpQuiet_nil ?_
  refine Cw.calm_store Cw.calm_mono_final ⟨g, a, none⟩ (vint 1) rfl (fun w' hw => ?_) (fun w' hw => (hw hmix).1.setR ha hfa) ?_
  · have hm := (hw hmix).1
    obtain ⟨y, hy⟩ := hm.cell ha
    have hf := hm.free a
    go_simp
  simp only [Act.put]
  refine Cw.calm_nil fun w3 hw3 hF => ?_
  have hsa := ownPre_stored hmix ha hfa (by have := hF 7; first | exact this.2 rfl | exact this.1.2 rfl)
  have hfinal := (hw3 hmix).1.final (by simp) (fun i hi => by
    by_cases ea : i = a
    · subst ea; exact .inr hsa
    exact .inl (by rw [List.getElem?_set_ne (fun h => ea h.symm)]))
  clear hF hw3 hmix hb0 hown
  have hcell := hfinal.cell (j := b) (by simpa using hb)
  rw [List.getElem?_map, List.getElem?_set_ne (fun h => hba h.symm), List.getElem?_replicate, if_pos hb] at hcell
  have hfr := hfinal.free b
  have hst := hfinal.store b (vint (-1))
  go_wp2
  refine bodyPost_ret (by simp [results, Try.results62, go_sem]; try rfl) rfl ?_
  exact eqRes_of hex0 (by simp) hst
end Go.Proofs.Ytbclbcldplmppaa

/- The factors of a mesh, by the reference, for each kind. -/
namespace Go.Proofs.Ytbclbcldplmppaa
open Go.RowKit

set_option maxRecDepth 100000 in
set_option maxHeartbeats 2000000 in
theorem factors_1 (a b c : Nat) (n m : Int) (cnt : Nat) (w : World) (h8 : cnt ≤ 8) (ha : a < cnt) (hb : b < cnt) (hba : b ≠ a) :
    Calls Try.prog 63 #[.agg #[.int .u8 1, .int .i64 a, .int .i64 b, .int .i64 c, .int .i64 n, .int .i64 m], .int .i64 cnt] w (EqRes w (((List.replicate cnt (0 : Int)).set a n).set b m)) := by
  go_enter Try.func63, Try.ntmps63
  have hp0 : ∀ w', Ext (w.alloc (.cells #[.int .u8 1, vint a, vint b, vint c, vint n, vint m] 57)) w' → w'.cell? ⟨w.heap.size, 0, none⟩ = some (.int .u8 1) := fun w' he => he.cell (by simp)
  have hp1 : ∀ w', Ext (w.alloc (.cells #[.int .u8 1, vint a, vint b, vint c, vint n, vint m] 57)) w' → w'.cell? ⟨w.heap.size, 1, none⟩ = some (vint a) := fun w' he => he.cell (by simp)
  have hp2 : ∀ w', Ext (w.alloc (.cells #[.int .u8 1, vint a, vint b, vint c, vint n, vint m] 57)) w' → w'.cell? ⟨w.heap.size, 2, none⟩ = some (vint b) := fun w' he => he.cell (by simp)
  have hp3 : ∀ w', Ext (w.alloc (.cells #[.int .u8 1, vint a, vint b, vint c, vint n, vint m] 57)) w' → w'.cell? ⟨w.heap.size, 3, none⟩ = some (vint c) := fun w' he => he.cell (by simp)
  have hp4 : ∀ w', Ext (w.alloc (.cells #[.int .u8 1, vint a, vint b, vint c, vint n, vint m] 57)) w' → w'.cell? ⟨w.heap.size, 4, none⟩ = some (vint n) := fun w' he => he.cell (by simp)
  have hp5 : ∀ w', Ext (w.alloc (.cells #[.int .u8 1, vint a, vint b, vint c, vint n, vint m] 57)) w' → w'.cell? ⟨w.heap.size, 5, none⟩ = some (vint m) := fun w' he => he.cell (by simp)
  have hex0 : Ext w (w.alloc (.cells #[.int .u8 1, vint a, vint b, vint c, vint n, vint m] 57)) := by simp
  go_wp2_with (refine own_make (w1 := w.alloc (.cells #[.int .u8 1, vint a, vint b, vint c, vint n, vint m] 57)) int_elem rfl _ _ rfl Try.underlying22 _ cnt rfl rfl (by omega) (by unfold maxLen; omega) (Ext.refl _) ?_; intro w2 hown hx; rw [made_ints] at hown)
  simp only [World.alloc, Array.size_push] at hown
  change Own (w.alloc (.cells #[.int .u8 1, vint a, vint b, vint c, vint n, vint m] 57)) w2 _ _ _ _ _ at hown
  generalize w.heap.size + 1 = g at *
  generalize hwb : w.alloc (.cells #[.int .u8 1, vint a, vint b, vint c, vint n, vint m] 57) = wb at *
  clear hwb hx
  generalize w.heap.size = bx at *
  have hai : (a : Int) < (cnt : Int) := by omega
  have hbi : (b : Int) < (cnt : Int) := by omega
  have hfa : ((List.replicate cnt (0 : Int)).set a n)[a]? = some n := by rw [List.getElem?_set_self (by simpa using ha)]
  have hmix : Mixed wb g cnt (List.replicate cnt (0 : Int)) ((List.replicate cnt (0 : Int)).set a n) w2 := Mixed.start hown
  have hb0 : ∀ w', (ownPre wb g cnt (List.replicate cnt (0 : Int)) ((List.replicate cnt (0 : Int)).set a n)).R w2 w' → Ext wb w' := fun w' h => (h hmix).1.ext
  refine Cw.wp_region_calm (p := ownPre wb g cnt (List.replicate cnt (0 : Int)) ((List.replicate cnt (0 : Int)).set a n)) 12 (fun _ _ _ _ => True) (fun _ _ _ _ _ _ h => h) (by kernel_rfl) (by kernel_rfl) ?_
  simp only [List.take_succ_cons, List.take_zero, List.drop_succ_cons, List.drop_zero]
  refine Cw.calm_quiet Cw.calm_mono_final wb hb0 11 (by kernel_rfl) ?_
  simp only [List.take_succ_cons, List.take_zero, List.drop_succ_cons, List.drop_zero]
  repeat (go_big_quiet_step (fail))
  refine wpQuiet_nil ?_
  refine Cw.calm_store Cw.calm_mono_final ⟨g, a, none⟩ (vint n) rfl (fun w' hw => ?_) (fun w' hw => (hw hmix).1.setR ha hfa) ?_
  · have hm := (hw hmix).1
    obtain ⟨y, hy⟩ := hm.cell ha
    have hf := hm.free a
    go_simp
  simp only [Act.put]
  refine Cw.calm_nil fun w3 hw3 hF => ?_
  have hsa := ownPre_stored hmix ha hfa (by have := hF 11; first | exact this.2 rfl | exact this.1.2 rfl)
  have hfinal := (hw3 hmix).1.final (by simp) (fun i hi => by
    by_cases ea : i = a
    · subst ea; exact .inr hsa
    exact .inl (by rw [List.getElem?_set_ne (fun h => ea h.symm)]))
  clear hF hw3 hmix hb0 hown
  have hcell := hfinal.cell (j := b) (by simpa using hb)
  rw [List.getElem?_map, List.getElem?_set_ne (fun h => hba h.symm), List.getElem?_replicate, if_pos hb] at hcell
  have hfr := hfinal.free b
  have hst := hfinal.store b (vint m)
  go_wp2
  refine bodyPost_ret (by simp [results, Try.results63, go_sem]; try rfl) rfl ?_
  exact eqRes_of hex0 (by simp) hst

set_option maxRecDepth 100000 in
set_option maxHeartbeats 2000000 in
theorem factors_2 (a b c : Nat) (n m : Int) (cnt : Nat) (w : World) (h8 : cnt ≤ 8) (ha : a < cnt) (hb : b < cnt) (hba : b ≠ a) (hn1 : 1 ≤ n) (hn24 : n ≤ 24) (hm1 : 1 ≤ m) (hm24 : m ≤ 24) :
    Calls Try.prog 63 #[.agg #[.int .u8 2, .int .i64 a, .int .i64 b, .int .i64 c, .int .i64 n, .int .i64 m], .int .i64 cnt] w (EqRes w (((List.replicate cnt (0 : Int)).set a n).set b (-m))) := by
  have e1 : IntKind.i64.wrap (-m) = -m := by rw [IntKind.wrap_i64]; omega
  have e2 : IntKind.i64.wrap (n + m) = n + m := by rw [IntKind.wrap_i64]; omega
  have e3 : IntKind.i64.wrap (-(n + m)) = -(n + m) := by rw [IntKind.wrap_i64]; omega
  have e4 : IntKind.i64.wrap (-n) = -n := by rw [IntKind.wrap_i64]; omega
  have e5 : IntKind.i64.wrap (-n - m) = -(n + m) := by rw [IntKind.wrap_i64]; omega
  go_enter Try.func63, Try.ntmps63
  have hp0 : ∀ w', Ext (w.alloc (.cells #[.int .u8 2, vint a, vint b, vint c, vint n, vint m] 57)) w' → w'.cell? ⟨w.heap.size, 0, none⟩ = some (.int .u8 2) := fun w' he => he.cell (by simp)
  have hp1 : ∀ w', Ext (w.alloc (.cells #[.int .u8 2, vint a, vint b, vint c, vint n, vint m] 57)) w' → w'.cell? ⟨w.heap.size, 1, none⟩ = some (vint a) := fun w' he => he.cell (by simp)
  have hp2 : ∀ w', Ext (w.alloc (.cells #[.int .u8 2, vint a, vint b, vint c, vint n, vint m] 57)) w' → w'.cell? ⟨w.heap.size, 2, none⟩ = some (vint b) := fun w' he => he.cell (by simp)
  have hp3 : ∀ w', Ext (w.alloc (.cells #[.int .u8 2, vint a, vint b, vint c, vint n, vint m] 57)) w' → w'.cell? ⟨w.heap.size, 3, none⟩ = some (vint c) := fun w' he => he.cell (by simp)
  have hp4 : ∀ w', Ext (w.alloc (.cells #[.int .u8 2, vint a, vint b, vint c, vint n, vint m] 57)) w' → w'.cell? ⟨w.heap.size, 4, none⟩ = some (vint n) := fun w' he => he.cell (by simp)
  have hp5 : ∀ w', Ext (w.alloc (.cells #[.int .u8 2, vint a, vint b, vint c, vint n, vint m] 57)) w' → w'.cell? ⟨w.heap.size, 5, none⟩ = some (vint m) := fun w' he => he.cell (by simp)
  have hex0 : Ext w (w.alloc (.cells #[.int .u8 2, vint a, vint b, vint c, vint n, vint m] 57)) := by simp
  go_wp2_with (refine own_make (w1 := w.alloc (.cells #[.int .u8 2, vint a, vint b, vint c, vint n, vint m] 57)) int_elem rfl _ _ rfl Try.underlying22 _ cnt rfl rfl (by omega) (by unfold maxLen; omega) (Ext.refl _) ?_; intro w2 hown hx; rw [made_ints] at hown)
  simp only [World.alloc, Array.size_push] at hown
  change Own (w.alloc (.cells #[.int .u8 2, vint a, vint b, vint c, vint n, vint m] 57)) w2 _ _ _ _ _ at hown
  generalize w.heap.size + 1 = g at *
  generalize hwb : w.alloc (.cells #[.int .u8 2, vint a, vint b, vint c, vint n, vint m] 57) = wb at *
  clear hwb hx
  generalize w.heap.size = bx at *
  have hai : (a : Int) < (cnt : Int) := by omega
  have hbi : (b : Int) < (cnt : Int) := by omega
  have hfa : ((List.replicate cnt (0 : Int)).set a n)[a]? = some n := by rw [List.getElem?_set_self (by simpa using ha)]
  have hmix : Mixed wb g cnt (List.replicate cnt (0 : Int)) ((List.replicate cnt (0 : Int)).set a n) w2 := Mixed.start hown
  have hb0 : ∀ w', (ownPre wb g cnt (List.replicate cnt (0 : Int)) ((List.replicate cnt (0 : Int)).set a n)).R w2 w' → Ext wb w' := fun w' h => (h hmix).1.ext
  refine Cw.wp_region_calm (p := ownPre wb g cnt (List.replicate cnt (0 : Int)) ((List.replicate cnt (0 : Int)).set a n)) 13 (fun _ _ _ _ => True) (fun _ _ _ _ _ _ h => h) (by kernel_rfl) (by kernel_rfl) ?_
  simp only [List.take_succ_cons, List.take_zero, List.drop_succ_cons, List.drop_zero]
  refine Cw.calm_quiet Cw.calm_mono_final wb hb0 12 (by kernel_rfl) ?_
  simp only [List.take_succ_cons, List.take_zero, List.drop_succ_cons, List.drop_zero]
  repeat (go_big_quiet_step (fail))
  refine wpQuiet_nil ?_
  refine Cw.calm_store Cw.calm_mono_final ⟨g, a, none⟩ (vint n) rfl (fun w' hw => ?_) (fun w' hw => (hw hmix).1.setR ha hfa) ?_
  · have hm := (hw hmix).1
    obtain ⟨y, hy⟩ := hm.cell ha
    have hf := hm.free a
    go_simp
  simp only [Act.put]
  refine Cw.calm_nil fun w3 hw3 hF => ?_
  have hsa := ownPre_stored hmix ha hfa (by have := hF 12; first | exact this.2 rfl | exact this.1.2 rfl)
  have hfinal := (hw3 hmix).1.final (by simp) (fun i hi => by
    by_cases ea : i = a
    · subst ea; exact .inr hsa
    exact .inl (by rw [List.getElem?_set_ne (fun h => ea h.symm)]))
  clear hF hw3 hmix hb0 hown
  have hcell := hfinal.cell (j := b) (by simpa using hb)
  rw [List.getElem?_map, List.getElem?_set_ne (fun h => hba h.symm), List.getElem?_replicate, if_pos hb] at hcell
  have hfr := hfinal.free b
  have hst := hfinal.store b (vint (-m))
  go_wp2
  refine bodyPost_ret (by simp [results, Try.results63, go_sem]; try rfl) rfl ?_
  exact eqRes_of hex0 (by simp) hst

set_option maxRecDepth 100000 in
set_option maxHeartbeats 2000000 in
theorem factors_3 (a b c : Nat) (n m : Int) (cnt : Nat) (w : World) (h8 : cnt ≤ 8) (ha : a < cnt) (hb : b < cnt) (hba : b ≠ a) :
    Calls Try.prog 63 #[.agg #[.int .u8 3, .int .i64 a, .int .i64 b, .int .i64 c, .int .i64 n, .int .i64 m], .int .i64 cnt] w (EqRes w (((List.replicate cnt (0 : Int)).set a 1).set b (-1))) := by
  go_enter Try.func63, Try.ntmps63
  have hp0 : ∀ w', Ext (w.alloc (.cells #[.int .u8 3, vint a, vint b, vint c, vint n, vint m] 57)) w' → w'.cell? ⟨w.heap.size, 0, none⟩ = some (.int .u8 3) := fun w' he => he.cell (by simp)
  have hp1 : ∀ w', Ext (w.alloc (.cells #[.int .u8 3, vint a, vint b, vint c, vint n, vint m] 57)) w' → w'.cell? ⟨w.heap.size, 1, none⟩ = some (vint a) := fun w' he => he.cell (by simp)
  have hp2 : ∀ w', Ext (w.alloc (.cells #[.int .u8 3, vint a, vint b, vint c, vint n, vint m] 57)) w' → w'.cell? ⟨w.heap.size, 2, none⟩ = some (vint b) := fun w' he => he.cell (by simp)
  have hp3 : ∀ w', Ext (w.alloc (.cells #[.int .u8 3, vint a, vint b, vint c, vint n, vint m] 57)) w' → w'.cell? ⟨w.heap.size, 3, none⟩ = some (vint c) := fun w' he => he.cell (by simp)
  have hp4 : ∀ w', Ext (w.alloc (.cells #[.int .u8 3, vint a, vint b, vint c, vint n, vint m] 57)) w' → w'.cell? ⟨w.heap.size, 4, none⟩ = some (vint n) := fun w' he => he.cell (by simp)
  have hp5 : ∀ w', Ext (w.alloc (.cells #[.int .u8 3, vint a, vint b, vint c, vint n, vint m] 57)) w' → w'.cell? ⟨w.heap.size, 5, none⟩ = some (vint m) := fun w' he => he.cell (by simp)
  have hex0 : Ext w (w.alloc (.cells #[.int .u8 3, vint a, vint b, vint c, vint n, vint m] 57)) := by simp
  go_wp2_with (refine own_make (w1 := w.alloc (.cells #[.int .u8 3, vint a, vint b, vint c, vint n, vint m] 57)) int_elem rfl _ _ rfl Try.underlying22 _ cnt rfl rfl (by omega) (by unfold maxLen; omega) (Ext.refl _) ?_; intro w2 hown hx; rw [made_ints] at hown)
  simp only [World.alloc, Array.size_push] at hown
  change Own (w.alloc (.cells #[.int .u8 3, vint a, vint b, vint c, vint n, vint m] 57)) w2 _ _ _ _ _ at hown
  generalize w.heap.size + 1 = g at *
  generalize hwb : w.alloc (.cells #[.int .u8 3, vint a, vint b, vint c, vint n, vint m] 57) = wb at *
  clear hwb hx
  generalize w.heap.size = bx at *
  have hai : (a : Int) < (cnt : Int) := by omega
  have hbi : (b : Int) < (cnt : Int) := by omega
  have hfa : ((List.replicate cnt (0 : Int)).set a 1)[a]? = some 1 := by rw [List.getElem?_set_self (by simpa using ha)]
  have hmix : Mixed wb g cnt (List.replicate cnt (0 : Int)) ((List.replicate cnt (0 : Int)).set a 1) w2 := Mixed.start hown
  have hb0 : ∀ w', (ownPre wb g cnt (List.replicate cnt (0 : Int)) ((List.replicate cnt (0 : Int)).set a 1)).R w2 w' → Ext wb w' := fun w' h => (h hmix).1.ext
  refine Cw.wp_region_calm (p := ownPre wb g cnt (List.replicate cnt (0 : Int)) ((List.replicate cnt (0 : Int)).set a 1)) 8 (fun _ _ _ _ => True) (fun _ _ _ _ _ _ h => h) (by kernel_rfl) (by kernel_rfl) ?_
  simp only [List.take_succ_cons, List.take_zero, List.drop_succ_cons, List.drop_zero]
  refine Cw.calm_quiet Cw.calm_mono_final wb hb0 7 (by kernel_rfl) ?_
  simp only [List.take_succ_cons, List.take_zero, List.drop_succ_cons, List.drop_zero]
  repeat (go_big_quiet_step (fail))
  refine wpQuiet_nil ?_
  refine Cw.calm_store Cw.calm_mono_final ⟨g, a, none⟩ (vint 1) rfl (fun w' hw => ?_) (fun w' hw => (hw hmix).1.setR ha hfa) ?_
  · have hm := (hw hmix).1
    obtain ⟨y, hy⟩ := hm.cell ha
    have hf := hm.free a
    go_simp
  simp only [Act.put]
  refine Cw.calm_nil fun w3 hw3 hF => ?_
  have hsa := ownPre_stored hmix ha hfa (by have := hF 7; first | exact this.2 rfl | exact this.1.2 rfl)
  have hfinal := (hw3 hmix).1.final (by simp) (fun i hi => by
    by_cases ea : i = a
    · subst ea; exact .inr hsa
    exact .inl (by rw [List.getElem?_set_ne (fun h => ea h.symm)]))
  clear hF hw3 hmix hb0 hown
  have hcell := hfinal.cell (j := b) (by simpa using hb)
  rw [List.getElem?_map, List.getElem?_set_ne (fun h => hba h.symm), List.getElem?_replicate, if_pos hb] at hcell
  have hfr := hfinal.free b
  have hst := hfinal.store b (vint (-1))
  go_wp2
  refine bodyPost_ret (by simp [results, Try.results63, go_sem]; try rfl) rfl ?_
  exact eqRes_of hex0 (by simp) hst

set_option maxRecDepth 100000 in
set_option maxHeartbeats 2000000 in
theorem factors_4 (a b c : Nat) (n m : Int) (cnt : Nat) (w : World) (h8 : cnt ≤ 8) (ha : a < cnt) :
    Calls Try.prog 63 #[.agg #[.int .u8 4, .int .i64 a, .int .i64 b, .int .i64 c, .int .i64 n, .int .i64 m], .int .i64 cnt] w (EqRes w ((List.replicate cnt (0 : Int)).set a 1)) := by
  go_enter Try.func63, Try.ntmps63
  have hp0 : ∀ w', Ext (w.alloc (.cells #[.int .u8 4, vint a, vint b, vint c, vint n, vint m] 57)) w' → w'.cell? ⟨w.heap.size, 0, none⟩ = some (.int .u8 4) := fun w' he => he.cell (by simp)
  have hp1 : ∀ w', Ext (w.alloc (.cells #[.int .u8 4, vint a, vint b, vint c, vint n, vint m] 57)) w' → w'.cell? ⟨w.heap.size, 1, none⟩ = some (vint a) := fun w' he => he.cell (by simp)
  have hp2 : ∀ w', Ext (w.alloc (.cells #[.int .u8 4, vint a, vint b, vint c, vint n, vint m] 57)) w' → w'.cell? ⟨w.heap.size, 2, none⟩ = some (vint b) := fun w' he => he.cell (by simp)
  have hp3 : ∀ w', Ext (w.alloc (.cells #[.int .u8 4, vint a, vint b, vint c, vint n, vint m] 57)) w' → w'.cell? ⟨w.heap.size, 3, none⟩ = some (vint c) := fun w' he => he.cell (by simp)
  have hp4 : ∀ w', Ext (w.alloc (.cells #[.int .u8 4, vint a, vint b, vint c, vint n, vint m] 57)) w' → w'.cell? ⟨w.heap.size, 4, none⟩ = some (vint n) := fun w' he => he.cell (by simp)
  have hp5 : ∀ w', Ext (w.alloc (.cells #[.int .u8 4, vint a, vint b, vint c, vint n, vint m] 57)) w' → w'.cell? ⟨w.heap.size, 5, none⟩ = some (vint m) := fun w' he => he.cell (by simp)
  have hex0 : Ext w (w.alloc (.cells #[.int .u8 4, vint a, vint b, vint c, vint n, vint m] 57)) := by simp
  go_wp2_with (refine own_make (w1 := w.alloc (.cells #[.int .u8 4, vint a, vint b, vint c, vint n, vint m] 57)) int_elem rfl _ _ rfl Try.underlying22 _ cnt rfl rfl (by omega) (by unfold maxLen; omega) (Ext.refl _) ?_; intro w2 hown hx; rw [made_ints] at hown; have hcell := hown.cell (j := a) (by simpa using ha); rw [List.getElem?_map, List.getElem?_replicate, if_pos ha] at hcell; have hfr := hown.free a; have hai : (a : Int) < (cnt : Int) := (by omega); simp only [World.alloc, Array.size_push] at hcell hfr)
  simp only [World.alloc, Array.size_push] at hown
  change Own (w.alloc (.cells #[.int .u8 4, vint a, vint b, vint c, vint n, vint m] 57)) w2 _ _ _ _ _ at hown
  generalize w.heap.size + 1 = g at *
  generalize hwb : w.alloc (.cells #[.int .u8 4, vint a, vint b, vint c, vint n, vint m] 57) = wb at *
  clear hwb hx
  generalize w.heap.size = bx at *
  have hai : (a : Int) < (cnt : Int) := by omega
  have hst := hown.store a (vint 1)
  refine bodyPost_ret (by simp [results, Try.results63, go_sem]; try rfl) rfl ?_
  exact eqRes_of hex0 (by simp) hst

set_option maxRecDepth 100000 in
set_option maxHeartbeats 2000000 in
theorem factors_5 (a b c : Nat) (n m : Int) (cnt : Nat) (w : World) (h8 : cnt ≤ 8) (ha : a < cnt) (hb : b < cnt) (hba : b ≠ a) (hc : c < cnt) (hca : c ≠ a) (hcb : c ≠ b) :
    Calls Try.prog 63 #[.agg #[.int .u8 5, .int .i64 a, .int .i64 b, .int .i64 c, .int .i64 n, .int .i64 m], .int .i64 cnt] w (EqRes w ((((List.replicate cnt (0 : Int)).set a 1).set b 1).set c (-2))) := by
  go_enter Try.func63, Try.ntmps63
  have hp0 : ∀ w', Ext (w.alloc (.cells #[.int .u8 5, vint a, vint b, vint c, vint n, vint m] 57)) w' → w'.cell? ⟨w.heap.size, 0, none⟩ = some (.int .u8 5) := fun w' he => he.cell (by simp)
  have hp1 : ∀ w', Ext (w.alloc (.cells #[.int .u8 5, vint a, vint b, vint c, vint n, vint m] 57)) w' → w'.cell? ⟨w.heap.size, 1, none⟩ = some (vint a) := fun w' he => he.cell (by simp)
  have hp2 : ∀ w', Ext (w.alloc (.cells #[.int .u8 5, vint a, vint b, vint c, vint n, vint m] 57)) w' → w'.cell? ⟨w.heap.size, 2, none⟩ = some (vint b) := fun w' he => he.cell (by simp)
  have hp3 : ∀ w', Ext (w.alloc (.cells #[.int .u8 5, vint a, vint b, vint c, vint n, vint m] 57)) w' → w'.cell? ⟨w.heap.size, 3, none⟩ = some (vint c) := fun w' he => he.cell (by simp)
  have hp4 : ∀ w', Ext (w.alloc (.cells #[.int .u8 5, vint a, vint b, vint c, vint n, vint m] 57)) w' → w'.cell? ⟨w.heap.size, 4, none⟩ = some (vint n) := fun w' he => he.cell (by simp)
  have hp5 : ∀ w', Ext (w.alloc (.cells #[.int .u8 5, vint a, vint b, vint c, vint n, vint m] 57)) w' → w'.cell? ⟨w.heap.size, 5, none⟩ = some (vint m) := fun w' he => he.cell (by simp)
  have hex0 : Ext w (w.alloc (.cells #[.int .u8 5, vint a, vint b, vint c, vint n, vint m] 57)) := by simp
  go_wp2_with (refine own_make (w1 := w.alloc (.cells #[.int .u8 5, vint a, vint b, vint c, vint n, vint m] 57)) int_elem rfl _ _ rfl Try.underlying22 _ cnt rfl rfl (by omega) (by unfold maxLen; omega) (Ext.refl _) ?_; intro w2 hown hx; rw [made_ints] at hown)
  simp only [World.alloc, Array.size_push] at hown
  change Own (w.alloc (.cells #[.int .u8 5, vint a, vint b, vint c, vint n, vint m] 57)) w2 _ _ _ _ _ at hown
  generalize w.heap.size + 1 = g at *
  generalize hwb : w.alloc (.cells #[.int .u8 5, vint a, vint b, vint c, vint n, vint m] 57) = wb at *
  clear hwb hx
  generalize w.heap.size = bx at *
  have hai : (a : Int) < (cnt : Int) := by omega
  have hbi : (b : Int) < (cnt : Int) := by omega
  have hci : (c : Int) < (cnt : Int) := by omega
  have hfa : (((List.replicate cnt (0 : Int)).set a 1).set b 1)[a]? = some 1 := by rw [List.getElem?_set_ne hba]; rw [List.getElem?_set_self (by simpa using ha)]
  have hfb : (((List.replicate cnt (0 : Int)).set a 1).set b 1)[b]? = some 1 := by rw [List.getElem?_set_self (by simpa using hb)]
  have hmix : Mixed wb g cnt (List.replicate cnt (0 : Int)) (((List.replicate cnt (0 : Int)).set a 1).set b 1) w2 := Mixed.start hown
  have hb0 : ∀ w', (ownPre wb g cnt (List.replicate cnt (0 : Int)) (((List.replicate cnt (0 : Int)).set a 1).set b 1)).R w2 w' → Ext wb w' := fun w' h => (h hmix).1.ext
  refine Cw.wp_region_calm (p := ownPre wb g cnt (List.replicate cnt (0 : Int)) (((List.replicate cnt (0 : Int)).set a 1).set b 1)) 13 (fun _ _ _ _ => True) (fun _ _ _ _ _ _ h => h) (by kernel_rfl) (by kernel_rfl) ?_
  simp only [List.take_succ_cons, List.take_zero, List.drop_succ_cons, List.drop_zero]
  refine Cw.calm_quiet Cw.calm_mono_final wb hb0 10 (by kernel_rfl) ?_
  simp only [List.take_succ_cons, List.take_zero, List.drop_succ_cons, List.drop_zero]
  repeat (go_big_quiet_step (fail))
  refine wpQuiet_nil ?_
  refine Cw.calm_store Cw.calm_mono_final ⟨g, a, none⟩ (vint 1) rfl (fun w' hw => ?_) (fun w' hw => (hw hmix).1.setR ha hfa) ?_
  · have hm := (hw hmix).1
    obtain ⟨y, hy⟩ := hm.cell ha
    have hf := hm.free a
    go_simp
  simp only [Act.put]
  refine Cw.calm_quiet Cw.calm_mono_final wb hb0 1 (by kernel_rfl) ?_
  simp only [List.take_succ_cons, List.take_zero, List.drop_succ_cons, List.drop_zero]
  repeat (go_big_quiet_step (fail))
  refine wpQuiet_nil ?_
  refine Cw.calm_store Cw.calm_mono_final ⟨g, b, none⟩ (vint 1) rfl (fun w' hw => ?_) (fun w' hw => (hw hmix).1.setR hb hfb) ?_
  · have hm := (hw hmix).1
    obtain ⟨y, hy⟩ := hm.cell hb
    have hf := hm.free b
    go_simp
  simp only [Act.put]
  refine Cw.calm_nil fun w3 hw3 hF => ?_
  have hsa := ownPre_stored hmix ha hfa (by have := hF 10; first | exact this.2 rfl | exact this.1.2 rfl)
  have hsb := ownPre_stored hmix hb hfb (by have := hF 12; first | exact this.2 rfl | exact this.1.2 rfl)
  have hfinal := (hw3 hmix).1.final (by simp) (fun i hi => by
    by_cases ea : i = a
    · subst ea; exact .inr hsa
    by_cases eb : i = b
    · subst eb; exact .inr hsb
    exact .inl (by rw [List.getElem?_set_ne (fun h => eb h.symm)]; rw [List.getElem?_set_ne (fun h => ea h.symm)]))
  clear hF hw3 hmix hb0 hown
  have hcell := hfinal.cell (j := c) (by simpa using hc)
  rw [List.getElem?_map, List.getElem?_set_ne (fun h => hcb h.symm), List.getElem?_set_ne (fun h => hca h.symm), List.getElem?_replicate, if_pos hc] at hcell
  have hfr := hfinal.free c
  have hst := hfinal.store c (vint (-2))
  go_wp2
  refine bodyPost_ret (by simp [results, Try.results63, go_sem]; try rfl) rfl ?_
  exact eqRes_of hex0 (by simp) hst

set_option maxRecDepth 100000 in
set_option maxHeartbeats 2000000 in
theorem factors_6 (a b c : Nat) (n m : Int) (cnt : Nat) (w : World) (h8 : cnt ≤ 8) (ha : a < cnt) (hb : b < cnt) (hba : b ≠ a) (hc : c < cnt) (hca : c ≠ a) (hcb : c ≠ b) (hn1 : 1 ≤ n) (hn24 : n ≤ 24) (hm1 : 1 ≤ m) (hm24 : m ≤ 24) :
    Calls Try.prog 63 #[.agg #[.int .u8 6, .int .i64 a, .int .i64 b, .int .i64 c, .int .i64 n, .int .i64 m], .int .i64 cnt] w (EqRes w ((((List.replicate cnt (0 : Int)).set a n).set b m).set c (-(n + m)))) := by
  have e1 : IntKind.i64.wrap (-m) = -m := by rw [IntKind.wrap_i64]; omega
  have e2 : IntKind.i64.wrap (n + m) = n + m := by rw [IntKind.wrap_i64]; omega
  have e3 : IntKind.i64.wrap (-(n + m)) = -(n + m) := by rw [IntKind.wrap_i64]; omega
  have e4 : IntKind.i64.wrap (-n) = -n := by rw [IntKind.wrap_i64]; omega
  have e5 : IntKind.i64.wrap (-n - m) = -(n + m) := by rw [IntKind.wrap_i64]; omega
  go_enter Try.func63, Try.ntmps63
  have hp0 : ∀ w', Ext (w.alloc (.cells #[.int .u8 6, vint a, vint b, vint c, vint n, vint m] 57)) w' → w'.cell? ⟨w.heap.size, 0, none⟩ = some (.int .u8 6) := fun w' he => he.cell (by simp)
  have hp1 : ∀ w', Ext (w.alloc (.cells #[.int .u8 6, vint a, vint b, vint c, vint n, vint m] 57)) w' → w'.cell? ⟨w.heap.size, 1, none⟩ = some (vint a) := fun w' he => he.cell (by simp)
  have hp2 : ∀ w', Ext (w.alloc (.cells #[.int .u8 6, vint a, vint b, vint c, vint n, vint m] 57)) w' → w'.cell? ⟨w.heap.size, 2, none⟩ = some (vint b) := fun w' he => he.cell (by simp)
  have hp3 : ∀ w', Ext (w.alloc (.cells #[.int .u8 6, vint a, vint b, vint c, vint n, vint m] 57)) w' → w'.cell? ⟨w.heap.size, 3, none⟩ = some (vint c) := fun w' he => he.cell (by simp)
  have hp4 : ∀ w', Ext (w.alloc (.cells #[.int .u8 6, vint a, vint b, vint c, vint n, vint m] 57)) w' → w'.cell? ⟨w.heap.size, 4, none⟩ = some (vint n) := fun w' he => he.cell (by simp)
  have hp5 : ∀ w', Ext (w.alloc (.cells #[.int .u8 6, vint a, vint b, vint c, vint n, vint m] 57)) w' → w'.cell? ⟨w.heap.size, 5, none⟩ = some (vint m) := fun w' he => he.cell (by simp)
  have hex0 : Ext w (w.alloc (.cells #[.int .u8 6, vint a, vint b, vint c, vint n, vint m] 57)) := by simp
  go_wp2_with (refine own_make (w1 := w.alloc (.cells #[.int .u8 6, vint a, vint b, vint c, vint n, vint m] 57)) int_elem rfl _ _ rfl Try.underlying22 _ cnt rfl rfl (by omega) (by unfold maxLen; omega) (Ext.refl _) ?_; intro w2 hown hx; rw [made_ints] at hown)
  simp only [World.alloc, Array.size_push] at hown
  change Own (w.alloc (.cells #[.int .u8 6, vint a, vint b, vint c, vint n, vint m] 57)) w2 _ _ _ _ _ at hown
  generalize w.heap.size + 1 = g at *
  generalize hwb : w.alloc (.cells #[.int .u8 6, vint a, vint b, vint c, vint n, vint m] 57) = wb at *
  clear hwb hx
  generalize w.heap.size = bx at *
  have hai : (a : Int) < (cnt : Int) := by omega
  have hbi : (b : Int) < (cnt : Int) := by omega
  have hci : (c : Int) < (cnt : Int) := by omega
  have hfa : (((List.replicate cnt (0 : Int)).set a n).set b m)[a]? = some n := by rw [List.getElem?_set_ne hba]; rw [List.getElem?_set_self (by simpa using ha)]
  have hfb : (((List.replicate cnt (0 : Int)).set a n).set b m)[b]? = some m := by rw [List.getElem?_set_self (by simpa using hb)]
  have hmix : Mixed wb g cnt (List.replicate cnt (0 : Int)) (((List.replicate cnt (0 : Int)).set a n).set b m) w2 := Mixed.start hown
  have hb0 : ∀ w', (ownPre wb g cnt (List.replicate cnt (0 : Int)) (((List.replicate cnt (0 : Int)).set a n).set b m)).R w2 w' → Ext wb w' := fun w' h => (h hmix).1.ext
  refine Cw.wp_region_calm (p := ownPre wb g cnt (List.replicate cnt (0 : Int)) (((List.replicate cnt (0 : Int)).set a n).set b m)) 23 (fun _ _ _ _ => True) (fun _ _ _ _ _ _ h => h) (by kernel_rfl) (by kernel_rfl) ?_
  simp only [List.take_succ_cons, List.take_zero, List.drop_succ_cons, List.drop_zero]
  refine Cw.calm_quiet Cw.calm_mono_final wb hb0 20 (by kernel_rfl) ?_
  simp only [List.take_succ_cons, List.take_zero, List.drop_succ_cons, List.drop_zero]
  repeat (go_big_quiet_step (fail))
  refine wpQuiet_nil ?_
  refine Cw.calm_store Cw.calm_mono_final ⟨g, a, none⟩ (vint n) rfl (fun w' hw => ?_) (fun w' hw => (hw hmix).1.setR ha hfa) ?_
  · have hm := (hw hmix).1
    obtain ⟨y, hy⟩ := hm.cell ha
    have hf := hm.free a
    go_simp
  simp only [Act.put]
  refine Cw.calm_quiet Cw.calm_mono_final wb hb0 1 (by kernel_rfl) ?_
  simp only [List.take_succ_cons, List.take_zero, List.drop_succ_cons, List.drop_zero]
  repeat (go_big_quiet_step (fail))
  refine wpQuiet_nil ?_
  refine Cw.calm_store Cw.calm_mono_final ⟨g, b, none⟩ (vint m) rfl (fun w' hw => ?_) (fun w' hw => (hw hmix).1.setR hb hfb) ?_
  · have hm := (hw hmix).1
    obtain ⟨y, hy⟩ := hm.cell hb
    have hf := hm.free b
    go_simp
  simp only [Act.put]
  refine Cw.calm_nil fun w3 hw3 hF => ?_
  have hsa := ownPre_stored hmix ha hfa (by have := hF 20; first | exact this.2 rfl | exact this.1.2 rfl)
  have hsb := ownPre_stored hmix hb hfb (by have := hF 22; first | exact this.2 rfl | exact this.1.2 rfl)
  have hfinal := (hw3 hmix).1.final (by simp) (fun i hi => by
    by_cases ea : i = a
    · subst ea; exact .inr hsa
    by_cases eb : i = b
    · subst eb; exact .inr hsb
    exact .inl (by rw [List.getElem?_set_ne (fun h => eb h.symm)]; rw [List.getElem?_set_ne (fun h => ea h.symm)]))
  clear hF hw3 hmix hb0 hown
  have hcell := hfinal.cell (j := c) (by simpa using hc)
  rw [List.getElem?_map, List.getElem?_set_ne (fun h => hcb h.symm), List.getElem?_set_ne (fun h => hca h.symm), List.getElem?_replicate, if_pos hc] at hcell
  have hfr := hfinal.free c
  have hst := hfinal.store c (vint (-(n + m)))
  go_wp2
  refine bodyPost_ret (by simp [results, Try.results63, go_sem]; try rfl) rfl ?_
  exact eqRes_of hex0 (by simp) hst

set_option maxRecDepth 100000 in
set_option maxHeartbeats 2000000 in
theorem factors_7 (a b c : Nat) (n m : Int) (cnt : Nat) (w : World) (h8 : cnt ≤ 8) (ha : a < cnt) (hb : b < cnt) (hba : b ≠ a) :
    Calls Try.prog 63 #[.agg #[.int .u8 7, .int .i64 a, .int .i64 b, .int .i64 c, .int .i64 n, .int .i64 m], .int .i64 cnt] w (EqRes w (((List.replicate cnt (0 : Int)).set a 1).set b (-1))) := by
  go_enter Try.func63, Try.ntmps63
  have hp0 : ∀ w', Ext (w.alloc (.cells #[.int .u8 7, vint a, vint b, vint c, vint n, vint m] 57)) w' → w'.cell? ⟨w.heap.size, 0, none⟩ = some (.int .u8 7) := fun w' he => he.cell (by simp)
  have hp1 : ∀ w', Ext (w.alloc (.cells #[.int .u8 7, vint a, vint b, vint c, vint n, vint m] 57)) w' → w'.cell? ⟨w.heap.size, 1, none⟩ = some (vint a) := fun w' he => he.cell (by simp)
  have hp2 : ∀ w', Ext (w.alloc (.cells #[.int .u8 7, vint a, vint b, vint c, vint n, vint m] 57)) w' → w'.cell? ⟨w.heap.size, 2, none⟩ = some (vint b) := fun w' he => he.cell (by simp)
  have hp3 : ∀ w', Ext (w.alloc (.cells #[.int .u8 7, vint a, vint b, vint c, vint n, vint m] 57)) w' → w'.cell? ⟨w.heap.size, 3, none⟩ = some (vint c) := fun w' he => he.cell (by simp)
  have hp4 : ∀ w', Ext (w.alloc (.cells #[.int .u8 7, vint a, vint b, vint c, vint n, vint m] 57)) w' → w'.cell? ⟨w.heap.size, 4, none⟩ = some (vint n) := fun w' he => he.cell (by simp)
  have hp5 : ∀ w', Ext (w.alloc (.cells #[.int .u8 7, vint a, vint b, vint c, vint n, vint m] 57)) w' → w'.cell? ⟨w.heap.size, 5, none⟩ = some (vint m) := fun w' he => he.cell (by simp)
  have hex0 : Ext w (w.alloc (.cells #[.int .u8 7, vint a, vint b, vint c, vint n, vint m] 57)) := by simp
  go_wp2_with (refine own_make (w1 := w.alloc (.cells #[.int .u8 7, vint a, vint b, vint c, vint n, vint m] 57)) int_elem rfl _ _ rfl Try.underlying22 _ cnt rfl rfl (by omega) (by unfold maxLen; omega) (Ext.refl _) ?_; intro w2 hown hx; rw [made_ints] at hown)
  simp only [World.alloc, Array.size_push] at hown
  change Own (w.alloc (.cells #[.int .u8 7, vint a, vint b, vint c, vint n, vint m] 57)) w2 _ _ _ _ _ at hown
  generalize w.heap.size + 1 = g at *
  generalize hwb : w.alloc (.cells #[.int .u8 7, vint a, vint b, vint c, vint n, vint m] 57) = wb at *
  clear hwb hx
  generalize w.heap.size = bx at *
  have hai : (a : Int) < (cnt : Int) := by omega
  have hbi : (b : Int) < (cnt : Int) := by omega
  have hfa : ((List.replicate cnt (0 : Int)).set a 1)[a]? = some 1 := by rw [List.getElem?_set_self (by simpa using ha)]
  have hmix : Mixed wb g cnt (List.replicate cnt (0 : Int)) ((List.replicate cnt (0 : Int)).set a 1) w2 := Mixed.start hown
  have hb0 : ∀ w', (ownPre wb g cnt (List.replicate cnt (0 : Int)) ((List.replicate cnt (0 : Int)).set a 1)).R w2 w' → Ext wb w' := fun w' h => (h hmix).1.ext
  refine Cw.wp_region_calm (p := ownPre wb g cnt (List.replicate cnt (0 : Int)) ((List.replicate cnt (0 : Int)).set a 1)) 8 (fun _ _ _ _ => True) (fun _ _ _ _ _ _ h => h) (by kernel_rfl) (by kernel_rfl) ?_
  simp only [List.take_succ_cons, List.take_zero, List.drop_succ_cons, List.drop_zero]
  refine Cw.calm_quiet Cw.calm_mono_final wb hb0 7 (by kernel_rfl) ?_
  simp only [List.take_succ_cons, List.take_zero, List.drop_succ_cons, List.drop_zero]
  repeat (go_big_quiet_step (fail))
  refine wpQuiet_nil ?_
  refine Cw.calm_store Cw.calm_mono_final ⟨g, a, none⟩ (vint 1) rfl (fun w' hw => ?_) (fun w' hw => (hw hmix).1.setR ha hfa) ?_
  · have hm := (hw hmix).1
    obtain ⟨y, hy⟩ := hm.cell ha
    have hf := hm.free a
    go_simp
  simp only [Act.put]
  refine Cw.calm_nil fun w3 hw3 hF => ?_
  have hsa := ownPre_stored hmix ha hfa (by have := hF 7; first | exact this.2 rfl | exact this.1.2 rfl)
  have hfinal := (hw3 hmix).1.final (by simp) (fun i hi => by
    by_cases ea : i = a
    · subst ea; exact .inr hsa
    exact .inl (by rw [List.getElem?_set_ne (fun h => ea h.symm)]))
  clear hF hw3 hmix hb0 hown
  have hcell := hfinal.cell (j := b) (by simpa using hb)
  rw [List.getElem?_map, List.getElem?_set_ne (fun h => hba h.symm), List.getElem?_replicate, if_pos hb] at hcell
  have hfr := hfinal.free b
  have hst := hfinal.store b (vint (-1))
  go_wp2
  refine bodyPost_ret (by simp [results, Try.results63, go_sem]; try rfl) rfl ?_
  exact eqRes_of hex0 (by simp) hst

theorem valid_nat {x : Msh} {cnt : Nat} (h : validB x (cnt : Int) = true) :
    ∃ a b c : Nat, ∃ n m : Int, x.a = a ∧ x.b = b ∧ x.c = c ∧ x.n = n ∧ x.m = m := by
  have hv : validP x cnt := of_decide_eq_true h
  obtain ⟨kind, a, b, c, n, m⟩ := x
  have hk := nsS_kind hv.1
  refine ⟨a.toNat, b.toNat, c.toNat, n, m, ?_, ?_, ?_, rfl, rfl⟩
  all_goals
    unfold validP nsS inR at hv
    simp only at hv hk ⊢
    repeat' split at hv
    all_goals omega

theorem equation_any (x : Msh) (cnt : Nat) (w : World) (h : validB x (cnt : Int) = true) (h8 : cnt ≤ 8) :
    Calls Try.prog 62 #[x.val, .int .i64 cnt] w (EqRes w (facS x cnt)) := by
  obtain ⟨a, b, c, n, m, ha, hb, hc, hn, hm⟩ := valid_nat h
  obtain ⟨kind, a', b', c', n', m'⟩ := x
  simp only at ha hb hc hn hm
  subst ha hb hc hn hm
  have hv : validP _ cnt := of_decide_eq_true h
  have hk := nsS_kind hv.1
  simp only at hk
  rcases (by omega : kind = 1 ∨ kind = 2 ∨ kind = 3 ∨ kind = 4 ∨ kind = 5 ∨ kind = 6 ∨ kind = 7) with rfl | rfl | rfl | rfl | rfl | rfl | rfl
  all_goals simp [validP, nsS, teethS, inR] at hv
  · exact equation_1 a b c n' m' cnt w h8 (by omega) (by omega) (by omega)
  · exact equation_2 a b c n' m' cnt w h8 (by omega) (by omega) (by omega) (by omega) (by omega) (by omega) (by omega)
  · exact equation_3 a b c n' m' cnt w h8 (by omega) (by omega) (by omega)
  · exact equation_4 a b c n' m' cnt w h8 (by omega)
  · exact equation_5 a b c n' m' cnt w h8 (by omega) (by omega) (by omega) (by omega) (by omega) (by omega)
  · exact equation_6 a b c n' m' cnt w h8 (by omega) (by omega) (by omega) (by omega) (by omega) (by omega) (by omega) (by omega) (by omega) (by omega)
  · exact equation_7 a b c n' m' cnt w h8 (by omega) (by omega) (by omega)

theorem factors_any (x : Msh) (cnt : Nat) (w : World) (h : validB x (cnt : Int) = true) (h8 : cnt ≤ 8) :
    Calls Try.prog 63 #[x.val, .int .i64 cnt] w (EqRes w (facS x cnt)) := by
  obtain ⟨a, b, c, n, m, ha, hb, hc, hn, hm⟩ := valid_nat h
  obtain ⟨kind, a', b', c', n', m'⟩ := x
  simp only at ha hb hc hn hm
  subst ha hb hc hn hm
  have hv : validP _ cnt := of_decide_eq_true h
  have hk := nsS_kind hv.1
  simp only at hk
  rcases (by omega : kind = 1 ∨ kind = 2 ∨ kind = 3 ∨ kind = 4 ∨ kind = 5 ∨ kind = 6 ∨ kind = 7) with rfl | rfl | rfl | rfl | rfl | rfl | rfl
  all_goals simp [validP, nsS, teethS, inR] at hv
  · exact factors_1 a b c n' m' cnt w h8 (by omega) (by omega) (by omega)
  · exact factors_2 a b c n' m' cnt w h8 (by omega) (by omega) (by omega) (by omega) (by omega) (by omega) (by omega)
  · exact factors_3 a b c n' m' cnt w h8 (by omega) (by omega) (by omega)
  · exact factors_4 a b c n' m' cnt w h8 (by omega)
  · exact factors_5 a b c n' m' cnt w h8 (by omega) (by omega) (by omega) (by omega) (by omega) (by omega)
  · exact factors_6 a b c n' m' cnt w h8 (by omega) (by omega) (by omega) (by omega) (by omega) (by omega) (by omega) (by omega) (by omega) (by omega)
  · exact factors_7 a b c n' m' cnt w h8 (by omega) (by omega) (by omega)
end Go.Proofs.Ytbclbcldplmppaa

/- The factors of a train's mesh, or the error: by both sides. -/
namespace Go.Proofs.Ytbclbcldplmppaa
open Go.RowKit

/-- A list of numbers, in new or old memory, and an error's number. -/
def IntsRes (w : World) (l : List Int) (code : Int) (e : Ending) (w' : World) : Prop :=
  ∃ A c, e = .returned (.tuple #[.slice A l.length c, .int .i64 code]) ∧ Ints w' A l ∧ Ext w w'
theorem intsRes_nil {w w' : World} {code : Int} {l : List Int} {x : Int} (hl : [] = l) (hx : x = code) (h : Ext w w') : IntsRes w l code (.returned (.tuple #[.slice none 0 0, .int .i64 x])) w' := by
  subst hl hx
  exact ⟨none, 0, rfl, Ints.nil _ _, h⟩

def eqL (s : Int) (ms : List Msh) (k : Int) : List Int :=
  if trainB s ms = true then (if h : 0 ≤ k ∧ k < ms.length then facS (ms[k.toNat]'(by omega)) s.toNat else []) else []
def eqE (s : Int) (ms : List Msh) (k : Int) : Int := if trainB s ms = true then (if 0 ≤ k ∧ k < ms.length then 0 else 2) else 40

/-- The values that a slice of numbers may be. -/
def isInts (l : List Int) (v : Value) (w : World) : Prop := ∃ A c, v = .slice A l.length c ∧ Ints w A l
theorem isInts.ext {l : List Int} {v : Value} {w w' : World} (he : Ext w w') (h : isInts l v w) : isInts l v w' := by
  obtain ⟨A, c, hv, hi⟩ := h
  exact ⟨A, c, hv, hi.ext he⟩
theorem EqRes.isInts {w w' : World} {l : List Int} {e : Ending} (h : EqRes w l e w') : ∃ v, e = .returned v ∧ Ext w w' ∧ isInts l v w' := by
  obtain ⟨g, he, ho⟩ := h
  exact ⟨_, he, ho.ext, _, _, rfl, OwnI.ints ho⟩

set_option maxRecDepth 100000 in
set_option maxHeartbeats 2000000 in
theorem equation_train (A : Option Addr) (c : Nat) (s : Int) (ms : List Msh) (k : Int) (w : World) (hA : MRow w A ms) (hl : ms.length ≤ 1000000) :
    Calls Try.prog 22 #[.agg #[.int .i64 s, .slice A ms.length c], .int .i64 k] w (IntsRes w (eqL s ms k) (eqE s ms k)) := by
  have cv := fun (w' : World) (he : Ext w w') => check_any A c s ms w' (hA.ext he) hl
  have ha := fun k (hk : k < ms.length) => hA.at_ hk
  have Cv := Lib.hid cv
  have Ha := Lib.hid ha
  clear cv ha hA
  cases ht : trainB s ms
  · have h1 : [] = eqL s ms k := by rw [eqL, if_neg (by simp [ht])]
    have h2 : trainE s ms = eqE s ms k := by rw [eqE, trainE, ht]; rfl
    have h3 : trainE s ms = 40 := by rw [trainE, ht]; rfl
    rw [h3] at h2 Cv
    have H1 := Lib.hid h1
    have H2 := Lib.hid h2
    clear h1 h2 h3 ht Ha
    generalize eqL s ms k = l at *
    generalize eqE s ms k = code at *
    generalize ms.length = m at *
    go_enter Try.func22, Try.ntmps22
    go_wp2_with (go_at_call 24; refine (Cv.out _ (by simp)).mono ?_; rintro e w' ⟨rfl, hx⟩)
    go_ret2
    exact intsRes_nil H1.out H2.out (Ext.trans (by simp) hx)
  · have h3 : trainE s ms = 0 := by rw [trainE, ht]; rfl
    rw [h3] at Cv
    clear h3
    have hp : trainP s ms := of_decide_eq_true ht
    by_cases hk : 0 ≤ k ∧ k < ms.length
    · have h1 : facS (ms[k.toNat]'(by omega)) s.toNat = eqL s ms k := by rw [eqL, if_pos ht, dif_pos hk]
      have h2 : 0 = eqE s ms k := by rw [eqE, if_pos ht, if_pos hk]
      have H2 := Lib.hid h2
      rw [← h1]
      have hlen := facS_length (ms[k.toNat]'(by omega)) s.toNat
      clear h1 h2
      obtain ⟨q, hq⟩ : ∃ q : Nat, k = q := ⟨k.toNat, by omega⟩
      subst hq
      obtain ⟨S, hS⟩ : ∃ S : Nat, s = S := ⟨s.toNat, by have := hp.1; omega⟩
      subst hS
      have hqm : q < ms.length := by omega
      obtain ⟨ad, rfl, q0, q1, q2, q3, q4, q5⟩ := Ha.out q hqm
      have cq := fun (w' : World) => equation_any ms[q] S w' (hp.2.2.2 q hqm) (by have := hp.2.1; omega)
      simp only [Int.toNat_natCast] at *
      generalize eqE (S : Int) ms q = code at *
      generalize hfs : facS ms[q] S = l at *
      clear hfs hp ht Ha hk
      generalize hx : ms[q] = x at *
      clear hx
      generalize hms : ms.length = m at *
      clear hms
      obtain ⟨kind, a, b, c3, n, m3⟩ := x
      simp only [Msh.val] at *
      have hqi : (q : Int) < (m : Int) := by omega
      have Cq := Lib.hid cq
      have Hlen := Lib.hid hlen
      clear cq hlen
      go_enter Try.func22, Try.ntmps22
      have hp0 : ∀ w', Ext (w.alloc (.cells #[.int .i64 S, .slice (some ad) m c] 41)) w' → w'.cell? ⟨w.heap.size, 0, none⟩ = some (.int .i64 S) := fun w' he => he.cell (by simp)
      have hp1 : ∀ w', Ext (w.alloc (.cells #[.int .i64 S, .slice (some ad) m c] 41)) w' → w'.cell? ⟨w.heap.size, 1, none⟩ = some (.slice (some ad) m c) := fun w' he => he.cell (by simp)
      go_wp2_with (go_at_call 24; refine (Cv.out _ (by simp)).mono ?_; rintro e w1 ⟨rfl, hx1⟩)
      have hex : Ext w w1 := Ext.trans (by simp) hx1
      have hp0 : ∀ w', Ext w1 w' → _ := fun w' he => hp0 w' (hx1.trans he)
      have hp1 : ∀ w', Ext w1 w' → _ := fun w' he => hp1 w' (hx1.trans he)
      have q0 : ∀ w', Ext w1 w' → _ := fun w' he => q0 w' (hex.trans he)
      have q1 : ∀ w', Ext w1 w' → _ := fun w' he => q1 w' (hex.trans he)
      have q2 : ∀ w', Ext w1 w' → _ := fun w' he => q2 w' (hex.trans he)
      have q3 : ∀ w', Ext w1 w' → _ := fun w' he => q3 w' (hex.trans he)
      have q4 : ∀ w', Ext w1 w' → _ := fun w' he => q4 w' (hex.trans he)
      have q5 : ∀ w', Ext w1 w' → _ := fun w' he => q5 w' (hex.trans he)
      go_wp2
      refine wp_region_calm 10 (fun _ _ v w => isInts l v w) (fun _ _ _ _ _ he h => isInts.ext he h) (by kernel_rfl) (by kernel_rfl) ?_
      simp only [List.take_succ_cons, List.take_zero, List.drop_succ_cons, List.drop_zero]
      refine calm_quiet calm_mono_final 7 (by kernel_rfl) ?_
      simp only [List.take_succ_cons, List.take_zero, List.drop_succ_cons, List.drop_zero]
      repeat (go_big_quiet_step (fail))
      refine wpQuiet_nil ?_
      refine calm_call calm_mono_final 62 #[.agg #[.int .u8 kind, vint a, vint b, vint c3, vint n, vint m3], .int .i64 S] rfl (fun w => ?_) (fun w he _ => ?_) ?_
      · go_simp
      · exact (Cq.out _).mono fun e w'' h => h.isInts
      intro v1 w1' _ hv1
      obtain ⟨A1, c1, rfl, _⟩ := hv1
      simp only [Act.put, List.setIfInBounds_toArray, List.set_cons_succ, List.set_cons_zero]
      refine calm_quiet calm_mono_final 2 (by kernel_rfl) ?_
      simp only [List.take_succ_cons, List.take_zero, List.drop_succ_cons, List.drop_zero]
      repeat (go_big_quiet_step (fail))
      refine wpQuiet_nil ?_
      refine calm_nil fun w3 he3 hF => ?_
      obtain ⟨A2, c2, hv2, hi2⟩ := (hF 7).2 rfl
      injection hv2 with e1 e2 e3
      subst e1 e3
      clear hF e2
      go_wp2
      go_ret2
      have h2 := H2.out
      subst h2
      exact ⟨A1, c1, rfl, hi2, hex.trans he3⟩
    · have h1 : [] = eqL s ms k := by rw [eqL, if_pos ht, dif_neg hk]
      have h2 : 2 = eqE s ms k := by rw [eqE, if_pos ht, if_neg hk]
      have H1 := Lib.hid h1
      have H2 := Lib.hid h2
      clear h1 h2 ht hp Ha
      generalize eqL s ms k = l at *
      generalize eqE s ms k = code at *
      generalize ms.length = m at *
      have hg : (decide (k < 0) || decide ((m : Int) ≤ k)) = true := by simp; omega
      go_enter Try.func22, Try.ntmps22
      have hp1 : ∀ w', Ext (w.alloc (.cells #[.int .i64 s, .slice A m c] 41)) w' → w'.cell? ⟨w.heap.size, 1, none⟩ = some (.slice A m c) := fun w' he => he.cell (by simp)
      go_wp2_with (go_at_call 24; refine (Cv.out _ (by simp)).mono ?_; rintro e w1 ⟨rfl, hx1⟩; have hp1 := hp1 w1 hx1)
      all_goals
        go_ret2
        exact intsRes_nil H1.out H2.out (Ext.trans (by simp) hx1)
end Go.Proofs.Ytbclbcldplmppaa

/- The factors of a train's mesh, or the error: by the reference. -/
namespace Go.Proofs.Ytbclbcldplmppaa
open Go.RowKit

set_option maxRecDepth 100000 in
set_option maxHeartbeats 2000000 in
theorem equation_ref (A : Option Addr) (c : Nat) (s : Int) (ms : List Msh) (k : Int) (w : World) (hA : MRow w A ms) (hl : ms.length ≤ 1000000) :
    Calls Try.prog 23 #[.agg #[.int .i64 s, .slice A ms.length c], .int .i64 k] w (IntsRes w (eqL s ms k) (eqE s ms k)) := by
  have cv := fun (w' : World) (he : Ext w w') => train_ref A c s ms w' (hA.ext he) hl
  have ha := fun k (hk : k < ms.length) => hA.at_ hk
  have Cv := Lib.hid cv
  have Ha := Lib.hid ha
  clear cv ha hA
  cases ht : trainB s ms
  · have h1 : [] = eqL s ms k := by rw [eqL, if_neg (by simp [ht])]
    have h2 : 40 = eqE s ms k := by rw [eqE, if_neg (by simp [ht])]
    rw [ht] at Cv
    have H1 := Lib.hid h1
    have H2 := Lib.hid h2
    clear h1 h2 ht Ha
    generalize eqL s ms k = l at *
    generalize eqE s ms k = code at *
    generalize ms.length = m at *
    go_enter Try.func23, Try.ntmps23
    go_wp2_with (go_at_call 45; refine (Cv.out _ (by simp)).mono ?_; rintro e w' ⟨rfl, hx⟩)
    go_ret2
    exact intsRes_nil H1.out H2.out (Ext.trans (by simp) hx)
  · rw [ht] at Cv
    have hsub : IntKind.i64.wrap ((ms.length : Int) - 1) = (ms.length : Int) - 1 := by rw [IntKind.wrap_i64]; omega
    have hp : trainP s ms := of_decide_eq_true ht
    by_cases hk : 0 ≤ k ∧ k < ms.length
    · have h1 : facS (ms[k.toNat]'(by omega)) s.toNat = eqL s ms k := by rw [eqL, if_pos ht, dif_pos hk]
      have h2 : 0 = eqE s ms k := by rw [eqE, if_pos ht, if_pos hk]
      have H2 := Lib.hid h2
      rw [← h1]
      have hlen := facS_length (ms[k.toNat]'(by omega)) s.toNat
      clear h1 h2
      obtain ⟨q, hq⟩ : ∃ q : Nat, k = q := ⟨k.toNat, by omega⟩
      subst hq
      obtain ⟨S, hS⟩ : ∃ S : Nat, s = S := ⟨s.toNat, by have := hp.1; omega⟩
      subst hS
      have hqm : q < ms.length := by omega
      obtain ⟨ad, rfl, q0, q1, q2, q3, q4, q5⟩ := Ha.out q hqm
      have cq := fun (w' : World) => factors_any ms[q] S w' (hp.2.2.2 q hqm) (by have := hp.2.1; omega)
      simp only [Int.toNat_natCast] at *
      generalize eqE (S : Int) ms q = code at *
      generalize hfs : facS ms[q] S = l at *
      clear hfs hp ht Ha hk
      generalize hx : ms[q] = x at *
      clear hx
      generalize hms : ms.length = m at *
      clear hms
      obtain ⟨kind, a, b, c3, n, m3⟩ := x
      simp only [Msh.val] at *
      have hqi : (q : Int) < (m : Int) := by omega
      have hwi : withinB (q : Int) 0 ((m : Int) - 1) = true := withinB_true.2 (by omega)
      have Cq := Lib.hid cq
      have Hlen := Lib.hid hlen
      clear cq hlen
      go_enter Try.func23, Try.ntmps23
      have hp0 : ∀ w', Ext (w.alloc (.cells #[.int .i64 S, .slice (some ad) m c] 41)) w' → w'.cell? ⟨w.heap.size, 0, none⟩ = some (.int .i64 S) := fun w' he => he.cell (by simp)
      have hp1 : ∀ w', Ext (w.alloc (.cells #[.int .i64 S, .slice (some ad) m c] 41)) w' → w'.cell? ⟨w.heap.size, 1, none⟩ = some (.slice (some ad) m c) := fun w' he => he.cell (by simp)
      go_wp2_with (first | (go_at_call 45; refine (Cv.out _ (by simp)).mono ?_; rintro e w1 ⟨rfl, hx1⟩; have hp1' := hp1 w1 hx1) | (go_at_call 54; refine (within_any _ _ _ _).mono ?_; rintro e w' ⟨rfl, rfl⟩))
      have hex : Ext w w1 := Ext.trans (by simp) hx1
      have hp0 : ∀ w', Ext w1 w' → _ := fun w' he => hp0 w' (hx1.trans he)
      have hp1 : ∀ w', Ext w1 w' → _ := fun w' he => hp1 w' (hx1.trans he)
      have q0 : ∀ w', Ext w1 w' → _ := fun w' he => q0 w' (hex.trans he)
      have q1 : ∀ w', Ext w1 w' → _ := fun w' he => q1 w' (hex.trans he)
      have q2 : ∀ w', Ext w1 w' → _ := fun w' he => q2 w' (hex.trans he)
      have q3 : ∀ w', Ext w1 w' → _ := fun w' he => q3 w' (hex.trans he)
      have q4 : ∀ w', Ext w1 w' → _ := fun w' he => q4 w' (hex.trans he)
      have q5 : ∀ w', Ext w1 w' → _ := fun w' he => q5 w' (hex.trans he)
      go_wp2
      refine wp_region_calm 10 (fun _ _ v w => isInts l v w) (fun _ _ _ _ _ he h => isInts.ext he h) (by kernel_rfl) (by kernel_rfl) ?_
      simp only [List.take_succ_cons, List.take_zero, List.drop_succ_cons, List.drop_zero]
      refine calm_quiet calm_mono_final 7 (by kernel_rfl) ?_
      simp only [List.take_succ_cons, List.take_zero, List.drop_succ_cons, List.drop_zero]
      repeat (go_big_quiet_step (fail))
      refine wpQuiet_nil ?_
      refine calm_call calm_mono_final 63 #[.agg #[.int .u8 kind, vint a, vint b, vint c3, vint n, vint m3], .int .i64 S] rfl (fun w => ?_) (fun w he _ => ?_) ?_
      · go_simp
      · exact (Cq.out _).mono fun e w'' h => h.isInts
      intro v1 w1' _ hv1
      obtain ⟨A1, c1, rfl, _⟩ := hv1
      simp only [Act.put, List.setIfInBounds_toArray, List.set_cons_succ, List.set_cons_zero]
      refine calm_quiet calm_mono_final 2 (by kernel_rfl) ?_
      simp only [List.take_succ_cons, List.take_zero, List.drop_succ_cons, List.drop_zero]
      repeat (go_big_quiet_step (fail))
      refine wpQuiet_nil ?_
      refine calm_nil fun w3 he3 hF => ?_
      obtain ⟨A2, c2, hv2, hi2⟩ := (hF 7).2 rfl
      injection hv2 with e1 e2 e3
      subst e1 e3
      clear hF e2
      go_wp2
      go_ret2
      have h2 := H2.out
      subst h2
      exact ⟨A1, c1, rfl, hi2, hex.trans he3⟩
    · have h1 : [] = eqL s ms k := by rw [eqL, if_pos ht, dif_neg hk]
      have h2 : 2 = eqE s ms k := by rw [eqE, if_pos ht, if_neg hk]
      have H1 := Lib.hid h1
      have H2 := Lib.hid h2
      clear h1 h2 ht hp Ha
      generalize eqL s ms k = l at *
      generalize eqE s ms k = code at *
      generalize ms.length = m at *
      have hwi : withinB k 0 ((m : Int) - 1) = false := withinB_false.2 (by omega)
      go_enter Try.func23, Try.ntmps23
      have hp1 : ∀ w', Ext (w.alloc (.cells #[.int .i64 s, .slice A m c] 41)) w' → w'.cell? ⟨w.heap.size, 1, none⟩ = some (.slice A m c) := fun w' he => he.cell (by simp)
      go_wp2_with (first | (go_at_call 45; refine (Cv.out _ (by simp)).mono ?_; rintro e w1 ⟨rfl, hx1⟩; have hp1 := hp1 w1 hx1) | (go_at_call 54; refine (within_any _ _ _ _).mono ?_; rintro e w' ⟨rfl, rfl⟩))
      all_goals
        go_ret2
        exact intsRes_nil H1.out H2.out (Ext.trans (by simp) hx1)
end Go.Proofs.Ytbclbcldplmppaa

/- A train under construction: appending to a field of a struct in the call's own memory. No program in sight but the table of types. -/
namespace Go.Proofs.Ytbclbcldplmppaa
open Go.RowKit

theorem mesh_elem : ElemInfo 57 (.agg #[.int .u8 0, .int .i64 0, .int .i64 0, .int .i64 0, .int .i64 0, .int .i64 0]) 6 48 := ⟨info_parts (by kernel_rfl), rfl, by decide⟩

theorem own_append_at {ops : Array Oper} {rest : List Oper} {o : Oper} {a : Act} {Q : Exit → Act → World → Prop} {w1 w : World} {e : TypeId} {z : Value} {size bytes : Nat}
    (hE : ElemInfo e z size bytes) (hg : o.guard = none) (s x : Operand) (t : TypeId) (hop : o.op = .call { callee := .builtin .append, args := #[s, x], argTypes := #[t, t] }) (ht : Try.prog.underlying t = some (.slice e))
    (v : Value) (n : Nat) (xs : List Value) (hs : a.eval s = v) (hown : Own w1 w e size v n xs) (ad : Addr) (m c : Nat) (news : List Value) (hx : a.eval x = .slice (some ad) m c) (hl : news.length = m * size) (hr : Row w (some ad) news) (h1 : ∀ u ∈ news, u.oneCell' = true)
    (hn : (n + m) * bytes ≤ 140737488355328) (hn2 : n + m ≤ maxLen)
    (hK : ∀ v' w', Own w1 w' e size v' (n + m) (xs ++ news) → w.grownBy w' v.ownBlock → (v'.ownBlock = v.ownBlock ∨ v'.ownBlock = some w.heap.size) → wpList Try.prog ops Q rest (a.put o.dst v') w') :
    wpList Try.prog ops Q (o :: rest) a w := by
  obtain ⟨i, hi, hz0, hz1, hz2⟩ := hE.info
  refine wpList_append_own_at w hg s x t hop w1.heap.size e i z size bytes ht hi hz0 hz1 hz2 hE.zs hE.pos v n xs hs hown.2 ad m c news hx hl (fun j u hu => ?_) h1 hn2 hn hown.1.le fun v' w' h2 h3 _ h5 => ?_
  · have hj := (List.getElem?_eq_some_iff.1 hu).1
    obtain ⟨ad', he, hc⟩ := hr j hj
    rw [Option.some.inj he]
    exact hc.trans hu
  · exact hK v' w' ⟨hown.1.grown h3 (fun k hk => (hown.2.lt k hk).1), h2⟩ h3 h5

theorem row_alloc (w : World) (cs : Array Value) (t : TypeId) : Row (w.alloc (.cells cs t)) (some ⟨w.heap.size, 0, none⟩) cs.toList := fun k hk => by
  refine ⟨_, rfl, ?_⟩
  have hadd : (⟨w.heap.size, 0, none⟩ : Addr).add k = ⟨w.heap.size, k, none⟩ := by unfold Addr.add; split <;> simp_all
  rw [hadd, World.cell?_alloc_at _ _ _ _ rfl]
  simp

/-- A struct of two cells at block g5, whose second one holds the call's own row v; a place for the result at block g4. -/
structure Bld (wb w : World) (g4 g5 : Nat) (s : Value) (v : Value) (n : Nat) (xs : List Value) : Prop where
  own : Own wb w 57 6 v n xs
  n4 : v.ownBlock ≠ some g4
  n5 : v.ownBlock ≠ some g5
  b4 : wb.heap.size ≤ g4
  b5 : wb.heap.size ≤ g5
  l4 : g4 < w.heap.size
  l5 : g5 < w.heap.size
  ne : g4 ≠ g5
  c50 : w.cell? ⟨g5, 0, none⟩ = some s
  c51 : w.cell? ⟨g5, 1, none⟩ = some v
  f5 : ∀ j, w.frozen? ⟨g5, j, none⟩ = false
  c40 : ∃ u, w.cell? ⟨g4, 0, none⟩ = some u
  c41 : ∃ u, w.cell? ⟨g4, 1, none⟩ = some u
  f4 : ∀ j, w.frozen? ⟨g4, j, none⟩ = false

section
variable {wb w : World} {g4 g5 : Nat} {s v : Value} {n : Nat} {xs : List Value}
theorem Bld.alloc (h : Bld wb w g4 g5 s v n xs) (o : Obj) : Bld wb (w.alloc o) g4 g5 s v n xs := by
  have hx : Ext w (w.alloc o) := by simp
  obtain ⟨u0, h0⟩ := h.c40
  obtain ⟨u1, h1⟩ := h.c41
  exact ⟨h.own.alloc o, h.n4, h.n5, h.b4, h.b5, Nat.lt_of_lt_of_le h.l4 hx.le, Nat.lt_of_lt_of_le h.l5 hx.le, h.ne, hx.cell h.c50, hx.cell h.c51, fun j => (hx.frozen h.l5).trans (h.f5 j), ⟨u0, hx.cell h0⟩, ⟨u1, hx.cell h1⟩, fun j => (hx.frozen h.l4).trans (h.f4 j)⟩
theorem Bld.later {w' : World} (h : Bld wb w g4 g5 s v n xs) (hx : Ext w w') : Bld wb w' g4 g5 s v n xs := by
  obtain ⟨u0, h0⟩ := h.c40
  obtain ⟨u1, h1⟩ := h.c41
  exact ⟨h.own.later hx, h.n4, h.n5, h.b4, h.b5, Nat.lt_of_lt_of_le h.l4 hx.le, Nat.lt_of_lt_of_le h.l5 hx.le, h.ne, hx.cell h.c50, hx.cell h.c51, fun j => (hx.frozen h.l5).trans (h.f5 j), ⟨u0, hx.cell h0⟩, ⟨u1, hx.cell h1⟩, fun j => (hx.frozen h.l4).trans (h.f4 j)⟩

/-- What stands behind the append, ahead of the store. -/
structure Bld2 (wb w : World) (g4 g5 : Nat) (s v v' : Value) (n : Nat) (xs : List Value) : Prop where
  own : Own wb w 57 6 v' n xs
  n4 : v'.ownBlock ≠ some g4
  n5 : v'.ownBlock ≠ some g5
  b4 : wb.heap.size ≤ g4
  b5 : wb.heap.size ≤ g5
  l4 : g4 < w.heap.size
  l5 : g5 < w.heap.size
  ne : g4 ≠ g5
  c50 : w.cell? ⟨g5, 0, none⟩ = some s
  c51 : w.cell? ⟨g5, 1, none⟩ = some v
  f5 : ∀ j, w.frozen? ⟨g5, j, none⟩ = false
  c40 : ∃ u, w.cell? ⟨g4, 0, none⟩ = some u
  c41 : ∃ u, w.cell? ⟨g4, 1, none⟩ = some u
  f4 : ∀ j, w.frozen? ⟨g4, j, none⟩ = false

theorem Bld.appended {w' : World} {v' : Value} {n' : Nat} {ys : List Value} (h : Bld wb w g4 g5 s v n xs) (ho : Own wb w' 57 6 v' n' ys) (hg : w.grownBy w' v.ownBlock) (hb : v'.ownBlock = v.ownBlock ∨ v'.ownBlock = some w.heap.size) :
    Bld2 wb w' g4 g5 s v v' n' ys := by
  obtain ⟨u0, h0⟩ := h.c40
  obtain ⟨u1, h1⟩ := h.c41
  have c5 : ∀ j, w'.cell? ⟨g5, j, none⟩ = w.cell? ⟨g5, j, none⟩ := fun j => hg.cell_far ⟨g5, j, none⟩ h.l5 (fun e => h.n5 e.symm)
  have c4 : ∀ j, w'.cell? ⟨g4, j, none⟩ = w.cell? ⟨g4, j, none⟩ := fun j => hg.cell_far ⟨g4, j, none⟩ h.l4 (fun e => h.n4 e.symm)
  have l4 := h.l4
  have l5 := h.l5
  refine ⟨ho, ?_, ?_, h.b4, h.b5, Nat.lt_of_lt_of_le h.l4 hg.size, Nat.lt_of_lt_of_le h.l5 hg.size, h.ne, (c5 0).trans h.c50, (c5 1).trans h.c51, fun j => (hg.frozen_far ⟨g5, j, none⟩ h.l5 (fun e => h.n5 e.symm)).trans (h.f5 j), ⟨u0, (c4 0).trans h0⟩, ⟨u1, (c4 1).trans h1⟩, fun j => (hg.frozen_far ⟨g4, j, none⟩ h.l4 (fun e => h.n4 e.symm)).trans (h.f4 j)⟩
  · rcases hb with e | e
    · rw [e]; exact h.n4
    · rw [e]; intro e'; injection e' with e'; omega
  · rcases hb with e | e
    · rw [e]; exact h.n5
    · rw [e]; intro e'; injection e' with e'; omega

theorem Bld2.stored {v' : Value} (h : Bld2 wb w g4 g5 s v v' n xs) : Bld wb (w.setCell ⟨g5, 1, none⟩ v') g4 g5 s v' n xs := by
  obtain ⟨u0, h0⟩ := h.c40
  obtain ⟨u1, h1⟩ := h.c41
  have hsz : (w.setCell ⟨g5, 1, none⟩ v').heap.size = w.heap.size := by simp
  have ne := h.ne
  refine ⟨h.own.other h.b5 (by exact h.n5) v', h.n4, h.n5, h.b4, h.b5, by rw [hsz]; exact h.l4, by rw [hsz]; exact h.l5, h.ne, ?_, World.cell?_setCell_same _ _ _ h.c51, fun j => ?_, ⟨u0, ?_⟩, ⟨u1, ?_⟩, fun j => ?_⟩
  · rw [World.cell?_setCell_other _ _ _ _ (by simp)]; exact h.c50
  · rw [World.frozen?_setCell]; exact h.f5 j
  · rw [World.cell?_setCell_other _ _ _ _ (by first | (simp; done) | (simp; omega))]; exact h0
  · rw [World.cell?_setCell_other _ _ _ _ (by first | (simp; done) | (simp; omega))]; exact h1
  · rw [World.frozen?_setCell]; exact h.f4 j

/-- The result is stored in its place. -/
theorem Bld.result (h : Bld wb w g4 g5 s v n xs) (x : Value) :
    (w.setCell ⟨g4, 0, none⟩ x).cell? ⟨g4, 0, none⟩ = some x ∧ ((w.setCell ⟨g4, 0, none⟩ x).setCell ⟨g4, 1, none⟩ v).cell? ⟨g4, 1, none⟩ = some v ∧
      Own wb ((w.setCell ⟨g4, 0, none⟩ x).setCell ⟨g4, 1, none⟩ v) 57 6 v n xs := by
  obtain ⟨u0, h0⟩ := h.c40
  obtain ⟨u1, h1⟩ := h.c41
  refine ⟨World.cell?_setCell_same _ _ _ h0, World.cell?_setCell_same _ _ _ (u := u1) (by rw [World.cell?_setCell_other _ _ _ _ (by simp)]; exact h1), ?_⟩
  exact (h.own.other (p := ⟨g4, 0, none⟩) h.b4 h.n4 x).other (p := ⟨g4, 1, none⟩) h.b4 h.n4 v

/-- Two structs just laid: the result's place, and the one under construction. -/
theorem Bld.start (wb : World) (s z : Value) : Bld wb ((wb.alloc (.cells #[z, .slice none 0 0] 41)).alloc (.cells #[s, .slice none 0 0] 41)) wb.heap.size (wb.heap.size + 1) s (.slice none 0 0) 0 [] := by
  refine ⟨Own.nil' (by simp) _ _, by simp [Value.ownBlock], by simp [Value.ownBlock], by omega, by omega, ?_, ?_, by omega, by simp, by simp, fun j => by simp, ⟨z, by simp⟩, ⟨_, by simp; rfl⟩, fun j => by simp⟩
  · simp only [World.alloc, Array.size_push]; omega
  · simp only [World.alloc, Array.size_push]; omega
end
end Go.Proofs.Ytbclbcldplmppaa

/- A train without some meshes, by the code. -/
namespace Go.Proofs.Ytbclbcldplmppaa
open Go.RowKit

def keepL (all : List Int) (ms : List Msh) : Nat → List Msh
  | 0 => []
  | k + 1 => keepL all ms k ++ (if memB all k then [] else (ms[k]?).toList)
theorem keepL_skip {all : List Int} {ms : List Msh} {k : Nat} (h : memB all k = true) : keepL all ms (k + 1) = keepL all ms k := by simp [keepL, h]
theorem keepL_take {all : List Int} {ms : List Msh} {k : Nat} (hk : k < ms.length) (h : memB all k = false) : keepL all ms (k + 1) = keepL all ms k ++ [ms[k]] := by simp [keepL, h, hk]
theorem keepL_le (all : List Int) (ms : List Msh) : ∀ k, (keepL all ms k).length ≤ k
  | 0 => by simp [keepL]
  | k + 1 => by
    have := keepL_le all ms k
    unfold keepL
    split
    · simp; omega
    · rw [List.length_append]
      have : (ms[k]?).toList.length ≤ 1 := by cases ms[k]? <;> simp
      omega
def cellsL (ms : List Msh) : List Value := (ms.map Msh.cells).flatten
theorem cellsL_snoc (l : List Msh) (x : Msh) : cellsL (l ++ [x]) = cellsL l ++ x.cells := by simp [cellsL]

/-- A train in new memory. -/
def TrainRes (w : World) (s : Int) (l : List Msh) (e : Ending) (w' : World) : Prop :=
  ∃ v, e = .returned (.agg #[.int .i64 s, v]) ∧ Own w w' 57 6 v l.length (cellsL l)

set_option maxRecDepth 100000 in
set_option maxHeartbeats 2000000 in
theorem open_any (A : Option Addr) (c : Nat) (s : Int) (ms : List Msh) (B : Option Addr) (d : Nat) (all : List Int) (w : World) (hA : MRow w A ms) (hB : Ints w B all) (hl : ms.length ≤ 1000) (hl2 : all.length ≤ 1000000) :
    Calls Try.prog 70 #[.agg #[.int .i64 s, .slice A ms.length c], .slice B all.length d] w (TrainRes w s (keepL all ms ms.length)) := by
  have ha := fun k (hk : k < ms.length) => hA.at_ hk
  have hc := fun (x : Int) (w' : World) (he : Ext w w') => contains_any B d all x w' (hB.ext he) hl2
  have hsk := fun (k : Nat) (h : memB all (k : Int) = true) => keepL_skip (ms := ms) h
  have htk := fun (k : Nat) (hk : k < ms.length) (h : memB all (k : Int) = false) => keepL_take (all := all) hk h
  have hle := fun k => keepL_le all ms k
  have Ha := Lib.hid ha
  have Hc := Lib.hid hc
  have Hsk := Lib.hid hsk
  have Htk := Lib.hid htk
  have Hle := Lib.hid hle
  clear ha hc hsk htk hle hA hB
  obtain ⟨m, hm⟩ : ∃ m, m = ms.length := ⟨_, rfl⟩
  rw [← hm] at hl ⊢
  have Hm := Lib.hid hm
  clear hm
  generalize all.length = q at *
  go_enter Try.func70, Try.ntmps70
  go_wp2
  have hexb : Ext w (w.alloc (.cells #[.int .i64 s, .slice A m c] 41)) := by simp
  generalize hwb : w.alloc (.cells #[.int .i64 s, .slice A m c] 41) = wb at *
  have hsz : wb.heap.size = w.heap.size + 1 := by rw [← hwb]; simp only [World.alloc, Array.size_push]
  have hst : Bld wb ((wb.alloc (.cells #[.int .i64 0, .slice none 0 0] 41)).alloc (.cells #[.int .i64 s, .slice none 0 0] 41)) (w.heap.size + 1) (w.heap.size + 1 + 1) (.int .i64 s) (.slice none 0 0) (keepL all ms 0).length (cellsL (keepL all ms 0)) := by
    rw [← hsz]
    exact Bld.start wb _ _
  clear hwb hsz
  generalize w.heap.size + 1 = g4 at *
  generalize g4 + 1 = g5 at *
  generalize (wb.alloc (.cells #[.int .i64 0, .slice none 0 0] 41)).alloc (.cells #[.int .i64 s, .slice none 0 0] 41) = wl at *
  have Hexb := Lib.hid hexb
  clear hexb
  go_loopw [14] (fun i wr => ∃ k : Nat, k ≤ m ∧ i = .int .i64 k ∧ ∃ v, Bld wb wr g4 g5 (.int .i64 s) v (keepL all ms k).length (cellsL (keepL all ms k))) (fun i _ => m - (intOf i).toNat)
  case atStart => exact ⟨0, by omega, rfl, _, hst⟩
  case round =>
    clear hst
    obtain ⟨k, hk, rfl, v, hbld⟩ := hrel
    obtain ⟨Av, cv, rfl⟩ := hbld.own.form
    have hexw := Hexb.out.trans hbld.own.ext
    have hle := Hle.out k
    by_cases hlt : k < m
    · have hkp : k < ms.length := by rw [← Hm.out]; exact hlt
      obtain ⟨ad, rfl, q0, q1, q2, q3, q4, q5⟩ := Ha.out k hkp
      have q0 := q0 wr hexw
      have q1 := q1 wr hexw
      have q2 := q2 wr hexw
      have q3 := q3 wr hexw
      have q4 := q4 wr hexw
      have q5 := q5 wr hexw
      have hc := Hc.out k
      have hsk := Hsk.out k
      have htk := Htk.out k hkp
      have Hc' := Lib.hid hc
      have Hsk' := Lib.hid hsk
      have Htk' := Lib.hid htk
      clear hc hsk htk
      generalize ms[k] = x at *
      obtain ⟨kind, a, b, c3, n, m3⟩ := x
      simp only at q0 q1 q2 q3 q4 q5
      cases hmem : memB all (k : Int)
      · have hkeep := Htk'.out hmem
        have Hkeep := Lib.hid hkeep
        rw [hmem] at Hc'
        clear hkeep hmem Hsk' Htk'
        have hbx := hbld.alloc (.cells #[.int .u8 kind, vint a, vint b, vint c3, vint n, vint m3] 57)
        generalize keepL all ms k = l1 at *
        have c51 : ∀ w', Ext wr w' → w'.cell? ⟨g5, 1, none⟩ = some (.slice Av l1.length cv) := fun w' he => he.cell hbld.c51
        have hbv := hbx.alloc (.cells #[.int .u8 kind, vint a, vint b, vint c3, vint n, vint m3] 57)
        have hrow := row_alloc (wr.alloc (.cells #[.int .u8 kind, vint a, vint b, vint c3, vint n, vint m3] 57)) #[.int .u8 kind, vint a, vint b, vint c3, vint n, vint m3] 57
        have hs1 : (wr.alloc (.cells #[.int .u8 kind, vint a, vint b, vint c3, vint n, vint m3] 57)).heap.size = wr.heap.size + 1 := by simp only [World.alloc, Array.size_push]
        rw [hs1] at hrow
        clear hs1
        go_wp2_with (first
          | (go_at_call 93; refine (Hc'.out _ (hexw.trans (by simp))).mono ?_; rintro e w' ⟨rfl, rfl⟩)
          | (refine own_append_at (w1 := wb) mesh_elem rfl _ _ 39 rfl Try.underlying39 _ l1.length (cellsL l1) rfl hbv.own _ 1 1 _ rfl rfl hrow (by intro u hu; simp at hu; rcases hu with rfl | rfl | rfl | rfl | rfl | rfl <;> rfl) (by omega) (by unfold maxLen; omega) ?_; intro v' w' ho hg hb; obtain ⟨Av', cv', rfl⟩ := ho.form; have h2 := hbv.appended ho hg hb; have c51' := h2.c51; have f51 := h2.f5 1))
        have h3 := h2.stored
        go_roundw
        case rel =>
          refine ⟨k + 1, by omega, by go_num, .slice Av' (l1.length + 1) cv', ?_⟩
          rw [Hkeep.out, List.length_append, cellsL_snoc]
          exact h3
        case measure => simp [intOf]; omega
      · have hkeep := Hsk'.out hmem
        have Hkeep := Lib.hid hkeep
        rw [hmem] at Hc'
        clear hkeep hmem Hsk' Htk'
        have hbx := hbld.alloc (.cells #[.int .u8 kind, vint a, vint b, vint c3, vint n, vint m3] 57)
        go_wp2_with (go_at_call 93; refine (Hc'.out _ (hexw.trans (by simp))).mono ?_; rintro e w' ⟨rfl, rfl⟩)
        go_roundw
        case rel => exact ⟨k + 1, by omega, by go_num, _, by rw [Hkeep.out]; exact hbx⟩
        case measure => simp [intOf]; omega
    · obtain rfl : k = m := by omega
      have c50 := hbld.c50
      have c51 := hbld.c51
      obtain ⟨u0, c40⟩ := hbld.c40
      obtain ⟨u1, c41⟩ := hbld.c41
      have f40 := hbld.f4 0
      have f41 := hbld.f4 1
      generalize keepL all ms k = l1 at *
      go_wp2
      obtain ⟨e0, e1, hown⟩ := hbld.result (.int .i64 s)
      refine bodyPost_ret (by simp [results, Try.results70, go_sem, e0, e1]; try rfl) rfl ?_
      exact ⟨_, rfl, hown.since Hexb.out⟩
end Go.Proofs.Ytbclbcldplmppaa

/- A train without some meshes, by the reference. -/
namespace Go.Proofs.Ytbclbcldplmppaa
open Go.RowKit

theorem row_heap {w : World} {b : Nat} {cs : Array Value} {t : TypeId} (h : w.heap[b]? = some (.cells cs t)) : Row w (some ⟨b, 0, none⟩) cs.toList := fun k hk => by
  refine ⟨_, rfl, ?_⟩
  have hadd : (⟨b, 0, none⟩ : Addr).add k = ⟨b, k, none⟩ := by unfold Addr.add; split <;> simp_all
  rw [hadd]
  simp [World.cell?, h]

def memT (all : List Int) (s : Int) (j : Nat) : Bool := memB (all.take j) s
theorem memT_all (all : List Int) (s : Int) : memT all s all.length = memB all s := by simp [memT]
theorem memT_zero (all : List Int) (s : Int) : memT all s 0 = false := by simp [memT, memB]
theorem memT_succ {all : List Int} {s : Int} {j : Nat} (h : j < all.length) : memT all s (j + 1) = (memT all s j || (getI all j == s)) := by
  unfold memT memB
  rw [List.take_succ_eq_append_getElem h, getI_eq h]
  simp only [List.mem_append, List.mem_singleton]
  by_cases h1 : s ∈ all.take j
  · simp [h1]
  · by_cases h2 : all[j] = s
    · simp [h1, h2]
    · have : ¬ s = all[j] := fun e => h2 e.symm
      simp [h1, h2, this]

set_option maxRecDepth 100000 in
set_option maxHeartbeats 2000000 in
theorem without_any (A : Option Addr) (c : Nat) (s : Int) (ms : List Msh) (B : Option Addr) (d : Nat) (all : List Int) (w : World) (hA : MRow w A ms) (hB : Ints w B all) (hl : ms.length ≤ 1000) (hl2 : all.length ≤ 1000000) :
    Calls Try.prog 72 #[.agg #[.int .i64 s, .slice A ms.length c], .slice B all.length d] w (TrainRes w s (keepL all ms ms.length)) := by
  have ha := fun k (hk : k < ms.length) => hA.at_ hk
  have hb := fun (k : Nat) (hk : k < all.length) => hB.some_ (by omega)
  have hsk := fun (k : Nat) (h : memT all (k : Int) all.length = true) => keepL_skip (ms := ms) (k := k) (by rw [← memT_all]; exact h)
  have htk := fun (k : Nat) (hk : k < ms.length) (h : memT all (k : Int) all.length = false) => keepL_take (all := all) hk (by rw [← memT_all]; exact h)
  have hle := fun k => keepL_le all ms k
  have hms := fun (k : Nat) (j : Nat) (hj : j < all.length) => memT_succ (s := (k : Int)) hj
  have hmz := fun (k : Nat) => memT_zero all (k : Int)
  have Ha := Lib.hid ha
  have Hb := Lib.hid hb
  have Hsk := Lib.hid hsk
  have Htk := Lib.hid htk
  have Hle := Lib.hid hle
  have Hms := Lib.hid hms
  have Hmz := Lib.hid hmz
  clear ha hb hsk htk hle hA hB hms hmz
  obtain ⟨m, hm⟩ : ∃ m, m = ms.length := ⟨_, rfl⟩
  rw [← hm] at hl ⊢
  have Hm := Lib.hid hm
  clear hm
  generalize all.length = q at *
  go_enter Try.func72, Try.ntmps72
  go_wp2
  have hexb : Ext w (w.alloc (.cells #[.int .i64 s, .slice A m c] 41)) := by simp
  have hp1 : ∀ w', Ext (w.alloc (.cells #[.int .i64 s, .slice A m c] 41)) w' → w'.cell? ⟨w.heap.size, 1, none⟩ = some (.slice A m c) := fun w' he => he.cell (by simp)
  generalize hwb : w.alloc (.cells #[.int .i64 s, .slice A m c] 41) = wb at *
  have hsz : wb.heap.size = w.heap.size + 1 := by rw [← hwb]; simp only [World.alloc, Array.size_push]
  have hst : Bld wb ((wb.alloc (.cells #[.int .i64 0, .slice none 0 0] 41)).alloc (.cells #[.int .i64 s, .slice none 0 0] 41)) (w.heap.size + 1) (w.heap.size + 1 + 1) (.int .i64 s) (.slice none 0 0) (keepL all ms 0).length (cellsL (keepL all ms 0)) := by
    rw [← hsz]
    exact Bld.start wb _ _
  clear hwb hsz
  generalize w.heap.size + 1 = g4 at *
  generalize g4 + 1 = g5 at *
  generalize (wb.alloc (.cells #[.int .i64 0, .slice none 0 0] 41)).alloc (.cells #[.int .i64 s, .slice none 0 0] 41) = wl at *
  have Hexb := Lib.hid hexb
  have Hp1 := Lib.hid hp1
  clear hexb hp1
  go_loopw [6] (fun i wr => ∃ k : Nat, k ≤ m ∧ i = .int .i64 k ∧ ∃ v, Bld wb wr g4 g5 (.int .i64 s) v (keepL all ms k).length (cellsL (keepL all ms k))) (fun i _ => m - (intOf i).toNat)
  case atStart => exact ⟨0, by omega, rfl, _, hst⟩
  case round =>
    clear hst
    obtain ⟨wo, rfl⟩ : ∃ wo : World, wo = wr := ⟨_, rfl⟩
    obtain ⟨k, hk, rfl, v, hbld⟩ := hrel
    obtain ⟨Av, cv, rfl⟩ := hbld.own.form
    have hexw := Hexb.out.trans hbld.own.ext
    have hle := Hle.out k
    have hp1 : ∀ w', Ext wo w' → w'.cell? ⟨w.heap.size, 1, none⟩ = some (.slice A m c) := fun w' he => Hp1.out w' (hbld.own.ext.trans he)
    by_cases hlt : k < m
    · have hsk := Hsk.out k
      have htk := Htk.out k
      have hmz := Hmz.out k
      have hms := Hms.out k
      have Hsk' := Lib.hid hsk
      have Htk' := Lib.hid htk
      have Hms' := Lib.hid hms
      have Hmz' := Lib.hid hmz
      clear hsk htk hms hmz
      go_wp2
      go_loop [8, 7] (fun i b => ∃ j : Nat, j ≤ q ∧ i = .int .i64 j ∧ b = .bool (memT all k j)) (fun i _ => q - (intOf i).toNat)
      case atStart => exact ⟨0, by omega, rfl, by rw [Hmz'.out]⟩
      case round =>
        obtain ⟨j, hj, rfl, rfl⟩ := hrel
        by_cases hjq : j < q
        · obtain ⟨bd, rfl, hcell⟩ := Hb.out j hjq
          have hcj := hcell j hjq wo hexw
          have hsucc := Hms'.out j hjq
          have Hsucc := Lib.hid hsucc
          clear hsucc hcell
          generalize getI all j = y at *
          cases hT : memT all (k : Int) j
          all_goals
            go_wp2
            go_round
            case rel => exact ⟨j + 1, by omega, by go_num, by rw [Hsucc.out, hT]; simp⟩
            case measure => simp [intOf]; omega
        · obtain rfl : j = q := by omega
          clear hjq Hb Hsk Htk Hms Hms' Hmz Hmz'
          cases hT : memT all (k : Int) j
          · have hkp : k < ms.length := by rw [← Hm.out]; exact hlt
            have hkeep := Htk'.out hkp hT
            have Hkeep := Lib.hid hkeep
            clear hkeep Hsk' Htk' hT
            obtain ⟨ad, rfl, q0, q1, q2, q3, q4, q5⟩ := Ha.out k hkp
            have q0 : ∀ w', Ext wo w' → _ := fun w' he => q0 w' (hexw.trans he)
            have q1 : ∀ w', Ext wo w' → _ := fun w' he => q1 w' (hexw.trans he)
            have q2 : ∀ w', Ext wo w' → _ := fun w' he => q2 w' (hexw.trans he)
            have q3 : ∀ w', Ext wo w' → _ := fun w' he => q3 w' (hexw.trans he)
            have q4 : ∀ w', Ext wo w' → _ := fun w' he => q4 w' (hexw.trans he)
            have q5 : ∀ w', Ext wo w' → _ := fun w' he => q5 w' (hexw.trans he)
            clear Ha
            generalize ms[k] = x at *
            obtain ⟨kind, a, b, c3, n, m3⟩ := x
            simp only at q0 q1 q2 q3 q4 q5
            generalize keepL all ms k = l1 at *
            have c51 : ∀ w', Ext wo w' → w'.cell? ⟨g5, 1, none⟩ = some (.slice Av l1.length cv) := fun w' he => he.cell hbld.c51
            have hki : (k : Int) < (m : Int) := by omega
            go_wp2
            refine wp_region_calm 8 (fun _ _ _ _ => True) (fun _ _ _ _ _ _ h => h) (by kernel_rfl) (by kernel_rfl) ?_
            simp only [List.take_succ_cons, List.take_zero, List.drop_succ_cons, List.drop_zero]
            refine calm_quiet calm_mono_final 7 (by kernel_rfl) ?_
            simp only [List.take_succ_cons, List.take_zero, List.drop_succ_cons, List.drop_zero]
            repeat (go_big_quiet_step (fail))
            refine wpQuiet_nil ?_
            refine calm_alloc calm_mono_final (fun b => .slice (some ⟨b, 0, none⟩) 1 1) (.cells #[.int .u8 kind, vint a, vint b, vint c3, vint n, vint m3] 57) (fun b c h => by simpa using h) rfl (fun w => ?_) (fun b hb => ?_)
            · go_simp
            simp only [Act.put, List.setIfInBounds_toArray, List.set_cons_succ, List.set_cons_zero]
            refine calm_nil fun w3 he3 hF => ?_
            have hrow := row_heap ((hF 7).2 rfl)
            clear hF
            have hbv := hbld.later he3
            go_wp2_with (
              (refine own_append_at (w1 := wb) mesh_elem rfl _ _ 39 rfl Try.underlying39 _ l1.length (cellsL l1) rfl hbv.own _ 1 1 _ rfl rfl hrow (by intro u hu; simp at hu; rcases hu with rfl | rfl | rfl | rfl | rfl | rfl <;> rfl) (by omega) (by unfold maxLen; omega) ?_; intro v' w' ho hg hb; obtain ⟨Av', cv', rfl⟩ := ho.form; have h2 := hbv.appended ho hg hb; have c51' := h2.c51; have f51 := h2.f5 1))
            have h3 := h2.stored
            go_roundw
            case rel =>
              refine ⟨k + 1, by omega, by go_num, .slice Av' (l1.length + 1) cv', ?_⟩
              rw [Hkeep.out, List.length_append, cellsL_snoc]
              exact h3
            case measure => simp [intOf]; omega
          · have hkeep := Hsk'.out hT
            have Hkeep := Lib.hid hkeep
            clear hkeep Hsk' Htk' hT Ha
            go_wp2
            go_roundw
            case rel => exact ⟨k + 1, by omega, by go_num, _, by rw [Hkeep.out]; exact hbld⟩
            case measure => simp [intOf]; omega
    · obtain rfl : k = m := by omega
      have c50 := hbld.c50
      have c51 := hbld.c51
      obtain ⟨u0, c40⟩ := hbld.c40
      obtain ⟨u1, c41⟩ := hbld.c41
      have f40 := hbld.f4 0
      have f41 := hbld.f4 1
      generalize keepL all ms k = l1 at *
      go_wp2
      obtain ⟨e0, e1, hown⟩ := hbld.result (.int .i64 s)
      refine bodyPost_ret (by simp [results, Try.results72, go_sem, e0, e1]; try rfl) rfl ?_
      exact ⟨_, rfl, hown.since Hexb.out⟩
end Go.Proofs.Ytbclbcldplmppaa
