/- solve: the walk. -/
import Derived.Test.YtebkhdhhajjhfaaGreatT09
import Derived.Maps.OwnSet
import Derived.Test.YtebkhdhhajjhfaaGreatT05
import Derived.WalkMore
import Derived.BigRegion
namespace Go.Proofs.YtebkhdhhajjhfaaGreat.Gr
open Go.RowKit

/-- What solve hands back. -/
def SolveRes (w : World) (n m : Nat) (A0 : Nat → Nat → Int) (cols : List Nat) (ordv : Value) (e : Ending) (w' : World) : Prop :=
  ∃ v mb g h σ pv M d D, e = .returned (.agg #[v, .map (some mb), ordv, .int .i64 d]) ∧ SolSt A0 n m cols σ pv M d ∧
    MF w w' v n m m g h (fun k => lineOf M n (σ k)) (fun k => byOf M n m (σ k)) ∧ MapI w' mb pv.length D ∧ MapIs D (colsP pv) ∧ w.heap.size ≤ mb

set_option maxRecDepth 100000 in
set_option maxHeartbeats 8000000 in
theorem solve_any (Ad : Option Addr) (c n m : Nat) (A0 : Nat → Nat → Int) (Or : Option Addr) (oc : Nat) (cols : List Nat) (w : World) (hA : RIn w Ad n m (fun k => lineOf A0 n k) (fun k => byOf A0 n m k)) (hO : Ints w Or (cols.map fun (c : Nat) => (c : Int)))
    (hc : ∀ c ∈ cols, c < n) (hcl : cols.length ≤ 1000) (hn : n ≤ 8) (hm : m ≤ 16) (h97 : ∀ x, x < m → ∀ C : List Nat, C.Nodup → S C (fun j => ((A0 x j).natAbs : Int)) ≤ 97) :
    Calls Tryz.prog 47 #[.slice Ad m c, .slice Or cols.length oc] w (SolveRes w n m A0 cols (.slice Or cols.length oc)) := by
  have ho1 : ∀ t (ht : t < cols.length), ∃ od, Or = some od ∧ ∀ w', Ext w w' → w'.cell? (od.add t) = some (.int .i64 (cols[t] : Int)) := fun t ht => by
    obtain ⟨od, h1, h2⟩ := hO.some_ (by simp; omega)
    refine ⟨od, h1, fun w' he => ?_⟩
    have := h2 t (by simpa using ht) w' he
    rw [this, getI_eq (by simpa using ht)]
    simp
  have HO := Lib.hid ho1
  have Hc := Lib.hid hc
  have H97 := Lib.hid h97
  clear hO ho1 hc h97
  have hstart := SolSt.start A0 n m
  have Hstart := Lib.hid hstart
  clear hstart
  obtain ⟨ol, hol⟩ : ∃ ol, ol = cols.length := ⟨_, rfl⟩
  rw [← hol]
  rw [← hol] at hcl
  have Hol := Lib.hid hol
  clear hol
  have HA := Lib.hid hA
  clear hA
  have hmm := @run_makeMap Tryz.prog
  go_enter Tryz.func47, Tryz.ntmps47
  go_wp2
  go_step3
  go_wp2
  clear hmm
  have hfr : Fr (((w.alloc (.cells #[.slice none 0 0, .map none, .slice none 0 0, .int .i64 0] 122)).alloc (.map #[] 0)).alloc (.cells #[.slice none 0 0, .map (some (w.heap.size + 1)), .slice Or ol oc, .int .i64 1] 122)) w.heap.size (w.heap.size + 1) (w.heap.size + 1 + 1) (.slice none 0 0) (.slice Or ol oc) 1 0 (.map []) := by
    refine ⟨?_, ?_, ?_, by omega, by omega⟩
    · exact ((Bx.of_heap (t := 122) (heap_alloc_new _ _)).later ((Ext.refl _).alloc _)).later ((Ext.refl _).alloc _)
    · have hs : ((w.alloc (.cells #[.slice none 0 0, .map none, .slice none 0 0, .int .i64 0] 122)).alloc (.map #[] 0)).heap.size = w.heap.size + 1 + 1 := by simp only [World.alloc, Array.size_push]
      have := Bx.of_heap (heap_alloc_new ((w.alloc (.cells #[.slice none 0 0, .map none, .slice none 0 0, .int .i64 0] 122)).alloc (.map #[] 0)) (.cells #[.slice none 0 0, .map (some (w.heap.size + 1)), .slice Or ol oc, .int .i64 1] 122))
      rw [hs] at this
      exact this
    · have hs : (w.alloc (.cells #[.slice none 0 0, .map none, .slice none 0 0, .int .i64 0] 122)).heap.size = w.heap.size + 1 := by simp only [World.alloc, Array.size_push]
      have := (World.ownsMap_made (H := Unit) (w.alloc (.cells #[.slice none 0 0, .map none, .slice none 0 0, .int .i64 0] 122)) Tryz.prog 3 (plainElem Tryz.prog 3)).alloc (.cells #[.slice none 0 0, .map (some (w.heap.size + 1)), .slice Or ol oc, .int .i64 1] 122)
      rw [hs] at this
      exact this
  have hexi : Ext w (((w.alloc (.cells #[.slice none 0 0, .map none, .slice none 0 0, .int .i64 0] 122)).alloc (.map #[] 0)).alloc (.cells #[.slice none 0 0, .map (some (w.heap.size + 1)), .slice Or ol oc, .int .i64 1] 122)) := (((Ext.refl _).alloc _).alloc _).alloc _
  have h4w : w.heap.size ≤ w.heap.size := Nat.le_refl _
  generalize (((w.alloc (.cells #[.slice none 0 0, .map none, .slice none 0 0, .int .i64 0] 122)).alloc (.map #[] 0)).alloc (.cells #[.slice none 0 0, .map (some (w.heap.size + 1)), .slice Or ol oc, .int .i64 1] 122)) = wi at *
  generalize hg5 : w.heap.size + 1 + 1 = g5 at *
  generalize hmb : w.heap.size + 1 = mb at *
  generalize hg4 : w.heap.size = g4 at *
  have H45 := Lib.hid (show g4 + 1 = mb ∧ mb + 1 = g5 ∧ w.heap.size = g4 from ⟨hmb, hg5, hg4⟩)
  clear hg5 hmb hg4 h4w
  go_loopw [23] (fun i wr => ∃ k : Nat, k ≤ m ∧ i = .int .i64 k ∧ ∃ v g h, MF w wr v n m k g h (fun k => lineOf A0 n k) (fun k => byOf A0 n m k) ∧ Fr wr g4 mb g5 v (.slice Or ol oc) 1 0 (.map []) ∧ Sep g5 v k g h) (fun i _ => m - (intOf i).toNat)
  case atStart => exact ⟨0, by omega, rfl, _, fun _ => 0, fun _ => 0, MF.start hexi _ _ _ _ _ _, hfr, ⟨fun k hk => (by cases hk), fun k hk => by omega, fun k hk => by omega⟩⟩
  case round =>
    clear hfr hexi
    obtain ⟨wo, rfl⟩ : ∃ wo : World, wo = wr := ⟨_, rfl⟩
    obtain ⟨k, hk, rfl, v, g, h, hmf, hfr, hsep⟩ := hrel
    by_cases hlt : k < m
    · obtain ⟨ad, A1, A2, rfl, q0, q1, i1, i2, l1, l2⟩ := HA.out k hlt
      obtain ⟨Av, cv, rfl⟩ := hmf.own.form
      have q0 := q0 wo hmf.ext
      have q1 := q1 wo hmf.ext
      have i1 : ∀ w', Ext wo w' → Ints w' A1 (lineOf A0 n k) := fun w' he => i1 w' (hmf.ext.trans he)
      have i2 : ∀ w', Ext wo w' → Ints w' A2 (byOf A0 n m k) := fun w' he => i2 w' (hmf.ext.trans he)
      have t1 := fun (w' : World) (he : Ext wo w') => twin_any A1 n (lineOf A0 n k) w' (i1 w' he) (by rw [lineOf_length]; omega)
      have t2 := fun (w' : World) (he : Ext wo w') => twin_any A2 m (byOf A0 n m k) w' (i2 w' he) (by rw [byOf_length]; omega)
      rw [l1] at t1
      rw [l2] at t2
      have T1 := Lib.hid t1
      have T2 := Lib.hid t2
      have L1 := Lib.hid l1
      have L2 := Lib.hid l2
      clear t1 t2 i1 i2 l1 l2
      have c50 : ∀ w', Ext wo w' → w'.cell? ⟨g5, 0, none⟩ = some (.slice Av k cv) := fun w' he => he.cell (hfr.b5.cell 0 (by simp))
      have hx0 : ∀ w', Ext (wo.alloc (.cells #[.slice A1 n n, .slice A2 m m] 130)) w' → w'.cell? ⟨wo.heap.size, 0, none⟩ = some (.slice A1 n n) := fun w' he => he.cell (by simp)
      have hx1 : ∀ w', Ext (wo.alloc (.cells #[.slice A1 n n, .slice A2 m m] 130)) w' → w'.cell? ⟨wo.heap.size, 1, none⟩ = some (.slice A2 m m) := fun w' he => he.cell (by simp)
      go_wp2
      have hx00 : Ext wo (wo.alloc (.cells #[.slice A1 n n, .slice A2 m m] 130)) := (Ext.refl _).alloc _
      generalize wo.alloc (.cells #[.slice A1 n n, .slice A2 m m] 130) = w0 at *
      have c50 : ∀ w', Ext w0 w' → _ := fun w' he => c50 w' (hx00.trans he)
      refine Cf.wp_region_calm (p := Cf.extPre) (fr := fun j => j == 4 || j == 7) 10 (fun j _ v w => ∃ xs, xs = (bif j == 4 then lineOf A0 n k else byOf A0 n m k) ∧ ∃ g, v = sl g xs.length ∧ NewInts w0 w g xs) (fun _ _ _ _ _ he ⟨xs, hxs, g, hg, hn⟩ => ⟨xs, hxs, g, hg, hn.later he⟩) (by kernel_rfl) (by kernel_rfl) ?_
      simp only [List.take_succ_cons, List.take_zero, List.drop_succ_cons, List.drop_zero]
      refine Cf.calm_quiet Cf.calm_mono_final w0 (fun _ h => h) 4 (by kernel_rfl) ?_
      simp only [List.take_succ_cons, List.take_zero, List.drop_succ_cons, List.drop_zero]
      repeat (go_big_quiet_step (fail))
      refine wpQuiet_nil ?_
      refine Cf.calm_call Cf.calm_mono_final 83 #[.slice A1 n n] rfl (fun w => ?_) (fun w he _ => ?_) ?_
      · go_simp
      · refine (T1.out w (hx00.trans he)).mono fun e w'' h => ?_
        obtain ⟨g, rfl, hn⟩ := h
        exact ⟨_, rfl, hn.ext, ⟨_, rfl, g, rfl, hn.since he⟩, fun _ => hn.new⟩
      rintro v4 w' _ ⟨xs, hxs, g0, rfl, _⟩ _
      have hxs' : xs = lineOf A0 n k := hxs
      subst hxs'
      clear hxs
      simp only [Act.put, List.setIfInBounds_toArray, List.set_cons_succ, List.set_cons_zero]
      refine Cf.calm_quiet Cf.calm_mono_final w0 (fun _ h => h) 2 (by kernel_rfl) ?_
      simp only [List.take_succ_cons, List.take_zero, List.drop_succ_cons, List.drop_zero]
      repeat (go_big_quiet_step (fail))
      refine wpQuiet_nil ?_
      refine Cf.calm_call Cf.calm_mono_final 83 #[.slice A2 m m] rfl (fun w => ?_) (fun w he _ => ?_) ?_
      · go_simp
      · refine (T2.out w (hx00.trans he)).mono fun e w'' h => ?_
        obtain ⟨g, rfl, hn⟩ := h
        exact ⟨_, rfl, hn.ext, ⟨_, rfl, g, rfl, hn.since he⟩, fun _ => hn.new⟩
      rintro v7 w'' _ ⟨xs, hxs, h0, rfl, _⟩ hfar
      have hxs' : xs = byOf A0 n m k := hxs
      subst hxs'
      clear hxs
      have hgh : g0 ≠ h0 := by
        have := hfar rfl (sl g0 (lineOf A0 n k).length) (.inr ⟨rfl, rfl⟩)
        simpa [sl, Value.ownBlock] using this
      clear hfar
      simp only [Act.put, List.setIfInBounds_toArray, List.set_cons_succ, List.set_cons_zero]
      have hl1 : (lineOf A0 n k).length = n := L1.out
      have hl2 : (byOf A0 n m k).length = m := L2.out
      refine Cf.calm_value Cf.calm_mono_final (fun v _ => v = .agg #[sl g0 (lineOf A0 n k).length, sl h0 (byOf A0 n m k).length]) (fun _ _ _ _ h => h) rfl (fun w he _ => ⟨_, w, by go_simp, Ext.refl w, rfl, fun hf => by cases hf⟩) ?_
      rintro v8 _ _ rfl _
      simp only [Act.put, List.setIfInBounds_toArray, List.set_cons_succ, List.set_cons_zero]
      refine Cf.calm_value Cf.calm_mono_final (fun v w => ∃ b, v = sl b 1 ∧ w.heap[b]? = some (.cells #[sl g0 (lineOf A0 n k).length, sl h0 (byOf A0 n m k).length] 130)) (fun _ _ _ he ⟨b, e, hh⟩ => ⟨b, e, Ext.heap he hh⟩) rfl (fun w he _ => ⟨sl w.heap.size 1, w.alloc (.cells #[sl g0 (lineOf A0 n k).length, sl h0 (byOf A0 n m k).length] 130), by go_simp, (Ext.refl w).alloc _, ⟨_, rfl, heap_alloc_new _ _⟩, fun hf => by cases hf⟩) ?_
      rintro v9 _ _ ⟨bs, rfl, _⟩ _
      simp only [Act.put, List.setIfInBounds_toArray, List.set_cons_succ, List.set_cons_zero]
      refine Cf.calm_nil fun w3 he3 hF => ?_
      obtain ⟨xs, hxs, g', eg, hg⟩ := (hF.1 4).1.1.1.2 rfl
      have hxs' : xs = lineOf A0 n k := hxs
      subst hxs'
      clear hxs
      obtain ⟨xs, hxs, h', eh, hh⟩ := (hF.1 7).1.1.2 rfl
      have hxs' : xs = byOf A0 n m k := hxs
      subst hxs'
      clear hxs
      obtain ⟨b', eb, hbs⟩ := (hF.1 9).2 rfl
      simp only [sl, Value.slice.injEq, Option.some.injEq, Addr.mk.injEq, and_true] at eg eh eb
      subst eg eh eb
      clear hF
      rw [hl1, hl2] at *
      have hx03 : Ext wo w3 := hx00.trans he3
      have hown3 := hmf.own.later hx03
      have hrow := row_heap hbs
      have hfr3 := hfr.later hx03
      go_wp2_with (
        (refine own_append_at (w1 := w) row_elem rfl _ _ 119 rfl Tryz.underlying119 _ k (rowCells n m k g h) rfl hown3 _ 1 1 _ rfl rfl hrow (by intro u hu; simp at hu; rcases hu with rfl | rfl <;> rfl) (by omega) (by unfold maxLen; omega) ?_; intro v' w4 ho hgr hob; obtain ⟨Av', cv', rfl⟩ := ho.form; have hfr4 := hfr3.grown hgr (fun k' e => hsep.v k' e); have c54 := hfr4.b5.cell 0 (by simp); have f54 := hfr4.b5.free 0))
      have hlt5 : g5 < wo.heap.size := hfr.b5.lt
      have hmf4 := hmf.append hx03 (hg.since hx00) (hh.since hx00) hgh L1.out L2.out ho hgr rfl rfl
      have hsep4 : Sep g5 (.slice Av' (k + 1) cv') (k + 1) (fun i => if i = k then g0 else g i) (fun i => if i = k then h0 else h i) := by
        have b1 := hx00.le
        have b2 := hg.2.1
        have b3 := hh.2.1
        have b4 := hx03.le
        refine ⟨fun i hi => ?_, fun i hi => ?_, fun i hi => ?_⟩
        · rcases hob with e | e
          · exact hsep.v i (e ▸ hi)
          · rw [e] at hi; injection hi with hi; omega
        · by_cases e : i = k
          · rw [if_pos e]; omega
          · rw [if_neg e]; exact hsep.g i (by omega)
        · by_cases e : i = k
          · rw [if_pos e]; omega
          · rw [if_neg e]; exact hsep.h i (by omega)
      have hmf5 := hmf4.other (p := ⟨g5, 0, none⟩) (by omega) (by omega) (by have := H45.out; simp only; omega) (fun e => absurd (hsep4.v g5 e) (Nat.lt_irrefl _)) (fun i hi => by have := hsep4.g i hi; simp only; omega) (fun i hi => by have := hsep4.h i hi; simp only; omega) (.slice Av' (k + 1) cv')
      have hfr5 := hfr4.setRows (.slice Av' (k + 1) cv')
      go_roundw
      case rel => exact ⟨k + 1, by omega, by go_num, _, _, _, hmf5, hfr5, hsep4⟩
      case measure => simp [intOf]; omega
    · obtain rfl : m = k := by omega
      clear HA
      obtain ⟨Av, cv, rfl⟩ := hmf.own.form
      go_wp2
      go_step3
      go_wp2
      have hst := Hstart.out
      clear hk hlt
      go_loopw [42] (fun i wr => ∃ t : Nat, t ≤ ol ∧ i = .int .i64 t ∧ ∃ v g h σ pv M d D, SolSt A0 n m (cols.take t) σ pv M d ∧
        MF w wr v n m m g h (fun k => lineOf M n (σ k)) (fun k => byOf M n m (σ k)) ∧ Fr wr g4 mb g5 v (.slice Or ol oc) d pv.length D ∧ Sep g5 v m g h ∧ MapIs D (colsP pv)) (fun i _ => ol - (intOf i).toNat)
      case atStart => exact ⟨0, by omega, rfl, _, _, _, _, _, _, _, _, by rw [List.take_zero]; exact hst, hmf, hfr, hsep, MapIs.start⟩
      case round =>
        clear hst hmf hfr hsep
        clear wo Av cv g h
        obtain ⟨wo, rfl⟩ : ∃ wo : World, wo = wr := ⟨_, rfl⟩
        obtain ⟨t, ht, rfl, v, g, h, σ, pv, M, d, D, hsol, hmf, hfr, hsep, hmap⟩ := hrel
        obtain ⟨Av, cv, rfl⟩ := hmf.own.form
        by_cases htl : t < ol
        · have htc : t < cols.length := by rw [← Hol.out]; exact htl
          obtain ⟨od, rfl, hod⟩ := HO.out t htc
          have hod := hod wo hmf.ext
          have hcn := Hc.out cols[t] (List.getElem_mem htc)
          have htake : cols.take (t + 1) = cols.take t ++ [cols[t]] := List.take_succ_eq_append_getElem htc
          have Htake := Lib.hid htake
          clear htake
          generalize cols[t] = cc at *
          have hsz : Maps.size D = pv.length := by rw [hmap.size]; simp [colsP]
          have c51 : wo.cell? ⟨g5, 1, none⟩ = some (.map (some mb)) := hfr.b5.cell 1 (by simp)
          have c50 : wo.cell? ⟨g5, 0, none⟩ = some (.slice Av m cv) := hfr.b5.cell 0 (by simp)
          have hle := hsol.le
          have Hsol := Lib.hid hsol
          have Hmap := Lib.hid hmap
          clear hsol hmap
          go_wp2_with (refine wpList_len_own _ rfl _ 120 rfl 3 3 Tryz.underlying120 _ mb pv.length D rfl hfr.mp ?_; rw [hsz])
          go_loop [11] (fun i => ∃ k : Nat, pv.length ≤ k ∧ k ≤ m ∧ i = .int .i64 k ∧ ∀ j, pv.length ≤ j → j < k → M (σ j) cc = 0) (fun i => m - (intOf i).toNat)
          case atStart => exact ⟨pv.length, by omega, hle, rfl, fun j h1 h2 => by omega⟩
          case round =>
            obtain ⟨k, hk1, hk2, rfl, hz⟩ := hrel
            have Hz := Lib.hid hz
            clear hz
            by_cases hkm : k < m
            · obtain ⟨gv, cv', hv, hgv⟩ := hmf.own.at_ (by omega)
              simp only [Value.slice.injEq, true_and] at hv
              obtain ⟨rfl, rfl⟩ := hv
              have r0 : wo.cell? ⟨gv, k * 2, none⟩ = some (sl (g k) n) := by
                rw [hmf.own.cell (j := k * 2) (by rw [rowCells_len]; omega)]
                exact (rowCells_get n m m g h hkm).1
              have r1 : wo.cell? ⟨gv, k * 2 + 1, none⟩ = some (sl (h k) m) := by
                rw [hmf.own.cell (j := k * 2 + 1) (by rw [rowCells_len]; omega)]
                exact (rowCells_get n m m g h hkm).2
              have hat := at_any (some ⟨g k, 0, none⟩) n cc (lineOf M n (σ k)) wo (hmf.gl k hkm).1.ints (by rw [lineOf_length]; exact hcn)
              rw [lineOf_length, getI_lineOf hcn] at hat
              have Hat := Lib.hid hat
              clear hat
              have hki : (k : Int) < (m : Int) := by omega
              by_cases hp : M (σ k) cc = 0
              · rw [hp] at Hat
                have Hp := Lib.hid hp
                clear hp
                go_wp2_with (go_at_call 53; refine Hat.out.mono ?_; rintro e w' ⟨rfl, rfl⟩)
                go_round
                case rel => exact ⟨k + 1, by omega, by omega, by go_num, fun j h1 h2 => by
                  by_cases e : j = k
                  · subst e; exact Hp.out
                  · exact Hz.out j h1 (by omega)⟩
                case measure => simp [intOf]; omega
              · have hpb : (M (σ k) cc == 0) = false := by simpa using hp
                go_wp2_with (go_at_call 53; refine Hat.out.mono ?_; rintro e w' ⟨rfl, rfl⟩)
                have hpm : pv.length < m := by omega
                obtain ⟨pn, hpn⟩ : ∃ pn, pn = pv.length := ⟨_, rfl⟩
                rw [← hpn] at hpm hk1 hfr ⊢
                have Hpn := Lib.hid hpn
                have p0 : wo.cell? ⟨gv, pn * 2, none⟩ = some (sl (g pn) n) := by
                  rw [hmf.own.cell (j := pn * 2) (by rw [rowCells_len]; omega)]
                  exact (rowCells_get n m m g h hpm).1
                have p1 : wo.cell? ⟨gv, pn * 2 + 1, none⟩ = some (sl (h pn) m) := by
                  rw [hmf.own.cell (j := pn * 2 + 1) (by rw [rowCells_len]; omega)]
                  exact (rowCells_get n m m g h hpm).2
                have hfz : ∀ j, wo.frozen? ⟨gv, j, none⟩ = false := fun j => hmf.own.free j
                have hg5v : g5 ≠ gv := fun e => by have := hsep.v gv rfl; omega
                have hpni : (pn : Int) < (m : Int) := by omega
                clear hpn hsz hle
                have s1 : (wo.setCell ⟨gv, pn * 2, none⟩ (sl (g k) n)).cell? ⟨gv, pn * 2 + 1, none⟩ = some (sl (h pn) m) := by
                  rw [World.cell?_setCell_other _ _ _ _ (by simp)]; exact p1
                have some_of : ∀ (W : World) (x y : Nat) (u : Value), (∃ z, W.cell? ⟨gv, y, none⟩ = some z) → ∃ z, (W.setCell ⟨gv, x, none⟩ u).cell? ⟨gv, y, none⟩ = some z := fun W x y u ⟨z, hz⟩ => by
                  by_cases e : x = y
                  · subst e; exact ⟨u, World.cell?_setCell_same _ _ _ hz⟩
                  · exact ⟨z, by rw [World.cell?_setCell_other _ _ _ _ (by simp)]; exact hz⟩
                obtain ⟨z2, s2⟩ := some_of _ (pn * 2 + 1) (k * 2) (sl (h k) m) (some_of wo (pn * 2) (k * 2) (sl (g k) n) ⟨_, r0⟩)
                obtain ⟨z3, s3⟩ := some_of _ (k * 2) (k * 2 + 1) (sl (g pn) n) (some_of _ (pn * 2 + 1) (k * 2 + 1) (sl (h k) m) (some_of wo (pn * 2) (k * 2 + 1) (sl (g k) n) ⟨_, r1⟩))
                clear some_of
                go_region
                have hmfS := (hmf.swap (σ := σ) (F := fun x => lineOf M n x) (G := fun x => byOf M n m x) hpm hkm (by omega) (by omega)).later (Ext.refl _).drew
                have hfrS := ((((hfr.other (p := ⟨gv, pn * 2, none⟩) (hsep.v gv rfl) (sl (g k) n)).other (p := ⟨gv, pn * 2 + 1, none⟩) (hsep.v gv rfl) (sl (h k) m)).other (p := ⟨gv, k * 2, none⟩) (hsep.v gv rfl) (sl (g pn) n)).other (p := ⟨gv, k * 2 + 1, none⟩) (hsep.v gv rfl) (sl (h pn) m)).later (Ext.refl _).drew
                have hsepS : Sep g5 (.slice (some ⟨gv, 0, none⟩) m cv) m (swapF g pn k) (swapF h pn k) := ⟨hsep.v, fun i hi => by
                  obtain ⟨i', hi', e⟩ := swapF_lt (σ := g) hpm hkm hi
                  rw [e]; exact hsep.g i' hi', fun i hi => by
                  obtain ⟨i', hi', e⟩ := swapF_lt (σ := h) hpm hkm hi
                  rw [e]; exact hsep.h i' hi'⟩
                generalize ((((wo.setCell ⟨gv, pn * 2, none⟩ (sl (g k) n)).setCell ⟨gv, pn * 2 + 1, none⟩ (sl (h k) m)).setCell ⟨gv, k * 2, none⟩ (sl (g pn) n)).setCell ⟨gv, k * 2 + 1, none⟩ (sl (h pn) m)).drew = ws at hmfS hfrS ⊢
                clear s1 s2 s3 p0 p1 r0 r1 hfz c50 c51 hmf hfr hsep z2 z3 hod hpb hki
                generalize swapF g pn k = g' at hmfS hsepS
                generalize swapF h pn k = h' at hmfS hsepS
                obtain ⟨σ', hσ'⟩ : ∃ σ', σ' = swapF σ pn k := ⟨_, rfl⟩
                rw [← hσ'] at hmfS
                have c50 : ws.cell? ⟨g5, 0, none⟩ = some (.slice (some ⟨gv, 0, none⟩) m cv) := hfrS.b5.cell 0 (by simp)
                go_wp2
                clear c50
                have hsol := Hsol.out
                have hpl : pv.length ≤ k := by rw [← Hpn.out]; exact hk1
                obtain ⟨N, hN⟩ : ∃ N, N = newM M d (σ k) cc := ⟨_, rfl⟩
                obtain ⟨i0, hi0⟩ : ∃ i0, i0 = σ k := ⟨_, rfl⟩
                have hnew := hsol.pivot (i := k) hpl hkm hcn hp
                have hl8 : (pv ++ [(σ k, cc)]).length ≤ 8 := Nat.le_trans hnew.le_n hn
                have bM := hsol.bar.small H97.out hsol.cnd (Nat.le_trans hsol.le_n hn)
                have bN := hnew.bar.small H97.out hnew.cnd hl8
                have hst : ∀ x, x < m → x ≠ i0 → ∀ j (w' : World), Calls Tryz.prog 84 #[.int .i64 (M i0 cc), .int .i64 (M x j), .int .i64 (M x cc), .int .i64 (M i0 j), .int .i64 d] w' fun e w'' => e = .returned (.int .i64 (N x j)) ∧ Ext w' w'' := fun x hx hne j w' => by
                  rw [hN, hi0]
                  exact step_any _ _ _ _ _ _ w' (bM.2 _ (hsol.lt k hkm) _) (bM.2 _ hx _) (bM.2 _ hx _) (bM.2 _ (hsol.lt k hkm) _) hsol.bar.ne bM.1 (hsol.newM_mul hpl hkm hp hx (by rw [← hi0]; exact hne) j) (bN.2 _ hx _)
                have hN0 : ∀ j, N i0 j = M i0 j := fun j => by rw [hN, hi0]; unfold newM; rw [if_pos rfl]
                have hlt' : ∀ i, i < m → σ' i < m := fun i hi => by
                  obtain ⟨i', hi', e⟩ := swapF_lt (σ := σ) hpm hkm hi
                  rw [hσ', e]; exact hsol.lt i' hi'
                have hpn' : σ' pn = i0 := by rw [hσ', hi0]; unfold swapF; rw [if_pos rfl]
                have hne' : ∀ i, i < m → i ≠ pn → σ' i ≠ i0 := fun i hi hne e => by
                  rw [hi0, hσ'] at e
                  exact hne (swapF_inj (σ := σ) hpm hkm hsol.inj i pn hi hpm (by rw [e]; unfold swapF; rw [if_pos rfl]))
                have hnew' : SolSt A0 n m (cols.take t ++ [cc]) σ' (pv ++ [(i0, cc)]) N (M i0 cc) := by
                  rw [hσ', hN, hi0, Hpn.out]; exact hnew
                rw [← hi0]
                have Hst := Lib.hid hst
                have HN0 := Lib.hid hN0
                have Hnew := Lib.hid hnew'
                have Hlt' := Lib.hid hlt'
                have Hne' := Lib.hid hne'
                have Hpn' := Lib.hid hpn'
                have HP := Lib.hid hp
                clear hst hN0 hnew hnew' hlt' hne' hpn' bM bN hsol hpl hl8 hN hσ' hi0 hp
                refine loopR (b := w) (n := n) (m := m) (pn := pn) (cc := cc) (g4 := g4) (mb := mb) (gv := gv) (cv := cv) (i0 := i0) (g := g') (h := h') (σ := σ') (N := N) (M := M) (p := M i0 cc) (d := d) (ord := .slice (some od) ol oc) (cnt := pn) (D := D)
                  hn hm hpm hcn Hst.out HN0.out Hlt'.out Hpn'.out Hne'.out hsepS (hmfS.congr (fun i _ => by rw [if_neg (by omega)]) (fun i _ => by rw [if_neg (by omega)])) hfrS ?_
                intro x13 x14 x15 x16 x17 x88 x89 x90 x91 x92 x93 x94 x95 x96 x97 x98 x99 x100 x101 x102 x103 x104 x105 x106 x107 x108 x109 x110 x111 x112 x113 x114 x115 x116 x117 x118 x119 x120 x121 x122 x123 x124 x125 x126 x127 x128 x129 x130 x131 x132 x133 x134 x135 x136 x137 x138 x139 x140 x141 x142 x143 x144 x145 x146 x147 x148 x149 x150 x151 x152 x153 x154 x155 x156 x157 x158 x159 x160 wz hmfz hfrz
                have hmfz := hmfz.congr (L' := fun i => lineOf N n (σ' i)) (B' := fun i => byOf N n m (σ' i)) (fun i hi => by rw [if_pos hi]) (fun i hi => by rw [if_pos hi])
                have z51 : wz.cell? ⟨g5, 1, none⟩ = some (.map (some mb)) := hfrz.b5.cell 1 (by simp)
                have k1 := Maps.keyOf_int_mk (P := Tryz.prog) Tryz.underlying3 (wf_nat cc (by omega))
                have k2 := plainElem_int (H := Unit) (P := Tryz.prog) Tryz.underlying3 (wf_nat pn (by omega))
                go_wp2_with (refine wpList_mapUpdate_own _ rfl _ _ _ 120 rfl 3 3 (Maps.int_keyed Tryz.underlying3) Tryz.underlying120 (plainElem Tryz.prog 3) mb pn D rfl hfrz.mp (by unfold maxLen; omega) _ _ _ rfl rfl k1 _ _ k2 ?_; intro wy hown hgy; have hby := hfrz.b5.grown hgy (fun e => by have := Option.some.inj e; have := hfrz.e5; omega); have y3 := hby.cell 3 (by simp); have yf := hby.free 3)
                have hfr' := hfrz.pivot hown hgy (M i0 cc)
                have hmf' := (hmfz.grown hgy (by have := H45.out; omega) (fun e => by have := hsepS.v mb e; have := hfrz.e5; omega) (fun i hi => by have := hsepS.g i hi; have := hfrz.e5; omega) (fun i hi => by have := hsepS.h i hi; have := hfrz.e5; omega)).other (p := ⟨g5, 3, none⟩) (by omega) (by omega) (by have := H45.out; simp only; omega) (fun e => absurd (hsepS.v g5 e) (Nat.lt_irrefl _)) (fun i hi => by have := hsepS.g i hi; simp only; omega) (fun i hi => by have := hsepS.h i hi; simp only; omega) (.int .i64 (M i0 cc))
                go_roundw
                case rel =>
                  have hnw := Hnew.out
                  have hcp : colsP (pv ++ [(i0, cc)]) = colsP pv ++ [cc] := by simp [colsP]
                  have hcn2 := hnw.cnd
                  rw [hcp, List.nodup_append] at hcn2
                  have hm2 := Hmap.out.put (c := cc) (fun hm => hcn2.2.2 cc hm cc (by simp) rfl)
                  have hl2 : (colsP pv).length = pn := by rw [Hpn.out]; simp [colsP]
                  rw [hl2] at hm2
                  refine ⟨t + 1, by omega, by go_num, _, g', h', σ', pv ++ [(i0, cc)], N, M i0 cc, _, by rw [Htake.out]; exact hnw, hmf', ?_, hsepS, by rw [hcp]; exact hm2⟩
                  have hl3 : (pv ++ [(i0, cc)]).length = pn + 1 := by rw [Hpn.out]; simp
                  rw [hl3]; exact hfr'
                case measure => simp [intOf]; omega
            · go_wp2
              go_roundw
              case rel =>
                refine ⟨t + 1, by omega, by go_num, _, g, h, σ, pv, M, d, D, by rw [Htake.out]; exact Hsol.out.skip (fun j h1 h2 => Hz.out j h1 (by omega)), hmf, hfr, hsep, Hmap.out⟩
              case measure => simp [intOf]; omega
        · obtain rfl : t = ol := by omega
          have c50 : wo.cell? ⟨g5, 0, none⟩ = some (.slice Av m cv) := hfr.b5.cell 0 (by simp)
          have c51 : wo.cell? ⟨g5, 1, none⟩ = some (.map (some mb)) := hfr.b5.cell 1 (by simp)
          have c52 : wo.cell? ⟨g5, 2, none⟩ = some (.slice Or t oc) := hfr.b5.cell 2 (by simp)
          have c53 : wo.cell? ⟨g5, 3, none⟩ = some (.int .i64 d) := hfr.b5.cell 3 (by simp)
          have c40 : wo.cell? ⟨g4, 0, none⟩ = some (.slice none 0 0) := hfr.b4.cell 0 (by simp)
          have c41 : wo.cell? ⟨g4, 1, none⟩ = some (.map none) := hfr.b4.cell 1 (by simp)
          have c42 : wo.cell? ⟨g4, 2, none⟩ = some (.slice none 0 0) := hfr.b4.cell 2 (by simp)
          have c43 : wo.cell? ⟨g4, 3, none⟩ = some (.int .i64 0) := hfr.b4.cell 3 (by simp)
          have f4 := fun j => hfr.b4.free j
          have e4 := hfr.e4
          have e5 := hfr.e5
          have oth : ∀ (W : World), MF w W (.slice Av m cv) n m m g h (fun k => lineOf M n (σ k)) (fun k => byOf M n m (σ k)) → MapI W mb pv.length D → ∀ (j : Nat) (u : Value), MF w (W.setCell ⟨g4, j, none⟩ u) (.slice Av m cv) n m m g h (fun k => lineOf M n (σ k)) (fun k => byOf M n m (σ k)) ∧ MapI (W.setCell ⟨g4, j, none⟩ u) mb pv.length D := fun W hW hM j u =>
            ⟨hW.other (p := ⟨g4, j, none⟩) (by omega) (by omega) (by have := H45.out; simp only; omega) (fun e => by have := hsep.v g4 e; omega) (fun i hi => by have := hsep.g i hi; simp only; omega) (fun i hi => by have := hsep.h i hi; simp only; omega) u, hM.setCell (a := ⟨g4, j, none⟩) (by simp only; omega) u⟩
          obtain ⟨o1, q1⟩ := oth wo hmf hfr.mp 0 (.slice Av m cv)
          obtain ⟨o2, q2⟩ := oth _ o1 q1 1 (.map (some mb))
          obtain ⟨o3, q3⟩ := oth _ o2 q2 2 (.slice Or t oc)
          obtain ⟨o4, q4⟩ := oth _ o3 q3 3 (.int .i64 d)
          have z0 := World.cell?_setCell_same wo ⟨g4, 0, none⟩ (.slice Av m cv) c40
          have z1 := World.cell?_setCell_same (wo.setCell ⟨g4, 0, none⟩ (.slice Av m cv)) ⟨g4, 1, none⟩ (.map (some mb)) (u := .map none) (by rw [World.cell?_setCell_other _ _ _ _ (by simp)]; exact c41)
          have z2 := World.cell?_setCell_same ((wo.setCell ⟨g4, 0, none⟩ (.slice Av m cv)).setCell ⟨g4, 1, none⟩ (.map (some mb))) ⟨g4, 2, none⟩ (.slice Or t oc) (u := .slice none 0 0) (by rw [World.cell?_setCell_other _ _ _ _ (by simp), World.cell?_setCell_other _ _ _ _ (by simp)]; exact c42)
          have z3 := World.cell?_setCell_same (((wo.setCell ⟨g4, 0, none⟩ (.slice Av m cv)).setCell ⟨g4, 1, none⟩ (.map (some mb))).setCell ⟨g4, 2, none⟩ (.slice Or t oc)) ⟨g4, 3, none⟩ (.int .i64 d) (u := .int .i64 0) (by rw [World.cell?_setCell_other _ _ _ _ (by simp), World.cell?_setCell_other _ _ _ _ (by simp), World.cell?_setCell_other _ _ _ _ (by simp)]; exact c43)
          have hsolf : SolSt A0 n m cols σ pv M d := by
            have := hsol
            rwa [Hol.out, List.take_length] at this
          have hmbw : w.heap.size ≤ mb := by have := H45.out; omega
          have HF := Lib.hid hsolf
          have Hmf := Lib.hid o4
          have Hmp := Lib.hid q4
          have Hmap := Lib.hid hmap
          clear oth o1 o2 o3 o4 q1 q2 q3 q4 hsol hmf hmap hsolf
          go_wp2
          rw [Exit.noGoto_ret]
          refine bodyPost_ret (by simp [results, Tryz.results47, go_sem, z0, z1, z2, z3]; try rfl) rfl ?_
          exact ⟨_, mb, g, h, σ, pv, M, d, D, rfl, HF.out, Hmf.out, Hmp.out, Hmap.out, hmbw⟩
end Go.Proofs.YtebkhdhhajjhfaaGreat.Gr
