/- A ratio's answer, by the code, for a train that is one. -/
import Derived.Test.YtebkhdhhajjhfaaGreatT15
namespace Go.Proofs.YtebkhdhhajjhfaaGreat.Gr
open Go.RowKit

set_option maxRecDepth 100000 in
set_option maxHeartbeats 8000000 in
theorem ratio_good (A : Option Addr) (c S i o : Nat) (ms : List Msh) (w : World) (hA : MRow w A ms) (ht : trainP S ms) (hl : ms.length ≤ 1000000) (hi : i < S) (ho : o < S) :
    Calls Tryz.prog 17 #[.agg #[.int .i64 S, .slice A ms.length c], .int .i64 i, .int .i64 o] w (RatRes w ms S i o) := by
  have hz : askE S ms [(i : Int), (o : Int)] = 0 := askE_ok (decide_eq_true ht) (by simp; omega)
  have c0 : ∀ (g : Nat) (w' : World) (_ : Ext w w') (_ : w'.cell? ⟨g, 0, none⟩ = some (vint i)) (_ : w'.cell? ⟨g, 1, none⟩ = some (vint o)), Calls Tryz.prog 46 #[.agg #[.int .i64 S, .slice A ms.length c], .slice (some ⟨g, 0, none⟩) 2 2] w' fun e w'' => e = .returned (.int .i64 0) ∧ Ext w' w'' :=
    fun g w' he hc hc' => by rw [← hz]; exact asked_any A c S ms (some ⟨g, 0, none⟩) 2 [(i : Int), (o : Int)] w' (hA.ext he) hl (ints_two hc hc') (by simp)
  have cA := c0 (w.heap.size + 1 + 1) (((w.alloc (.cells #[.int .i64 S, .slice A ms.length c] 46)).alloc (.cells #[.slice none 0 0, .slice none 0 0, .slice none 0 0] 53)).alloc (.cells #[.int .i64 i, .int .i64 o] 3)) (((((Ext.refl w).alloc _).alloc _).alloc _)) (cells_three rfl _ (Ext.refl _)) (cells_three rfl _ (Ext.refl _))
  have C0 := Lib.hid cA
  clear c0 cA hz
  have h8 : S ≤ 8 := by have := ht.2.1; omega
  have c28 := fun (w' : World) (he : Ext w w') => rows_is A c S ms w' (hA.ext he) ht
  have C28 := Lib.hid c28
  have HT := Lib.hid ht
  have hcl : (ratCols S i o).length ≤ 1000 := by rw [ratCols_len hi ho]; omega
  clear c28 ht hA
  have hx : Ext w ((w.alloc (.cells #[.int .i64 S, .slice A ms.length c] 46)).alloc (.cells #[.slice none 0 0, .slice none 0 0, .slice none 0 0] 53)) := ((Ext.refl w).alloc _).alloc _
  have a0 : ∀ w', Ext ((w.alloc (.cells #[.int .i64 S, .slice A ms.length c] 46)).alloc (.cells #[.slice none 0 0, .slice none 0 0, .slice none 0 0] 53)) w' → w'.cell? ⟨w.heap.size, 0, none⟩ = some (.int .i64 S) := fun w' he => cells_one rfl w' (Ext.trans ((Ext.refl _).alloc _) he)
  have a1 : ∀ w', Ext ((w.alloc (.cells #[.int .i64 S, .slice A ms.length c] 46)).alloc (.cells #[.slice none 0 0, .slice none 0 0, .slice none 0 0] 53)) w' → w'.cell? ⟨w.heap.size, 1, none⟩ = some (.slice A ms.length c) := fun w' he => cells_one rfl w' (Ext.trans ((Ext.refl _).alloc _) he)
  have b8 : ∀ w', Ext ((w.alloc (.cells #[.int .i64 S, .slice A ms.length c] 46)).alloc (.cells #[.slice none 0 0, .slice none 0 0, .slice none 0 0] 53)) w' → GOk w' (w.heap.size + 1) (.slice none 0 0) (.slice none 0 0) (.slice none 0 0) := fun w' he => (GOk.new (by simp)).ext he
  obtain ⟨m, hm⟩ : ∃ m, m = ms.length := ⟨_, rfl⟩
  simp only [← hm] at C0 C28 hx a0 a1 b8 ⊢
  have Hm := Lib.hid hm
  clear hm
  go_enter Tryz.func17, Tryz.ntmps17
  go_wp2_with (first
    | (go_at_call 46; (with_reducible refine C0.out.mono ?_); rintro e w1 ⟨rfl, hx1⟩; have hxb1 := Ext.trans ((Ext.refl _).alloc _) hx1; have hxw1 := hx.trans hxb1))
  have t0 : ∀ w', Ext w1 w' → w'.cell? ⟨w.heap.size, 0, none⟩ = some (.int .i64 S) := fun w' he => a0 w' (hxb1.trans he)
  have t1 : ∀ w', Ext w1 w' → w'.cell? ⟨w.heap.size, 1, none⟩ = some (.slice A m c) := fun w' he => a1 w' (hxb1.trans he)
  have b8 : ∀ w', Ext w1 w' → GOk w' (w.heap.size + 1) (.slice none 0 0) (.slice none 0 0) (.slice none 0 0) := fun w' he => b8 w' (hxb1.trans he)
  obtain ⟨bx, hbx⟩ : ∃ bx, bx = w.heap.size := ⟨_, rfl⟩
  simp only [← hbx] at t0 t1 b8 ⊢
  have Hbx := Lib.hid hbx
  clear hbx
  clear a0 a1 hx1 hxb1 hx C0
  refine Code.wp_mono (Q := fun e a w' => e = .normal ∧ ∃ (gz mb : Nat) (vr vl ov v ordv : Value) (d : Int), a = ⟨((Value.agg #[Value.int IntKind.i64 ↑S, Value.slice A m c] : Value) :: (.int .i64 ↑i : Value) :: (.int .i64 ↑o : Value) :: (.pointer (some ⟨bx, 0, none⟩) : Value) :: undef :: undef :: (.int .i64 0 : Value) :: (.int .i64 0 : Value) :: (.pointer (some ⟨bx + 1, 0, none⟩) : Value) :: (.int .i64 0 : Value) :: (.int .i64 0 : Value) :: (.pointer (some ⟨gz, 0, none⟩) : Value) :: undef :: undef :: undef :: undef :: undef :: undef :: (Value.agg #[Value.int IntKind.i64 ↑S, Value.slice A m c] : Value) :: (.int .i64 ↑i : Value) :: (.int .i64 ↑o : Value) :: (.slice (some ⟨bx + 1 + 1, 0, none⟩) 2 2 : Value) :: (.int .i64 0 : Value) :: (.int .i64 0 : Value) :: (.bool false : Value) :: undef :: undef :: (Value.agg #[Value.int IntKind.i64 ↑S, Value.slice A m c] : Value) :: (vr : Value) :: (Value.agg #[Value.int IntKind.i64 ↑S, Value.slice A m c] : Value) :: (.int .i64 ↑o : Value) :: (.int .i64 ↑i : Value) :: (vl : Value) :: (ov : Value) :: (.agg #[v, .map (some mb), ordv, .int .i64 d] : Value) :: undef :: undef :: undef :: undef :: undef :: undef :: undef :: undef :: undef :: undef :: undef :: undef :: undef :: undef :: undef :: undef :: undef :: undef :: undef :: undef :: undef :: undef :: undef :: undef :: undef :: undef :: undef :: undef :: undef :: undef :: undef :: undef :: undef :: undef :: undef :: undef :: undef :: undef :: undef :: undef :: undef :: undef :: undef :: undef :: undef :: undef :: undef :: undef :: undef :: undef :: undef :: undef :: undef :: undef :: undef :: undef :: undef :: undef :: undef :: undef :: undef :: undef :: undef :: undef :: undef :: undef :: undef :: undef :: undef :: undef :: undef :: undef :: undef :: undef :: undef :: []).toArray, []⟩ ∧ Ext w1 w' ∧ SolvQ w1 w' ms S (ratCols S i o) v mb ordv d ∧ (∀ w2, Ext w' w2 → w2.cell? ⟨gz, 0, none⟩ = some v ∧ w2.cell? ⟨gz, 1, none⟩ = some (.map (some mb)) ∧ w2.cell? ⟨gz, 2, none⟩ = some ordv ∧ w2.cell? ⟨gz, 3, none⟩ = some (.int .i64 d)) ∧ w1.heap.size ≤ gz) ?_ ?_
  · rintro e a w2 ⟨rfl, gz, mb, vr, vl, ov, v, ordv, d, rfl, hx2, hsq, hc, hgz⟩
    obtain ⟨g, h, σ, pv, M, D, hs, hmf, hmp, hd, Ao, co, rfl⟩ := hsq.open_ (r := bx + 1) hxw1 (by rw [← Hbx.out]; omega) (b8 _ (Ext.refl _)).lt (b8 _ hx2).c0
    have h53 := hs.two53 HT.out
    have Hs := Lib.hid hs
    have hlen : (ratCols S i o).length = S := ratCols_len hi ho
    rw [hlen] at hc ⊢
    have hpm : pv.length ≤ ms.length := hs.le
    rw [← Hm.out] at hpm
    simp only [← Hm.out] at hmf
    have q0 : ∀ w', Ext w2 w' → w'.cell? ⟨gz, 0, none⟩ = some v := fun w' he => (hc w' he).1
    have q1 : ∀ w', Ext w2 w' → w'.cell? ⟨gz, 1, none⟩ = some (.map (some mb)) := fun w' he => (hc w' he).2.1
    have hx02 := hxw1.trans hx2
    have hbk : bx + 1 < w1.heap.size := (b8 _ (Ext.refl _)).lt
    clear hsq C28
    by_cases hin : i ∈ colsP pv
    · obtain ⟨k, hk, hki⟩ := List.getElem_of_mem hin
      have hkp : k < pv.length := by rw [colsP_len] at hk; exact hk
      obtain ⟨ci, hlook, hval⟩ := hd.look (hmp w2 (grownBy_refl _ _)) i (by omega)
      obtain rfl := hval k hk hki
      rw [decide_eq_true hin] at hlook
      obtain ⟨gv, cv, rfl, r0, r1, il, ib, ll, lb⟩ := (hmf w2 (grownBy_refl _ _)).at_ (k := k) (by omega)
      have hrow : pv[k].1 = σ k := hs.row_at hkp
      have hcol : pv[k].2 = i := by rw [← hki]; exact (colsP_get hk).symm
      have hqm : pv[k] ∈ pv := List.getElem_mem hkp
      have c76 := fun (w' : World) (he : Ext w2 w') => factors_row (some ⟨g k, 0, none⟩) (some ⟨h k, 0, none⟩) S m S m _ _ i w' (il.ext he) (ib.ext he) ll lb hi (fun y hy => by
        rw [byOf_get hy, ← hrow]
        have := h53.2 _ hqm (S + y)
        omega) (by have := HT.out.2.2.1; rw [← Hm.out] at this; omega)
      have hF : FacOf S m M d pv[k] (negL (decide (getI (lineOf M S (σ k)) i < 0)) (byOf M S m (σ k)) m) := by
        have := facOf_neg (S := S) (m := m) (M := M) (d := d) (q := pv[k]) hrow (by have := hs.red' hqm hqm; rw [if_pos rfl, hrow] at this; exact this) (by rw [hcol]; exact hi)
        rw [hcol] at this
        exact this
      generalize negL (decide (getI (lineOf M S (σ k)) i < 0)) (byOf M S m (σ k)) m = F at *
      have hfl : F.length = m := hF.1
      obtain ⟨c1, hcl1⟩ := ratCols_last S i o
      rw [Hm.out] at hF
      have hjam := hs.provesJam ratCols_all h53 hcl1 ratCols_nodup hi hqm hcol hF
      have hverd := verd_jam hs hi hin
      have Hj := Lib.hid (And.intro hjam hverd)
      have C76 := Lib.hid c76
      have hkm : (k : Int) < (m : Int) := by omega
      have Hfl := Lib.hid hfl
      have Hb := Lib.hid (b8 _ hx2)
      clear hc hjam hverd hF hcl1 c76 hfl hki hval hrow hcol hqm il ib ll lb h53 hs hmf hmp hd b8 hin
      clear Hs
      (repeat (first | ((first
        | (go_at_call 50; refine (C76.out _ (Ext.refl _)).mono ?_; rintro e w3 ⟨gF, rfl, hF⟩; have hb3 := Hb.out.ext hF.1; obtain ⟨z0, z1, z2, zf⟩ := id hb3; simp only []))) | go_values | go_skip | go_guarded | go_step | go_upon | go_back))
      (try simp only [Exit.inBlock, Exit.then])
      have hg3 : w3.grownBy (put3 w3 (bx + 1) (sl gF F.length) (.slice none 0 0) (.slice none 0 0)) (some (bx + 1)) := put3_grown
      have hb4 := hb3.put3 (x0 := sl gF F.length) (x1 := .slice none 0 0) (x2 := .slice none 0 0)
      refine bodyPost_ret (results_ratio rfl _ _ rfl hb4) rfl ?_
      refine ⟨0, 0, 41, some ⟨gF, 0, none⟩, none, none, F.length, 0, 0, F, [], [], rfl, ints_far hF hg3 (by have := hF.2.1; have := hx2.le; omega), Ints.nil _ _, Ints.nil _ _, OrdPair.ext hg3 (hx02.trans hF.1) (by rw [← Hbx.out]; omega), Hj.out.2, .inl ⟨rfl, rfl, rfl, Hj.out.1⟩⟩
    · have hxr : w.heap.size ≤ bx + 1 := by rw [← Hbx.out]; omega
      have cm := fun (w' : World) (hg : w2.grownBy w' (some (bx + 1))) (f : Nat) (hf : f < S) (hfo : f ∉ colsP pv) => motion_any (M := M) (d := d) (pv := pv) (σ := σ) (hmf w' hg) (hmp w' hg) hd ⟨Ao, co, rfl⟩ hpm hs.cnd (fun x hx => (hs.cin x hx).2) (fun k hk => hs.row_at hk) hf hfo h8 (by have := h53.1; omega) (fun q hq => by have := h53.2 q hq f; omega)
      have Cm := Lib.hid cm
      obtain ⟨ci, hlook, _⟩ := hd.look (hmp w2 (grownBy_refl _ _)) i (by omega)
      rw [decide_eq_false hin] at hlook
      have Hb := Lib.hid (b8 _ hx2)
      have tg1 := fun (w' : World) (hg : w2.grownBy w' (some (bx + 1))) => cell_gb (p := ⟨bx, 1, none⟩) hg (by simp) (t1 w2 hx2)
      have qg0 := fun (w' : World) (hg : w2.grownBy w' (some (bx + 1))) => cell_gb (p := ⟨gz, 0, none⟩) hg (by simp; omega) (hc w2 (Ext.refl _)).1
      have qg1 := fun (w' : World) (hg : w2.grownBy w' (some (bx + 1))) => cell_gb (p := ⟨gz, 1, none⟩) hg (by simp; omega) (hc w2 (Ext.refl _)).2.1
      have qg2 := fun (w' : World) (hg : w2.grownBy w' (some (bx + 1))) => cell_gb (p := ⟨gz, 2, none⟩) hg (by simp; omega) (hc w2 (Ext.refl _)).2.2.1
      have qg3 := fun (w' : World) (hg : w2.grownBy w' (some (bx + 1))) => cell_gb (p := ⟨gz, 3, none⟩) hg (by simp; omega) (hc w2 (Ext.refl _)).2.2.2
      have q2 : ∀ w', Ext w2 w' → w'.cell? ⟨gz, 2, none⟩ = some (.slice Ao S co) := fun w' he => (hc w' he).2.2.1
      have q3 : ∀ w', Ext w2 w' → w'.cell? ⟨gz, 3, none⟩ = some (.int .i64 d) := fun w' he => (hc w' he).2.2.2
      have Tg1 := Lib.hid tg1
      have Qg0 := Lib.hid qg0
      have Qg1 := Lib.hid qg1
      have Qg2 := Lib.hid qg2
      have Qg3 := Lib.hid qg3
      clear tg1 qg0 qg1 qg2 qg3 b8 cm hc
      by_cases hoi : o = i
      · obtain rfl := hoi
        have hfin := fun (x : List Int) (hx : MotOf S pv M d o x) => hs.provesSame ratCols_all h53 hi hin hx
        have Hfin := Lib.hid hfin
        have Hverd := Lib.hid (verd_same hs hi hin)
        clear hfin hs hmf hmp hd h53 Hs
        have hm6 : m ≤ 1000000 := by rw [Hm.out]; exact hl
        (repeat (first | ((first
          | (refine own_make (w1 := _) int_elem rfl _ _ rfl Tryz.underlying26 _ m rfl rfl (by omega) (by unfold maxLen; omega) (Ext.refl _) ?_; intro w5 hown hx5; rw [made_ints] at hown; have hnew := NewInts.of_own hown; have hb5 := hb4.ext hx5; obtain ⟨z0, z1, z2, zf⟩ := id hb5; (try simp only []))
          | (go_at_call 51; refine (Cm.out _ (Ext.gb (Ext.refl _)) o hi hin).mono ?_; rintro e w3 ⟨gM, xM, rfl, hnM, hM⟩; have hb3 := Hb.out.ext hnM.1; obtain ⟨y0, y1, y2, yf⟩ := id hb3; have hg4 : w2.grownBy (w3.setCell ⟨bx + 1, 1, none⟩ (sl gM S)) (some (bx + 1)) := (Ext.gb hnM.1).trans grown_setAt; have tc := Tg1.out _ hg4; have hb4 := hb3.set1 (sl gM S); simp only []))) | go_values | go_skip | go_guarded | go_step | go_upon | go_back))
        have hsz4 : (w3.setCell ⟨bx + 1, 1, none⟩ (.slice (some ⟨gM, 0, none⟩) S S)).heap.size = w3.heap.size := by simp only [World.setCell, Array.size_modify]
        rw [hsz4] at hnew
        obtain ⟨gZ, hgZ⟩ : ∃ gZ, gZ = w3.heap.size := ⟨_, rfl⟩
        rw [← hgZ] at hnew
        simp only [← hgZ]
        have HgZ := Lib.hid hgZ
        clear hgZ hsz4
        have hb6 := hb5.set0 (sl gZ m)
        have k0 : ∀ w', GOk w' (bx + 1) (sl gZ m) (sl gM S) (.slice none 0 0) → w'.cell? ⟨bx + 1, 0, none⟩ = some (sl gZ m) := fun _ h => h.c0
        have k1 : ∀ w', GOk w' (bx + 1) (sl gZ m) (sl gM S) (.slice none 0 0) → w'.cell? ⟨bx + 1, 1, none⟩ = some (sl gM S) := fun _ h => h.c1
        have k2 : ∀ w', GOk w' (bx + 1) (sl gZ m) (sl gM S) (.slice none 0 0) → w'.cell? ⟨bx + 1, 2, none⟩ = some (.slice none 0 0) := fun _ h => h.c2
        have kf : ∀ w' j, GOk w' (bx + 1) (sl gZ m) (sl gM S) (.slice none 0 0) → w'.frozen? ⟨bx + 1, j, none⟩ = false := fun _ j h => h.f j
        go_region_held3 (fun w' => GOk w' (bx + 1) (sl gZ m) (sl gM S) (.slice none 0 0)) (first | assumption | exact GOk.drew (by assumption) | exact GOk.put3 (by assumption) | fail) (fail)
        (repeat (first | go_values | go_skip | go_guarded | go_step | go_upon | go_back))
        (try simp only [Exit.inBlock, Exit.then])
        have hb7 := (hb6.put3 (x0 := sl gZ m) (x1 := sl gM S) (x2 := .slice none 0 0)).drew
        refine bodyPost_ret (results_ratio rfl _ _ rfl hb7) rfl ?_
        have hg5 : (w3.setCell ⟨bx + 1, 1, none⟩ (sl gM S)).grownBy w5 (some (bx + 1)) := hnew.1.gb
        have hg6 : w5.grownBy (put3 (w5.setCell ⟨bx + 1, 0, none⟩ (sl gZ m)) (bx + 1) (sl gZ m) (sl gM S) (.slice none 0 0)).drew (some (bx + 1)) := (World.grownBy.trans grown_setAt put3_grown).trans (Ext.gb (Ext.drew (Ext.refl _)))
        have hgM : w3.grownBy _ (some (bx + 1)) := (World.grownBy.trans grown_setAt hg5).trans hg6
        have hle3 := hx2.le
        have hle4 : w2.heap.size ≤ w3.heap.size := hnM.1.le
        refine ⟨1, 1, 0, some ⟨gZ, 0, none⟩, some ⟨gM, 0, none⟩, none, m, S, 0, List.replicate m 0, xM, [], by rw [hM.1, List.length_replicate]; rfl, ints_far hnew hg6 (by have := HgZ.out; omega), ints_far hnM hgM (by have := hnM.2.1; omega), Ints.nil _ _, OrdPair.ext (hg4.trans (hg5.trans hg6)) hx02 hxr, Hverd.out, .inr (.inr ⟨rfl, ?_⟩)⟩
        rw [Hm.out]
        exact Hfin.out xM hM
      · have hoi' : ¬ (i : Int) = (o : Int) := by omega
        have hlk := fun (w' : World) (hg : w2.grownBy w' (some (bx + 1))) => hd.look (hmp w' hg) o (by omega)
        by_cases hon : o ∈ colsP pv
        · obtain ⟨k, hk, hko⟩ := List.getElem_of_mem hon
          have hkp : k < pv.length := by rw [colsP_len] at hk; exact hk
          obtain ⟨gv, cv, rfl, _⟩ := (hmf w2 (grownBy_refl _ _)).at_ (k := k) (by omega)
          have hrow : pv[k].1 = σ k := hs.row_at hkp
          have hcol : pv[k].2 = o := by rw [← hko]; exact (colsP_get hk).symm
          have hqm : pv[k] ∈ pv := List.getElem_mem hkp
          have hat := fun (w' : World) (hg : w2.grownBy w' (some (bx + 1))) => (hmf w' hg).at2 (k := k) (show k < m by omega)
          have hlk2 : ∀ w', w2.grownBy w' (some (bx + 1)) → (Instr.lookup 120 (.map (some mb)) (.int .i64 o) true).run Tryz.prog w' = .ok (.tuple #[.int .i64 k, .bool true]) w' := fun w' hg => by
            obtain ⟨cz, h1, hv⟩ := hlk w' hg
            rw [hv k hk hko, decide_eq_true hon] at h1
            exact h1
          have hMd : M (σ k) o = d := by have := hs.red' hqm hqm; rw [if_pos rfl, hrow, hcol] at this; exact this
          have c76 := fun (w' : World) (hg : w2.grownBy w' (some (bx + 1))) => factors_row (some ⟨g k, 0, none⟩) (some ⟨h k, 0, none⟩) S m S m _ _ o w' (hat w' hg).2.2.1 (hat w' hg).2.2.2.1 (hat w' hg).2.2.2.2.1 (hat w' hg).2.2.2.2.2 ho (fun y hy => by
            rw [byOf_get hy, ← hrow]
            have := h53.2 _ hqm (S + y)
            omega) (by have := HT.out.2.2.1; rw [← Hm.out] at this; omega)
          have hF : FacOf S m M d pv[k] (negL (decide (getI (lineOf M S (σ k)) o < 0)) (byOf M S m (σ k)) m) := by
            have := facOf_neg (S := S) (m := m) (M := M) (d := d) (q := pv[k]) hrow (by rw [hcol]; exact hMd) (by rw [hcol]; exact ho)
            rw [hcol] at this
            exact this
          have cat := fun (w' : World) (hg : w2.grownBy w' (some (bx + 1))) (j : Nat) (hj : j < S) => at_any (some ⟨g k, 0, none⟩) S j (lineOf M S (σ k)) w' (hat w' hg).2.2.1 (by rw [(hat w' hg).2.2.2.2.1]; exact hj)
          have hll := (hat w2 (grownBy_refl _ _)).2.2.2.2.1
          rw [hll] at cat
          have cati := fun (w' : World) (hg : w2.grownBy w' (some (bx + 1))) => cat w' hg i hi
          have cato := fun (w' : World) (hg : w2.grownBy w' (some (bx + 1))) => cat w' hg o ho
          rw [lineOf_get hi, ← hrow] at cati
          rw [lineOf_get ho, hMd] at cato
          generalize negL (decide (getI (lineOf M S (σ k)) o < 0)) (byOf M S m (σ k)) m = F at *
          have hfl : F.length = m := hF.1
          obtain ⟨c1, hc1⟩ := ratCols_two hoi
          rw [Hm.out] at hF
          have hfin := fun (x : List Int) (hx : MotOf S pv M d i x) => hs.provesRatio ratCols_all h53 hc1 ratCols_nodup hi ho (fun e => hoi e.symm) hin hqm hcol hF hx
          have hverd := verd_loose hs hi ho hoi hin
          rw [if_pos hon] at hverd
          have Hverd := Lib.hid hverd
          have hd0 := hs.bar.ne
          have hby := h53.2 _ hqm i
          have hbd := h53.1
          generalize M pv[k].1 i = y at *
          have cdiv := fun (w' : World) => divisor_any y d w' (by omega) (by omega) (fun e => absurd e hd0)
          have hdv : dvS y d ≠ 0 := by
            unfold dvS
            have h1 : Int.gcd y d ≠ 0 := fun e => hd0 (Int.gcd_eq_zero_iff.1 e).2
            split <;> omega
          have hfin : ∀ x, MotOf S pv M d i x → ratPr (gearL ms S) ms.length S i o ((-y).tdiv (dvS y d)) (d.tdiv (dvS y d)) F x [] := hfin
          generalize dvS y d = dv at *
          obtain ⟨num, hnum⟩ : ∃ num, (-y).tdiv dv = num := ⟨_, rfl⟩
          obtain ⟨den, hden⟩ : ∃ den, d.tdiv dv = den := ⟨_, rfl⟩
          rw [hnum, hden] at hfin
          have hwn := wrap_tdiv (by omega) hnum
          have hwd := wrap_tdiv (by omega) hden
          have hwn2 : IntKind.i64.wrap (-y.tdiv dv) = num := by rw [← Int.neg_tdiv]; exact hwn
          have hwy : IntKind.i64.wrap (-y) = -y := by rw [IntKind.wrap_i64]; omega
          have Hfin := Lib.hid hfin
          have Hlk := Lib.hid hlk2
          have Hat := Lib.hid hat
          have C76 := Lib.hid c76
          have Cati := Lib.hid cati
          have Cato := Lib.hid cato
          have Cdiv := Lib.hid cdiv
          have Hfl := Lib.hid hfl
          have hkm : (k : Int) < (m : Int) := by omega
          clear hfin hverd hlk hlk2 hat c76 cat cati cato cdiv hs hmf hmp hd h53 Hs hF hll hc1 hfl hnum hden hMd hrow hcol hqm hko hbd
          (repeat (first | ((first
            | (go_at_call 50; refine (C76.out _ hg5).mono ?_; rintro e w6 ⟨gF, rfl, hF6⟩; have hb6 := hb5.ext hF6.1; obtain ⟨z0, z1, z2, zf⟩ := id hb6; simp only [])
            | (go_at_call 51; refine (Cm.out _ (Ext.gb (Ext.refl _)) i hi hin).mono ?_; rintro e w3 ⟨gM, xM, rfl, hnM, hM⟩; have hb3 := Hb.out.ext hnM.1; obtain ⟨y0, y1, y2, yf⟩ := id hb3; have hg4 : w2.grownBy (w3.setCell ⟨bx + 1, 1, none⟩ (sl gM S)) (some (bx + 1)) := (Ext.gb hnM.1).trans grown_setAt; have p0 := Qg0.out _ hg4; have p1 := Qg1.out _ hg4; have hlook2 := Hlk.out _ hg4; have r0 := (Hat.out _ hg4).1 _ (Ext.refl _); have r1 := (Hat.out _ hg4).2.1 _ (Ext.refl _); have hb4 := hb3.set1 (sl gM S); have hg5 := hg4.trans (Ext.gb (r := some (bx + 1)) (Ext.alloc (Ext.refl _) (.cells #[sl (g k) S, sl (h k) m] 130))); have hb5 := hb4.ext (Ext.alloc (Ext.refl _) (.cells #[sl (g k) S, sl (h k) m] 130)); simp only []))) | go_values | go_skip | go_guarded | go_step | go_upon | go_back))
          have hsz4 : (w3.setCell ⟨bx + 1, 1, none⟩ (sl gM S)).heap.size = w3.heap.size := by simp only [World.setCell, Array.size_modify]
          have hle2 := hx2.le
          have hle3 : w2.heap.size ≤ w3.heap.size := hnM.1.le
          have hb7 := hb6.set0 (sl gF F.length)
          have hg67 : w6.grownBy (w6.setCell ⟨bx + 1, 0, none⟩ (sl gF F.length)) (some (bx + 1)) := grown_setAt
          have hg7 := (World.grownBy.trans hg5 (Ext.gb hF6.1)).trans hg67
          have s0 : (w6.setCell ⟨bx + 1, 0, none⟩ (sl gF F.length)).cell? ⟨w3.heap.size, 0, none⟩ = some (sl (g k) S) := cell_gb hg67 (by show w3.heap.size ≠ bx + 1; omega) (hF6.1.cell (by rw [← hsz4]; exact cells_last rfl rfl))
          have hgM : w3.grownBy (w6.setCell ⟨bx + 1, 0, none⟩ (sl gF F.length)) (some (bx + 1)) := World.grownBy.trans (World.grownBy.trans (World.grownBy.trans grown_setAt (Ext.gb (Ext.alloc (Ext.refl _) _))) (Ext.gb hF6.1)) hg67
          have hgFb : gF ≠ bx + 1 := by
            have h1 := hF6.2.1
            have h2 : (w3.setCell ⟨bx + 1, 1, none⟩ (sl gM S)).heap.size ≤ ((w3.setCell ⟨bx + 1, 1, none⟩ (sl gM S)).alloc (.cells #[sl (g k) S, sl (h k) m] 130)).heap.size := (Ext.alloc (Ext.refl _) _).le
            omega
          have hgMb : gM ≠ bx + 1 := by have := hnM.2.1; omega
          obtain ⟨gr, hgr⟩ : ∃ gr, gr = w3.heap.size := ⟨_, rfl⟩
          rw [← hgr] at s0
          have hgrb : gr ≠ bx + 1 := by omega
          simp only [← hgr]
          clear hgr hsz4 p0 p1 hlook2 r0 r1 hg4 hb4 y0 y1 y2 yf z0 z1 z2 zf hb6 hb5 hle2 hle3
          generalize w6.setCell ⟨bx + 1, 0, none⟩ (.slice (some ⟨gF, 0, none⟩) F.length F.length) = w7 at *
          have s0 := Ext.cells s0
          go_region_held3 (fun w' => Ext w7 w') (first | assumption | (simp (maxDischargeDepth := 8); done) | (simp (maxDischargeDepth := 8) [*]; done) | fail) (first
            | (go_at_call 52; have hh := (by assumption : Ext w7 _); refine (Cdiv.out _).mono ?_; rintro e w9 ⟨rfl, hx9⟩; have hx79 := Ext.trans hh hx9)
            | (go_at_call 53; have hh := (by assumption : Ext w7 _); (with_reducible refine (Cati.out _ (hg7.trans (Ext.gb hh))).mono ?_); rintro e w8 ⟨rfl, rfl⟩)
            | (go_at_call 53; have hh := (by assumption : Ext w7 _); (with_reducible refine (Cato.out _ (hg7.trans (Ext.gb hh))).mono ?_); rintro e w8 ⟨rfl, rfl⟩))
          have hb9 := hb7.ext hx79
          have hg9 := hg7.trans (Ext.gb (r := some (bx + 1)) hx79)
          have hgM9 := hgM.trans (Ext.gb (r := some (bx + 1)) hx79)
          have hg69 := hg67.trans (Ext.gb (r := some (bx + 1)) hx79)
          have hsg := Sg.start hb9
          have s9 : ∀ w', Sg w9 (bx + 1) (sl gF F.length) (sl gM S) (.slice none 0 0) w' → w'.cell? ⟨gr, 0, none⟩ = some (sl (g k) S) := fun w' hg => cell_gb hg.gb hgrb (s0 w9 hx79)
          have k0 : ∀ w', Sg w9 (bx + 1) (sl gF F.length) (sl gM S) (.slice none 0 0) w' → w'.cell? ⟨bx + 1, 0, none⟩ = some (sl gF F.length) := fun _ h => h.ok.c0
          have k1 : ∀ w', Sg w9 (bx + 1) (sl gF F.length) (sl gM S) (.slice none 0 0) w' → w'.cell? ⟨bx + 1, 1, none⟩ = some (sl gM S) := fun _ h => h.ok.c1
          have k2 : ∀ w', Sg w9 (bx + 1) (sl gF F.length) (sl gM S) (.slice none 0 0) w' → w'.cell? ⟨bx + 1, 2, none⟩ = some (.slice none 0 0) := fun _ h => h.ok.c2
          have kf : ∀ w' j, Sg w9 (bx + 1) (sl gF F.length) (sl gM S) (.slice none 0 0) w' → w'.frozen? ⟨bx + 1, j, none⟩ = false := fun _ j h => h.ok.f j
          clear s0 hb7 hg67 hgM hgrb q1 q2 q3 t0 t1 b8 hlook
          (repeat (first | go_values | go_skip | go_guarded | go_step | go_upon | go_back))
          go_region_held3 (fun w' => Sg w9 (bx + 1) (sl gF F.length) (sl gM S) (.slice none 0 0) w') (first | assumption | exact Sg.drew (by assumption) | exact Sg.put3 (by assumption) | fail) (first
            | (go_at_call 53; have hh := (by assumption : Sg w9 (bx + 1) (sl gF F.length) (sl gM S) (.slice none 0 0) _); (with_reducible refine (Cati.out _ (hg9.trans hh.gb)).mono ?_); rintro e w8 ⟨rfl, rfl⟩)
            | (go_at_call 53; have hh := (by assumption : Sg w9 (bx + 1) (sl gF F.length) (sl gM S) (.slice none 0 0) _); (with_reducible refine (Cato.out _ (hg9.trans hh.gb)).mono ?_); rintro e w8 ⟨rfl, rfl⟩))
          (repeat (first | go_values | go_skip | go_guarded | go_step | go_upon | go_back))
          (try simp only [Exit.inBlock, Exit.then])
          (try simp only [hwn2])
          have hbz := ((Sg.start hb9).put3).drew
          refine bodyPost_ret (results_ratio rfl _ _ rfl hbz.ok) rfl ?_
          exact ⟨num, den, 0, some ⟨gF, 0, none⟩, some ⟨gM, 0, none⟩, none, F.length, S, 0, F, xM, [], by rw [hM.1]; rfl, ints_far hF6 (hg69.trans hbz.gb) hgFb, ints_far hnM (hgM9.trans hbz.gb) hgMb, Ints.nil _ _, OrdPair.ext (hg9.trans hbz.gb) hx02 hxr, Hverd.out.symm, .inr (.inr ⟨rfl, Hfin.out xM hM⟩)⟩
        · have hfin := fun (x y : List Int) (hx : MotOf S pv M d i x) (hy : MotOf S pv M d o y) => hs.provesLoose ratCols_all h53 hi ho (fun e => hoi e.symm) hin hon hx hy
          have Hfin := Lib.hid hfin
          have hverd := verd_loose hs hi ho hoi hin
          rw [if_neg hon] at hverd
          have Hverd := Lib.hid hverd
          rw [decide_eq_false hon] at hlk
          have Hlk := Lib.hid hlk
          clear hfin hverd hlk hs hmf hmp hd h53 Hs
          (repeat (first | ((first
            | (go_at_call 51; refine (Cm.out _ hg4 o ho hon).mono ?_; rintro e w5 ⟨gS, xS, rfl, hnS, hS⟩; have hb5 := hb4.ext hnS.1; obtain ⟨z0, z1, z2, zf⟩ := id hb5; simp only [])
            | (go_at_call 51; refine (Cm.out _ (Ext.gb (Ext.refl _)) i hi hin).mono ?_; rintro e w3 ⟨gM, xM, rfl, hnM, hM⟩; have hb3 := Hb.out.ext hnM.1; obtain ⟨y0, y1, y2, yf⟩ := id hb3; have hg4 : w2.grownBy (w3.setCell ⟨bx + 1, 1, none⟩ (sl gM S)) (some (bx + 1)) := (Ext.gb hnM.1).trans grown_setAt; have p0 := Qg0.out _ hg4; have p1 := Qg1.out _ hg4; have p2 := Qg2.out _ hg4; have p3 := Qg3.out _ hg4; obtain ⟨cz, hlook2, _⟩ := Hlk.out _ hg4; have hb4 := hb3.set1 (sl gM S); simp only []))) | go_values | go_skip | go_guarded | go_step | go_upon | go_back))
          have hb6 := hb5.set2 (sl gS S)
          have k0 : ∀ w', GOk w' (bx + 1) (.slice none 0 0) (sl gM S) (sl gS S) → w'.cell? ⟨bx + 1, 0, none⟩ = some (.slice none 0 0) := fun _ h => h.c0
          have k1 : ∀ w', GOk w' (bx + 1) (.slice none 0 0) (sl gM S) (sl gS S) → w'.cell? ⟨bx + 1, 1, none⟩ = some (sl gM S) := fun _ h => h.c1
          have k2 : ∀ w', GOk w' (bx + 1) (.slice none 0 0) (sl gM S) (sl gS S) → w'.cell? ⟨bx + 1, 2, none⟩ = some (sl gS S) := fun _ h => h.c2
          have kf : ∀ w' j, GOk w' (bx + 1) (.slice none 0 0) (sl gM S) (sl gS S) → w'.frozen? ⟨bx + 1, j, none⟩ = false := fun _ j h => h.f j
          go_region_held3 (fun w' => GOk w' (bx + 1) (.slice none 0 0) (sl gM S) (sl gS S)) (first | assumption | exact GOk.drew (by assumption) | exact GOk.put3 (by assumption) | fail) (fail)
          (repeat (first | go_values | go_skip | go_guarded | go_step | go_upon | go_back))
          (try simp only [Exit.inBlock, Exit.then])
          have hb7 := (hb6.put3 (x0 := .slice none 0 0) (x1 := sl gM S) (x2 := sl gS S)).drew
          refine bodyPost_ret (results_ratio rfl _ _ rfl hb7) rfl ?_
          have hg5 : (w3.setCell ⟨bx + 1, 1, none⟩ (sl gM S)).grownBy w5 (some (bx + 1)) := hnS.1.gb
          have hg6 : w5.grownBy (put3 (w5.setCell ⟨bx + 1, 2, none⟩ (sl gS S)) (bx + 1) (.slice none 0 0) (sl gM S) (sl gS S)).drew (some (bx + 1)) := (World.grownBy.trans grown_setAt put3_grown).trans (Ext.gb (Ext.drew (Ext.refl _)))
          have hgM : w3.grownBy _ (some (bx + 1)) := (World.grownBy.trans grown_setAt hg5).trans hg6
          have hle3 := hx2.le
          have hle4 : w2.heap.size ≤ w3.heap.size := hnM.1.le
          have hsz4 : (w3.setCell ⟨bx + 1, 1, none⟩ (sl gM S)).heap.size = w3.heap.size := by simp only [World.setCell, Array.size_modify]
          refine ⟨0, 0, 42, none, some ⟨gM, 0, none⟩, some ⟨gS, 0, none⟩, 0, S, S, [], xM, xS, by rw [hM.1, hS.1]; rfl, Ints.nil _ _, ints_far hnM hgM (by have := hnM.2.1; omega), ints_far hnS hg6 (by have := hnS.2.1; omega), OrdPair.ext (hg4.trans (hg5.trans hg6)) hx02 hxr, Hverd.out.symm, .inr (.inl ⟨rfl, rfl, rfl, Hfin.out xM xS hM hS⟩)⟩
  · go_region_held3 (fun w' => Ext w1 w') (first | assumption | (simp (maxDischargeDepth := 8); done) | (simp (maxDischargeDepth := 8) [*]; done) | (refine put4_ext ?_ ?_; assumption; (first | omega | (simp; done) | (simp; omega) | fail))) (first
      | (go_at_call 48; have hh := (by assumption : Ext w1 _); refine (C28.out _ (hxw1.trans hh)).mono ?_; rintro e w2 ⟨vr, rfl, hx2, hr2⟩; have hx12 := Ext.trans hh hx2; have hle := hx12.le; (try ((refine (fun (hl2 : LOk w2 w1.heap.size (o : Int) (i : Int)) => ?_) (LOk.ext ?_ hx2); rotate_left; focus (first | (assumption) | (refine LOk.new' ?_; first | rfl | (simp; done)) | (refine LOk.alloc ?_; assumption) | (refine LOk.alloc ?_; refine LOk.new' ?_; first | rfl | (simp; done)) | (refine LOk.alloc (LOk.alloc ?_); assumption) | (refine LOk.alloc (LOk.alloc ?_); refine LOk.new' ?_; first | rfl | (simp; done)) | (refine LOk.drew ?_; assumption) | (refine LOk.drew ?_; refine LOk.new' ?_; first | rfl | (simp; done)) | (refine LOk.drew ?_; refine LOk.alloc ?_; assumption) | (refine LOk.drew ?_; refine LOk.alloc ?_; refine LOk.new' ?_; first | rfl | (simp; done)) | (refine LOk.drew ?_; refine LOk.alloc (LOk.alloc ?_); assumption) | (refine LOk.drew ?_; refine LOk.alloc (LOk.alloc ?_); refine LOk.new' ?_; first | rfl | (simp; done)) | fail)))); (try ((refine (fun (hl2 : LOk w2 (w1.heap.size + 1) (o : Int) (i : Int)) => ?_) (LOk.ext ?_ hx2); rotate_left; focus (first | (assumption) | (refine LOk.new' ?_; first | rfl | (simp; done)) | (refine LOk.alloc ?_; assumption) | (refine LOk.alloc ?_; refine LOk.new' ?_; first | rfl | (simp; done)) | (refine LOk.alloc (LOk.alloc ?_); assumption) | (refine LOk.alloc (LOk.alloc ?_); refine LOk.new' ?_; first | rfl | (simp; done)) | (refine LOk.drew ?_; assumption) | (refine LOk.drew ?_; refine LOk.new' ?_; first | rfl | (simp; done)) | (refine LOk.drew ?_; refine LOk.alloc ?_; assumption) | (refine LOk.drew ?_; refine LOk.alloc ?_; refine LOk.new' ?_; first | rfl | (simp; done)) | (refine LOk.drew ?_; refine LOk.alloc (LOk.alloc ?_); assumption) | (refine LOk.drew ?_; refine LOk.alloc (LOk.alloc ?_); refine LOk.new' ?_; first | rfl | (simp; done)) | fail)))); (try ((refine (fun (hz2 : ZOk w2 w1.heap.size) => ?_) (ZOk.ext ?_ hx2); rotate_left; focus (first | (assumption) | (refine ZOk.new' ?_; first | rfl | (simp; done)) | (refine ZOk.alloc ?_; assumption) | (refine ZOk.alloc ?_; refine ZOk.new' ?_; first | rfl | (simp; done)) | (refine ZOk.alloc (ZOk.alloc ?_); assumption) | (refine ZOk.alloc (ZOk.alloc ?_); refine ZOk.new' ?_; first | rfl | (simp; done)) | (refine ZOk.drew ?_; assumption) | (refine ZOk.drew ?_; refine ZOk.new' ?_; first | rfl | (simp; done)) | (refine ZOk.drew ?_; refine ZOk.alloc ?_; assumption) | (refine ZOk.drew ?_; refine ZOk.alloc ?_; refine ZOk.new' ?_; first | rfl | (simp; done)) | (refine ZOk.drew ?_; refine ZOk.alloc (ZOk.alloc ?_); assumption) | (refine ZOk.drew ?_; refine ZOk.alloc (ZOk.alloc ?_); refine ZOk.new' ?_; first | rfl | (simp; done)) | fail)))); (try ((refine (fun (hz2 : ZOk w2 (w1.heap.size + 1)) => ?_) (ZOk.ext ?_ hx2); rotate_left; focus (first | (assumption) | (refine ZOk.new' ?_; first | rfl | (simp; done)) | (refine ZOk.alloc ?_; assumption) | (refine ZOk.alloc ?_; refine ZOk.new' ?_; first | rfl | (simp; done)) | (refine ZOk.alloc (ZOk.alloc ?_); assumption) | (refine ZOk.alloc (ZOk.alloc ?_); refine ZOk.new' ?_; first | rfl | (simp; done)) | (refine ZOk.drew ?_; assumption) | (refine ZOk.drew ?_; refine ZOk.new' ?_; first | rfl | (simp; done)) | (refine ZOk.drew ?_; refine ZOk.alloc ?_; assumption) | (refine ZOk.drew ?_; refine ZOk.alloc ?_; refine ZOk.new' ?_; first | rfl | (simp; done)) | (refine ZOk.drew ?_; refine ZOk.alloc (ZOk.alloc ?_); assumption) | (refine ZOk.drew ?_; refine ZOk.alloc (ZOk.alloc ?_); refine ZOk.new' ?_; first | rfl | (simp; done)) | fail)))))
      | (go_at_call 47; (try have hlt3 := hz3.lt); have hW4 := (by assumption : Ext w1 _); obtain ⟨b', hr3⟩ := hr3; refine (solve_is HT.out (hr3.later (by simp (maxDischargeDepth := 8))) (ho3.later (by simp (maxDischargeDepth := 8))) (ratCols_lt hi ho) hcl).mono ?_; rintro e w4 ⟨u, rfl, hx4, hs4⟩; obtain ⟨Av, nv, cv, Bo, nb, cb, mb, d, rfl⟩ := hs4.form; have hx14 := Ext.trans hW4 hx4; have hle4 := hx14.le; (try ((refine (fun (hz4 : ZOk w4 w1.heap.size) => ?_) (ZOk.ext ?_ hx4); rotate_left; focus (first | (assumption) | (refine ZOk.new' ?_; first | rfl | (simp; done)) | (refine ZOk.alloc ?_; assumption) | (refine ZOk.alloc ?_; refine ZOk.new' ?_; first | rfl | (simp; done)) | (refine ZOk.alloc (ZOk.alloc ?_); assumption) | (refine ZOk.alloc (ZOk.alloc ?_); refine ZOk.new' ?_; first | rfl | (simp; done)) | (refine ZOk.drew ?_; assumption) | (refine ZOk.drew ?_; refine ZOk.new' ?_; first | rfl | (simp; done)) | (refine ZOk.drew ?_; refine ZOk.alloc ?_; assumption) | (refine ZOk.drew ?_; refine ZOk.alloc ?_; refine ZOk.new' ?_; first | rfl | (simp; done)) | (refine ZOk.drew ?_; refine ZOk.alloc (ZOk.alloc ?_); assumption) | (refine ZOk.drew ?_; refine ZOk.alloc (ZOk.alloc ?_); refine ZOk.new' ?_; first | rfl | (simp; done)) | fail)))); (try ((refine (fun (hz4 : ZOk w4 (w1.heap.size + 1)) => ?_) (ZOk.ext ?_ hx4); rotate_left; focus (first | (assumption) | (refine ZOk.new' ?_; first | rfl | (simp; done)) | (refine ZOk.alloc ?_; assumption) | (refine ZOk.alloc ?_; refine ZOk.new' ?_; first | rfl | (simp; done)) | (refine ZOk.alloc (ZOk.alloc ?_); assumption) | (refine ZOk.alloc (ZOk.alloc ?_); refine ZOk.new' ?_; first | rfl | (simp; done)) | (refine ZOk.drew ?_; assumption) | (refine ZOk.drew ?_; refine ZOk.new' ?_; first | rfl | (simp; done)) | (refine ZOk.drew ?_; refine ZOk.alloc ?_; assumption) | (refine ZOk.drew ?_; refine ZOk.alloc ?_; refine ZOk.new' ?_; first | rfl | (simp; done)) | (refine ZOk.drew ?_; refine ZOk.alloc (ZOk.alloc ?_); assumption) | (refine ZOk.drew ?_; refine ZOk.alloc (ZOk.alloc ?_); refine ZOk.new' ?_; first | rfl | (simp; done)) | fail)))); (try ((refine (fun (hz4 : ZOk w4 w2.heap.size) => ?_) (ZOk.ext ?_ hx4); rotate_left; focus (first | (assumption) | (refine ZOk.new' ?_; first | rfl | (simp; done)) | (refine ZOk.alloc ?_; assumption) | (refine ZOk.alloc ?_; refine ZOk.new' ?_; first | rfl | (simp; done)) | (refine ZOk.alloc (ZOk.alloc ?_); assumption) | (refine ZOk.alloc (ZOk.alloc ?_); refine ZOk.new' ?_; first | rfl | (simp; done)) | (refine ZOk.drew ?_; assumption) | (refine ZOk.drew ?_; refine ZOk.new' ?_; first | rfl | (simp; done)) | (refine ZOk.drew ?_; refine ZOk.alloc ?_; assumption) | (refine ZOk.drew ?_; refine ZOk.alloc ?_; refine ZOk.new' ?_; first | rfl | (simp; done)) | (refine ZOk.drew ?_; refine ZOk.alloc (ZOk.alloc ?_); assumption) | (refine ZOk.drew ?_; refine ZOk.alloc (ZOk.alloc ?_); refine ZOk.new' ?_; first | rfl | (simp; done)) | fail)))); (try ((refine (fun (hz4 : ZOk w4 (w2.heap.size + 1)) => ?_) (ZOk.ext ?_ hx4); rotate_left; focus (first | (assumption) | (refine ZOk.new' ?_; first | rfl | (simp; done)) | (refine ZOk.alloc ?_; assumption) | (refine ZOk.alloc ?_; refine ZOk.new' ?_; first | rfl | (simp; done)) | (refine ZOk.alloc (ZOk.alloc ?_); assumption) | (refine ZOk.alloc (ZOk.alloc ?_); refine ZOk.new' ?_; first | rfl | (simp; done)) | (refine ZOk.drew ?_; assumption) | (refine ZOk.drew ?_; refine ZOk.new' ?_; first | rfl | (simp; done)) | (refine ZOk.drew ?_; refine ZOk.alloc ?_; assumption) | (refine ZOk.drew ?_; refine ZOk.alloc ?_; refine ZOk.new' ?_; first | rfl | (simp; done)) | (refine ZOk.drew ?_; refine ZOk.alloc (ZOk.alloc ?_); assumption) | (refine ZOk.drew ?_; refine ZOk.alloc (ZOk.alloc ?_); refine ZOk.new' ?_; first | rfl | (simp; done)) | fail)))); (try ((refine (fun (hz4 : ZOk w4 w3.heap.size) => ?_) (ZOk.ext ?_ hx4); rotate_left; focus (first | (assumption) | (refine ZOk.new' ?_; first | rfl | (simp; done)) | (refine ZOk.alloc ?_; assumption) | (refine ZOk.alloc ?_; refine ZOk.new' ?_; first | rfl | (simp; done)) | (refine ZOk.alloc (ZOk.alloc ?_); assumption) | (refine ZOk.alloc (ZOk.alloc ?_); refine ZOk.new' ?_; first | rfl | (simp; done)) | (refine ZOk.drew ?_; assumption) | (refine ZOk.drew ?_; refine ZOk.new' ?_; first | rfl | (simp; done)) | (refine ZOk.drew ?_; refine ZOk.alloc ?_; assumption) | (refine ZOk.drew ?_; refine ZOk.alloc ?_; refine ZOk.new' ?_; first | rfl | (simp; done)) | (refine ZOk.drew ?_; refine ZOk.alloc (ZOk.alloc ?_); assumption) | (refine ZOk.drew ?_; refine ZOk.alloc (ZOk.alloc ?_); refine ZOk.new' ?_; first | rfl | (simp; done)) | fail)))); (try obtain ⟨z0, z1, z2, z3, zf⟩ := id hz4))
      | (go_at_call 49; have hW := (by assumption : Ext w1 _); refine (order_lit (x := (o : Int)) (y := (i : Int)) h8 ?_).mono ?_; (focus (first | (assumption) | (refine LOk.new' ?_; first | rfl | (simp; done)) | (refine LOk.alloc ?_; assumption) | (refine LOk.alloc ?_; refine LOk.new' ?_; first | rfl | (simp; done)) | (refine LOk.alloc (LOk.alloc ?_); assumption) | (refine LOk.alloc (LOk.alloc ?_); refine LOk.new' ?_; first | rfl | (simp; done)) | (refine LOk.drew ?_; assumption) | (refine LOk.drew ?_; refine LOk.new' ?_; first | rfl | (simp; done)) | (refine LOk.drew ?_; refine LOk.alloc ?_; assumption) | (refine LOk.drew ?_; refine LOk.alloc ?_; refine LOk.new' ?_; first | rfl | (simp; done)) | (refine LOk.drew ?_; refine LOk.alloc (LOk.alloc ?_); assumption) | (refine LOk.drew ?_; refine LOk.alloc (LOk.alloc ?_); refine LOk.new' ?_; first | rfl | (simp; done)) | fail)); rintro e w3 ⟨hlk, Ao, co, rfl, hoi, hg⟩; rw [ratCols_ord] at hoi; have ho3 : isNats (ratCols S i o) _ w3 := ⟨Ao, co, rfl, hoi⟩; rw [← ratCols_ord S i o] at ho3; have hx13 : Ext w1 w3 := OrdPair.ext hg hW (by (first | omega | (simp; done) | (simp; omega) | fail)); have hr3 := rows_then hh hr2 (by simp (maxDischargeDepth := 8)) hg (by (first | omega | (simp; done) | (simp; omega) | fail)) (by (first | (refine Or.inl ?_; (first | omega | (simp; done) | (simp; omega) | fail)) | (refine Or.inr ?_; (first | omega | (simp; done) | (simp; omega) | fail)) | fail)); have hle3 := hx13.le; (try ((refine (fun (hz3 : ZOk w3 w1.heap.size) => ?_) (ZOk.grown ?_ hlk.c0 hg); rotate_left; focus (first | (assumption) | (refine ZOk.new' ?_; first | rfl | (simp; done)) | (refine ZOk.alloc ?_; assumption) | (refine ZOk.alloc ?_; refine ZOk.new' ?_; first | rfl | (simp; done)) | (refine ZOk.alloc (ZOk.alloc ?_); assumption) | (refine ZOk.alloc (ZOk.alloc ?_); refine ZOk.new' ?_; first | rfl | (simp; done)) | (refine ZOk.drew ?_; assumption) | (refine ZOk.drew ?_; refine ZOk.new' ?_; first | rfl | (simp; done)) | (refine ZOk.drew ?_; refine ZOk.alloc ?_; assumption) | (refine ZOk.drew ?_; refine ZOk.alloc ?_; refine ZOk.new' ?_; first | rfl | (simp; done)) | (refine ZOk.drew ?_; refine ZOk.alloc (ZOk.alloc ?_); assumption) | (refine ZOk.drew ?_; refine ZOk.alloc (ZOk.alloc ?_); refine ZOk.new' ?_; first | rfl | (simp; done)) | fail)))); (try ((refine (fun (hz3 : ZOk w3 (w1.heap.size + 1)) => ?_) (ZOk.grown ?_ hlk.c0 hg); rotate_left; focus (first | (assumption) | (refine ZOk.new' ?_; first | rfl | (simp; done)) | (refine ZOk.alloc ?_; assumption) | (refine ZOk.alloc ?_; refine ZOk.new' ?_; first | rfl | (simp; done)) | (refine ZOk.alloc (ZOk.alloc ?_); assumption) | (refine ZOk.alloc (ZOk.alloc ?_); refine ZOk.new' ?_; first | rfl | (simp; done)) | (refine ZOk.drew ?_; assumption) | (refine ZOk.drew ?_; refine ZOk.new' ?_; first | rfl | (simp; done)) | (refine ZOk.drew ?_; refine ZOk.alloc ?_; assumption) | (refine ZOk.drew ?_; refine ZOk.alloc ?_; refine ZOk.new' ?_; first | rfl | (simp; done)) | (refine ZOk.drew ?_; refine ZOk.alloc (ZOk.alloc ?_); assumption) | (refine ZOk.drew ?_; refine ZOk.alloc (ZOk.alloc ?_); refine ZOk.new' ?_; first | rfl | (simp; done)) | fail)))); (try ((refine (fun (hz3 : ZOk w3 w2.heap.size) => ?_) (ZOk.grown ?_ hlk.c0 hg); rotate_left; focus (first | (assumption) | (refine ZOk.new' ?_; first | rfl | (simp; done)) | (refine ZOk.alloc ?_; assumption) | (refine ZOk.alloc ?_; refine ZOk.new' ?_; first | rfl | (simp; done)) | (refine ZOk.alloc (ZOk.alloc ?_); assumption) | (refine ZOk.alloc (ZOk.alloc ?_); refine ZOk.new' ?_; first | rfl | (simp; done)) | (refine ZOk.drew ?_; assumption) | (refine ZOk.drew ?_; refine ZOk.new' ?_; first | rfl | (simp; done)) | (refine ZOk.drew ?_; refine ZOk.alloc ?_; assumption) | (refine ZOk.drew ?_; refine ZOk.alloc ?_; refine ZOk.new' ?_; first | rfl | (simp; done)) | (refine ZOk.drew ?_; refine ZOk.alloc (ZOk.alloc ?_); assumption) | (refine ZOk.drew ?_; refine ZOk.alloc (ZOk.alloc ?_); refine ZOk.new' ?_; first | rfl | (simp; done)) | fail)))); (try ((refine (fun (hz3 : ZOk w3 (w2.heap.size + 1)) => ?_) (ZOk.grown ?_ hlk.c0 hg); rotate_left; focus (first | (assumption) | (refine ZOk.new' ?_; first | rfl | (simp; done)) | (refine ZOk.alloc ?_; assumption) | (refine ZOk.alloc ?_; refine ZOk.new' ?_; first | rfl | (simp; done)) | (refine ZOk.alloc (ZOk.alloc ?_); assumption) | (refine ZOk.alloc (ZOk.alloc ?_); refine ZOk.new' ?_; first | rfl | (simp; done)) | (refine ZOk.drew ?_; assumption) | (refine ZOk.drew ?_; refine ZOk.new' ?_; first | rfl | (simp; done)) | (refine ZOk.drew ?_; refine ZOk.alloc ?_; assumption) | (refine ZOk.drew ?_; refine ZOk.alloc ?_; refine ZOk.new' ?_; first | rfl | (simp; done)) | (refine ZOk.drew ?_; refine ZOk.alloc (ZOk.alloc ?_); assumption) | (refine ZOk.drew ?_; refine ZOk.alloc (ZOk.alloc ?_); refine ZOk.new' ?_; first | rfl | (simp; done)) | fail))))))
    all_goals
      refine ⟨rfl, _, _, _, _, _, _, _, _, rfl, ?_⟩
      first
        | exact fin_new hW4 hs4 hx14
        | (refine fin_old hW4 hs4 hz4 hx14 ?_ ?_ <;> (first | omega | (simp; done) | (simp; omega) | fail))
end Go.Proofs.YtebkhdhhajjhfaaGreat.Gr
