/- The law TopShaft's walk: the panel is turned. -/
import Derived.Test.YtebkhdhhajjhfaaGreatTFd
namespace Go.Proofs.YtebkhdhhajjhfaaGreat.Lt
open Go.RowKit
theorem neq_ce (a0 a1 a2 : Int) (w : World) : (binOp .neq 60 (.agg #[.int .i64 a0, .int .i64 a1, .int .i64 a2]) (.agg #[.int .i64 a0, .int .i64 a1, .int .i64 a2])).run Tryz.prog w = .ok (.bool false) w := by
  simp [go_sem]
theorem rotS_zero (s : Sp) : rotS 0 s = s := by simp [rotS, cosT, sinT]
theorem prod_bound {a b : Int} (ha : -1048576 ≤ a ∧ a ≤ 1048576) (hb : -1073741824 ≤ b ∧ b ≤ 1073741824) : -1125899906842624 ≤ a * b ∧ a * b ≤ 1125899906842624 := by
  have h1 : (a * b).natAbs ≤ 1048576 * 1073741824 := by rw [Int.natAbs_mul]; exact Nat.mul_le_mul (by omega) (by omega)
  omega
section
variable {A : Option Addr} {c : Nat} {s i o turns num den : Int} {ms : List Gr.Msh} {B : Option Addr} {p : List Sp} {d : Nat} {w : World}
set_option maxRecDepth 100000 in
set_option maxHeartbeats 2000000 in
theorem shaft_over1 (hA : Gr.MRow w A ms) (hB : SRow w B p) (hm : ms.length ≤ 30) (hn : p.length ≤ 20) (ht1 : -1048576 ≤ turns) (ht2 : turns ≤ 1048576) (h : HasRat s ms i o num den) (hev : turns.tmod den = 0) (hgood : panelP p) (hbig : 1073741824 < num) : ShaftYes A c s i o turns ms B p d w := by
  have hfit := h.fit
  have hal := fun w' => alive_any w'
  have hg := fun w' => great_train A c ms.length s w'
  have h3 := fun w' (he : Ext w w') => ratio_say (c := c) (hA.ext he) (by omega) h
  obtain ⟨t, ht4', hz⟩ := shZ_nat turns num den
  obtain ⟨hev4, hz4⟩ := shZ_four (turns := turns) (num := num) (den := den) hfit.2.2 hev
  have h1 := fun w' (he : Ext w w') => shafted_good (c := c) (d := d) (hA.ext he) (by omega) h hev ⟨by omega, by omega⟩ (hB.ext he) (by omega) hgood ht4' hz
  have h2 := fun w' (he : Ext w w') => shafted_good (c := c) (d := d) (turns := 4 * turns) (t := 0) (hA.ext he) (by omega) h hev4 ⟨by omega, by omega⟩ (hB.ext he) (by omega) hgood (by omega) hz4
  have Hal := Lib.hid hal
  have Hg := Lib.hid hg
  have Hs1 := Lib.hid h1
  have Hs2 := Lib.hid h2
  have Hr := Lib.hid h3
  have kb : Blk (w.alloc (.cells #[.int .i64 s, .slice A ms.length c] 46)) w.heap.size [.int .i64 s, .slice A ms.length c] := Blk.new _ _
  have z0 := kb.at_ 0 rfl
  have z1 := kb.at_ 1 rfl
  have H0 := Lib.hid (show Ext w (w.alloc (.cells #[.int .i64 s, .slice A ms.length c] 46)) from (Ext.refl _).alloc _)
  clear hal hg kb h1 h2 h3 hA hB h
  unfold ShaftYes
  generalize ms.length = m at *
  generalize p.length = n at *
  have hg1 : decide ((30 : Int) < (m : Int)) = false := decide_eq_false (by omega)
  have hn2 : ¬ (20 : Int) < (n : Int) := by omega
  have ht3 : ¬ turns < -1048576 := by omega
  have ht4 : ¬ 1048576 < turns := by omega
  have hw4 : IntKind.i64.wrap (4 * turns) = 4 * turns := by rw [IntKind.wrap_i64]; omega
  have hd1 : ¬ den < 1 := by omega
  have hd0 : den ≠ 0 := by omega
  clear hfit ht1 ht2 hm hn hev hev4 hz hz4 hgood
  go_enter Tryz.func5, Tryz.ntmps5
  go_wp2_with (first
    | (go_at_call 13; refine (Hal.out _).mono ?_; rintro e w1 ⟨rfl, hx1⟩; have y0 := fun w' (he : Ext w1 w') => z0 w' (hx1.trans he); have y1 := fun w' (he : Ext w1 w') => z1 w' (hx1.trans he); have H1 := Lib.hid (H0.out.trans hx1); clear z0 z1 hx1)
    | (go_at_call 15; refine (Hg.out _).mono ?_; rintro e w2 ⟨rfl, hx2⟩; have v0 := fun w' (he : Ext w2 w') => y0 w' (hx2.trans he); have v1 := fun w' (he : Ext w2 w') => y1 w' (hx2.trans he); have H2 := Lib.hid (H1.out.trans hx2); clear y0 y1 hx2)
    | (go_at_call 17; refine (Hr.out _ H4.out).mono ?_; rintro e w5 ⟨B1, B2, B3, r1, d1, r2, d2, r3, d3, rfl, hx5⟩; have H5 := Lib.hid (H4.out.trans hx5); clear q0 q1 hx5)
    | (go_at_call 16; have hq := H3; clear hq; refine (Hs2.out _ H3.out).mono ?_; rintro e w4 ⟨X2, x2, rfl, hx4, _⟩; have q0 := fun w' (he : Ext w4 w') => u0 w' (hx4.trans he); have q1 := fun w' (he : Ext w4 w') => u1 w' (hx4.trans he); have H4 := Lib.hid (H3.out.trans hx4); clear u0 u1 hx4)
    | (go_at_call 16; refine (Hs1.out _ H2.out).mono ?_; rintro e w3 ⟨X, x, rfl, hx3, _⟩; have u0 := fun w' (he : Ext w3 w') => v0 w' (hx3.trans he); have u1 := fun w' (he : Ext w3 w') => v1 w' (hx3.trans he); have H3 := Lib.hid (H2.out.trans hx3); clear v0 v1 hx3))
  go_ret
  exact ⟨rfl, H5.out.alloc _⟩
set_option maxRecDepth 100000 in
set_option maxHeartbeats 2000000 in
theorem shaft_over2 (hA : Gr.MRow w A ms) (hB : SRow w B p) (hm : ms.length ≤ 30) (hn : p.length ≤ 20) (ht1 : -1048576 ≤ turns) (ht2 : turns ≤ 1048576) (h : HasRat s ms i o num den) (hev : turns.tmod den = 0) (hgood : panelP p) (hbig : num < -1073741824) : ShaftYes A c s i o turns ms B p d w := by
  have hfit := h.fit
  have hal := fun w' => alive_any w'
  have hg := fun w' => great_train A c ms.length s w'
  have h3 := fun w' (he : Ext w w') => ratio_say (c := c) (hA.ext he) (by omega) h
  obtain ⟨t, ht4', hz⟩ := shZ_nat turns num den
  obtain ⟨hev4, hz4⟩ := shZ_four (turns := turns) (num := num) (den := den) hfit.2.2 hev
  have h1 := fun w' (he : Ext w w') => shafted_good (c := c) (d := d) (hA.ext he) (by omega) h hev ⟨by omega, by omega⟩ (hB.ext he) (by omega) hgood ht4' hz
  have h2 := fun w' (he : Ext w w') => shafted_good (c := c) (d := d) (turns := 4 * turns) (t := 0) (hA.ext he) (by omega) h hev4 ⟨by omega, by omega⟩ (hB.ext he) (by omega) hgood (by omega) hz4
  have Hal := Lib.hid hal
  have Hg := Lib.hid hg
  have Hs1 := Lib.hid h1
  have Hs2 := Lib.hid h2
  have Hr := Lib.hid h3
  have kb : Blk (w.alloc (.cells #[.int .i64 s, .slice A ms.length c] 46)) w.heap.size [.int .i64 s, .slice A ms.length c] := Blk.new _ _
  have z0 := kb.at_ 0 rfl
  have z1 := kb.at_ 1 rfl
  have H0 := Lib.hid (show Ext w (w.alloc (.cells #[.int .i64 s, .slice A ms.length c] 46)) from (Ext.refl _).alloc _)
  clear hal hg kb h1 h2 h3 hA hB h
  unfold ShaftYes
  generalize ms.length = m at *
  generalize p.length = n at *
  have hg1 : decide ((30 : Int) < (m : Int)) = false := decide_eq_false (by omega)
  have hn2 : ¬ (20 : Int) < (n : Int) := by omega
  have ht3 : ¬ turns < -1048576 := by omega
  have ht4 : ¬ 1048576 < turns := by omega
  have hw4 : IntKind.i64.wrap (4 * turns) = 4 * turns := by rw [IntKind.wrap_i64]; omega
  have hd1 : ¬ den < 1 := by omega
  have hd0 : den ≠ 0 := by omega
  have hbig2 : ¬ 1073741824 < num := by omega
  clear hfit ht1 ht2 hm hn hev hev4 hz hz4 hgood
  go_enter Tryz.func5, Tryz.ntmps5
  go_wp2_with (first
    | (go_at_call 13; refine (Hal.out _).mono ?_; rintro e w1 ⟨rfl, hx1⟩; have y0 := fun w' (he : Ext w1 w') => z0 w' (hx1.trans he); have y1 := fun w' (he : Ext w1 w') => z1 w' (hx1.trans he); have H1 := Lib.hid (H0.out.trans hx1); clear z0 z1 hx1)
    | (go_at_call 15; refine (Hg.out _).mono ?_; rintro e w2 ⟨rfl, hx2⟩; have v0 := fun w' (he : Ext w2 w') => y0 w' (hx2.trans he); have v1 := fun w' (he : Ext w2 w') => y1 w' (hx2.trans he); have H2 := Lib.hid (H1.out.trans hx2); clear y0 y1 hx2)
    | (go_at_call 17; refine (Hr.out _ H4.out).mono ?_; rintro e w5 ⟨B1, B2, B3, r1, d1, r2, d2, r3, d3, rfl, hx5⟩; have H5 := Lib.hid (H4.out.trans hx5); clear q0 q1 hx5)
    | (go_at_call 16; have hq := H3; clear hq; refine (Hs2.out _ H3.out).mono ?_; rintro e w4 ⟨X2, x2, rfl, hx4, _⟩; have q0 := fun w' (he : Ext w4 w') => u0 w' (hx4.trans he); have q1 := fun w' (he : Ext w4 w') => u1 w' (hx4.trans he); have H4 := Lib.hid (H3.out.trans hx4); clear u0 u1 hx4)
    | (go_at_call 16; refine (Hs1.out _ H2.out).mono ?_; rintro e w3 ⟨X, x, rfl, hx3, _⟩; have u0 := fun w' (he : Ext w3 w') => v0 w' (hx3.trans he); have u1 := fun w' (he : Ext w3 w') => v1 w' (hx3.trans he); have H3 := Lib.hid (H2.out.trans hx3); clear v0 v1 hx3))
  go_ret
  exact ⟨rfl, H5.out.alloc _⟩
set_option maxRecDepth 100000 in
set_option maxHeartbeats 2000000 in
theorem shaft_turned (hA : Gr.MRow w A ms) (hB : SRow w B p) (hm : ms.length ≤ 30) (hn : p.length ≤ 20) (ht1 : -1048576 ≤ turns) (ht2 : turns ≤ 1048576) (h : HasRat s ms i o num den) (hev : turns.tmod den = 0) (hgood : panelP p) (hnb : -1073741824 ≤ num ∧ num ≤ 1073741824) : ShaftYes A c s i o turns ms B p d w := by
  have hfit := h.fit
  have hal := fun w' => alive_any w'
  have hg := fun w' => great_train A c ms.length s w'
  have h3 := fun w' (he : Ext w w') => ratio_say (c := c) (hA.ext he) (by omega) h
  obtain ⟨t, ht4', hz⟩ := shZ_nat turns num den
  obtain ⟨hev4, hz4⟩ := shZ_four (turns := turns) (num := num) (den := den) hfit.2.2 hev
  have h1 := fun w' (he : Ext w w') => shafted_good (c := c) (d := d) (hA.ext he) (by omega) h hev ⟨by omega, by omega⟩ (hB.ext he) (by omega) hgood ht4' hz
  have h2 := fun w' (he : Ext w w') => shafted_good (c := c) (d := d) (turns := 4 * turns) (t := 0) (hA.ext he) (by omega) h hev4 ⟨by omega, by omega⟩ (hB.ext he) (by omega) hgood (by omega) hz4
  have hz' := hz
  rw [shZ_mod] at hz'
  have hpa := fun k (hk : k < p.length) => hB.at_ hk
  have hxa := fun w' X (hX : SRow w' X (p.map (rotS t))) k (hk : k < p.length) => (show ∃ ad, X = some ad ∧ _ from (hX.at_ (show k < (p.map (rotS t)).length by rw [List.length_map]; exact hk)))
  have hfa := fun w' X (hX : SRow w' X (p.map (rotS 0))) k (hk : k < p.length) => (show ∃ ad, X = some ad ∧ _ from (hX.at_ (show k < (p.map (rotS 0)).length by rw [List.length_map]; exact hk)))
  have hpt := fun k (hk : k < p.length) => (show ptA (p.map (rotS t)) k = rotS t (ptA p k) ∧ ptA (p.map (rotS 0)) k = ptA p k ∧ spotB (ptA p k) from ⟨by rw [ptA_at hk, ptA_at (by rw [List.length_map]; exact hk), List.getElem_map], by rw [ptA_at hk, ptA_at (by rw [List.length_map]; exact hk), List.getElem_map, rotS_zero], hgood.spot hk⟩)
  have htu := fun q (hq : spotB q) w' => turno_any ⟨q.x, q.y, 0⟩ t (by omega) w' (by unfold spotB at hq; unfold nearP; simp only; omega)
  have htf := fun q => turnC_flat ht4' q
  have Hpa := Lib.hid hpa
  have Hxa := Lib.hid hxa
  have Hfa := Lib.hid hfa
  have Hpt := Lib.hid hpt
  have Htu := Lib.hid htu
  have Htf := Lib.hid htf
  have Hal := Lib.hid hal
  have Hg := Lib.hid hg
  have Hs1 := Lib.hid h1
  have Hs2 := Lib.hid h2
  have Hr := Lib.hid h3
  have kb : Blk (w.alloc (.cells #[.int .i64 s, .slice A ms.length c] 46)) w.heap.size [.int .i64 s, .slice A ms.length c] := Blk.new _ _
  have z0 := kb.at_ 0 rfl
  have z1 := kb.at_ 1 rfl
  have H0 := Lib.hid (show Ext w (w.alloc (.cells #[.int .i64 s, .slice A ms.length c] 46)) from (Ext.refl _).alloc _)
  clear hal hg kb h1 h2 h3 hA hB h hpa hxa hfa hpt htu htf
  unfold ShaftYes
  generalize ms.length = m at *
  generalize p.length = n at *
  have hg1 : decide ((30 : Int) < (m : Int)) = false := decide_eq_false (by omega)
  have hn2 : ¬ (20 : Int) < (n : Int) := by omega
  have ht3 : ¬ turns < -1048576 := by omega
  have ht4 : ¬ 1048576 < turns := by omega
  have hw4 : IntKind.i64.wrap (4 * turns) = 4 * turns := by rw [IntKind.wrap_i64]; omega
  have hd1 : ¬ den < 1 := by omega
  have hd0 : den ≠ 0 := by omega
  have hb1 : ¬ 1073741824 < num := by omega
  have hb2 : ¬ num < -1073741824 := by omega
  obtain ⟨a, ha⟩ : ∃ a, a = turns.tdiv den := ⟨_, rfl⟩
  have ha2 : -1048576 ≤ a ∧ a ≤ 1048576 := by
    have h0 := Int.natAbs_tdiv turns den
    rw [← ha] at h0
    have h1 : a.natAbs ≤ turns.natAbs := by rw [h0]; exact Nat.div_le_self _ _
    omega
  have hpb := prod_bound ha2 hnb
  obtain ⟨f, hf⟩ : ∃ f, f = a * num := ⟨_, rfl⟩
  rw [← ha, ← hf] at hz'
  rw [← hf] at hpb
  obtain ⟨g, hg⟩ : ∃ g, g = f.tmod 4 := ⟨_, rfl⟩
  have hg2 := tmod4 f
  rw [← hg] at hg2
  have hgt : (g + 4).tmod 4 = (t : Int) := by rw [hg, shN, hz']
  have v1' : IntKind.i64.wrap a = a := by rw [IntKind.wrap_i64]; omega
  have v4' : IntKind.i64.wrap f = f := by rw [IntKind.wrap_i64]; omega
  have v5' : IntKind.i64.wrap g = g := by rw [IntKind.wrap_i64]; omega
  have v6' : wrap64 f = f := by unfold wrap64; omega
  have v7' : IntKind.i64.wrap (g + 4) = g + 4 := by rw [IntKind.wrap_i64]; omega
  have v8' : IntKind.i64.wrap (t : Int) = (t : Int) := by rw [IntKind.wrap_i64]; omega
  replace ha := ha.symm
  replace hf := hf.symm
  replace hg := hg.symm
  have hlen2 : n ≤ 20 := hn
  clear hfit ht1 ht2 hm hn hev hev4 hz hz4 hz' hgood hnb ha2 hpb hg2
  go_enter Tryz.func5, Tryz.ntmps5
  go_wp2_with (first
    | (go_at_call 13; refine (Hal.out _).mono ?_; rintro e w1 ⟨rfl, hx1⟩; have y0 := fun w' (he : Ext w1 w') => z0 w' (hx1.trans he); have y1 := fun w' (he : Ext w1 w') => z1 w' (hx1.trans he); have H1 := Lib.hid (H0.out.trans hx1); clear z0 z1 hx1)
    | (go_at_call 15; refine (Hg.out _).mono ?_; rintro e w2 ⟨rfl, hx2⟩; have v0 := fun w' (he : Ext w2 w') => y0 w' (hx2.trans he); have v1 := fun w' (he : Ext w2 w') => y1 w' (hx2.trans he); have H2 := Lib.hid (H1.out.trans hx2); clear y0 y1 hx2)
    | (go_at_call 17; refine (Hr.out _ H4.out).mono ?_; rintro e w5 ⟨B1, B2, B3, r1, d1, r2, d2, r3, d3, rfl, hx5⟩; have H5 := Lib.hid (H4.out.trans hx5); have HX5 := Lib.hid (HX34.out.ext hx5); have HX6 := Lib.hid (HX4.out.ext hx5); clear q0 q1 hx5)
    | (go_at_call 16; have hq := H3; clear hq; refine (Hs2.out _ H3.out).mono ?_; rintro e w4 ⟨X2, x2, rfl, hx4, hX4⟩; have q0 := fun w' (he : Ext w4 w') => u0 w' (hx4.trans he); have q1 := fun w' (he : Ext w4 w') => u1 w' (hx4.trans he); have H4 := Lib.hid (H3.out.trans hx4); have HX4 := Lib.hid hX4; have HX34 := Lib.hid (HX3.out.ext hx4); clear hX4; clear u0 u1 hx4)
    | (go_at_call 16; refine (Hs1.out _ H2.out).mono ?_; rintro e w3 ⟨X, x, rfl, hx3, hX3⟩; have u0 := fun w' (he : Ext w3 w') => v0 w' (hx3.trans he); have u1 := fun w' (he : Ext w3 w') => v1 w' (hx3.trans he); have H3 := Lib.hid (H2.out.trans hx3); have HX3 := Lib.hid hX3; clear hX3; clear v0 v1 hx3))
  have hxb := (Ext.refl w5).alloc (.cells #[.slice B1 r1 d1, .slice B2 r2 d2, .slice B3 r3 d3] 53)
  have H7 := Lib.hid (H5.out.trans hxb)
  have hxx := Hxa.out _ _ (HX5.out.ext hxb)
  have hff := Hfa.out _ _ (HX6.out.ext hxb)
  have Hxx := Lib.hid hxx
  have Hff := Lib.hid hff
  clear hxb hxx hff H0 H1 H2 H3 H4 H5 HX3 HX4 HX34 HX5 HX6 Hxa Hfa Hal Hg Hs1 Hs2 Hr
  generalize (w5.alloc (.cells #[.slice B1 r1 d1, .slice B2 r2 d2, .slice B3 r3 d3] 53)) = W0 at *
  clear ha hf hg hgt hb1 hb2 hd1 hd0 hw4 ht3 ht4 hn2 hg1
  go_loopw [144] (fun i wr => ∃ k : Nat, k ≤ n ∧ i = .int .i64 k ∧ Ext W0 wr) (fun i _ => n - (intOf i).toNat)
  case atStart => exact ⟨0, by omega, rfl, Ext.refl _⟩
  case round =>
    obtain ⟨k, hk, rfl, hex⟩ := hrel
    by_cases hlt : k < n
    · have hki : (k : Int) < (n : Int) := by omega
      obtain ⟨ad, rfl, x0, x1⟩ := Hpa.out k hlt
      obtain ⟨cd, rfl, y0, y1⟩ := Hxx.out k hlt
      obtain ⟨fd, rfl, z0, z1⟩ := Hff.out k hlt
      obtain ⟨e1, e2, e3⟩ := Hpt.out k hlt
      have htu := Htu.out _ e3
      rw [Htf.out] at htu
      rw [e1] at y0 y1
      rw [e2] at z0 z1
      have hxw := H7.out.trans hex
      have u0 := fun w' he => x0 w' (hxw.trans he)
      have u1 := fun w' he => x1 w' (hxw.trans he)
      have Hv := Lib.hid (And.intro (fun w' (he : Ext wr w') => y0 w' (hex.trans he)) (And.intro (fun w' (he : Ext wr w') => y1 w' (hex.trans he)) (And.intro (fun w' (he : Ext wr w') => z0 w' (hex.trans he)) (fun w' (he : Ext wr w') => z1 w' (hex.trans he)))))
      have Hx := Lib.hid hex
      clear x0 x1 y0 y1 z0 z1 e1 e2 e3 hxw hex Hpt Hpa Hxx Hff Htu Htf
      generalize rotS t (ptA p k) = q at htu Hv
      generalize ptA p k = s' at htu Hv u0 u1
      obtain ⟨px, py⟩ := s'
      obtain ⟨qx, qy⟩ := q
      simp only at htu Hv u0 u1
      have Ht := Lib.hid htu
      have w5' : IntKind.i64.wrap ((k : Int) + 1) = ((k + 1 : Nat) : Int) := by rw [IntKind.wrap_i64]; omega
      have kb : Blk (wr.alloc (.cells #[.int .i64 px, .int .i64 py] 58)) wr.heap.size [.int .i64 px, .int .i64 py] := Blk.new _ _
      have hx0 : Ext wr (wr.alloc (.cells #[.int .i64 px, .int .i64 py] 58)) := (Ext.refl _).alloc _
      have b0 := kb.at_ 0 rfl
      have b1 := kb.at_ 1 rfl
      have HX0 := Lib.hid hx0
      clear kb hx0 htu
      go_wp2_with (go_at_call 19; refine (Ht.out _).mono ?_; rintro e w6 ⟨rfl, hx6⟩; have d0 := fun w' (he : Ext w6 w') => b0 w' (hx6.trans he); have d1 := fun w' (he : Ext w6 w') => b1 w' (hx6.trans he); have HX6 := Lib.hid (HX0.out.trans hx6); clear b0 b1 hx6 u0 u1)
      have k9 : Blk (w6.alloc (.cells #[.int .i64 qx, .int .i64 qy, .int .i64 0] 60)) w6.heap.size [.int .i64 qx, .int .i64 qy, .int .i64 0] := Blk.new _ _
      have hx9 := (Ext.refl w6).alloc (.cells #[.int .i64 qx, .int .i64 qy, .int .i64 0] 60)
      have hxr := HX6.out.trans hx9
      have j0 := k9.at_ 0 rfl
      have j1 := k9.at_ 1 rfl
      have j2 := k9.at_ 2 rfl
      have s0 := fun w' he => d0 w' (hx9.trans he)
      have s1 := fun w' he => d1 w' (hx9.trans he)
      have y0 := fun w' he => Hv.out.1 w' (hxr.trans he)
      have y1 := fun w' he => Hv.out.2.1 w' (hxr.trans he)
      have z0 := fun w' he => Hv.out.2.2.1 w' (hxr.trans he)
      have z1 := fun w' he => Hv.out.2.2.2 w' (hxr.trans he)
      have HX9 := Lib.hid hxr
      have hne := neq_ce qx qy 0
      have hns := neq_Sp px py
      clear d0 d1 hx9 hxr k9 Hv
      generalize (w6.alloc (.cells #[.int .i64 qx, .int .i64 qy, .int .i64 0] 60)) = W9 at *
      refine Cg.wp_region_calm (p := Cg.extPre) (fr := (fun _ => false)) 25 (fun _ _ _ _ => True) (fun _ _ _ _ _ _ h => h) (by kernel_rfl) (by kernel_rfl) ?_
      simp only [List.take_succ_cons, List.take_zero, List.drop_succ_cons, List.drop_zero]
      refine Cg.calm_quiet Cg.calm_mono_final W9 (fun _ h => h) 14 (by kernel_rfl) ?_
      simp only [List.take_succ_cons, List.take_zero, List.drop_succ_cons, List.drop_zero]
      repeat (go_big_quiet_step (fail))
      refine wpQuiet_nil ?_
      refine Cg.calm_value Cg.calm_mono_final (fun v _ => v = .agg #[.int .i64 qx, .int .i64 qy, .int .i64 0]) (fun _ _ _ _ h => h) rfl (fun w' hR _ => ⟨_, w', by go_simp, Ext.refl _, rfl, fun hf => by cases hf⟩) ?_
      rintro _ _ _ rfl _
      simp only [Act.put, List.setIfInBounds_toArray, List.set_cons_succ, List.set_cons_zero]
      refine Cg.calm_quiet Cg.calm_mono_final W9 (fun _ h => h) 10 (by kernel_rfl) ?_
      simp only [List.take_succ_cons, List.take_zero, List.drop_succ_cons, List.drop_zero]
      repeat (go_big_quiet_step (fail))
      refine wpQuiet_nil ?_
      refine Cg.calm_nil fun w3 he3 _ => ?_
      have he3 : Ext W9 w3 := he3
      have HW3 := Lib.hid (Hx.out.trans (HX9.out.trans he3))
      clear he3 s0 s1 y0 y1 z0 z1 j0 j1 j2 hne hns
      go_wp2
      go_roundw
      case rel => exact ⟨k + 1, by omega, by go_num, HW3.out⟩
      case measure => simp [intOf]; omega
    · obtain rfl : n = k := by omega
      go_wp2
      go_ret
      exact ⟨rfl, H7.out.trans hex⟩
end
end Go.Proofs.YtebkhdhhajjhfaaGreat.Lt
