/- The law TopShaft's walk: trains that have a ratio. -/
import Derived.Test.YtebkhdhhajjhfaaGreatTFc
namespace Go.Proofs.YtebkhdhhajjhfaaGreat.Lt
open Go.RowKit
section
variable {A : Option Addr} {c : Nat} {s i o turns num den : Int} {ms : List Gr.Msh} {B : Option Addr} {p : List Sp} {d : Nat} {w : World}
theorem ratio_say (hA : Gr.MRow w A ms) (hl : ms.length ≤ 1000) (h : HasRat s ms i o num den) : Calls Tryz.prog 17 #[.agg #[.int .i64 s, .slice A ms.length c], .int .i64 i, .int .i64 o] w fun e w' => ∃ (B1 B2 B3 : Option Addr) (r1 d1 r2 d2 r3 d3 : Nat), e = .returned (.tuple #[.int .i64 num, .int .i64 den, .agg #[.slice B1 r1 d1, .slice B2 r2 d2, .slice B3 r3 d3], .int .i64 0]) ∧ Ext w w' :=
  (ratio_yes A c s i o num den ms w hA hl h).mono fun _ _ ⟨B1, B2, B3, r1, d1, r2, d2, r3, d3, he, hx, _⟩ => ⟨B1, B2, B3, r1, d1, r2, d2, r3, d3, he, hx⟩
theorem shZ_nat (turns num den : Int) : ∃ t : Nat, t < 4 ∧ shZ turns num den % 4 = t := ⟨(shZ turns num den % 4).toNat, by omega, by omega⟩
/-- Whatever the turns: some slice, some answer. -/
theorem shafted_any (hA : Gr.MRow w A ms) (hl : ms.length ≤ 1000) (h : HasRat s ms i o num den) (ht : -100000000 ≤ turns ∧ turns ≤ 100000000) (hB : SRow w B p) (hp : p.length ≤ 1000) :
    Calls Tryz.prog 16 #[.agg #[.int .i64 s, .slice A ms.length c], .int .i64 i, .int .i64 o, .int .i64 turns, .slice B p.length d] w fun e w' => ∃ v b, e = .returned (.tuple #[v, .bool b]) ∧ Ext w w' := by
  by_cases he : turns.tmod den = 0
  · obtain ⟨t, ht4, hz⟩ := shZ_nat turns num den
    exact (shafted_go A c s i o turns num den ms B p d t w hA hl h he ht hB hp ht4 hz).mono fun e w' ⟨v, e1, e2⟩ => ⟨v, _, e1, e2.ext⟩
  · exact (shafted_odd A c s i o turns num den ms B p.length d w hA hl h he).mono fun e w' ⟨e1, e2⟩ => ⟨_, _, e1, e2⟩
theorem shafted_bad (hA : Gr.MRow w A ms) (hl : ms.length ≤ 1000) (h : HasRat s ms i o num den) (he : turns.tmod den = 0) (ht : -100000000 ≤ turns ∧ turns ≤ 100000000) (hB : SRow w B p) (hp : p.length ≤ 1000) (hbad : ¬ panelP p) :
    Calls Tryz.prog 16 #[.agg #[.int .i64 s, .slice A ms.length c], .int .i64 i, .int .i64 o, .int .i64 turns, .slice B p.length d] w fun e w' => ∃ v, e = .returned (.tuple #[v, .bool false]) ∧ Ext w w' := by
  obtain ⟨t, ht4, hz⟩ := shZ_nat turns num den
  refine (shafted_go A c s i o turns num den ms B p d t w hA hl h he ht hB hp ht4 hz).mono fun e w' ⟨v, e1, e2⟩ => ⟨v, ?_, e2.ext⟩
  rw [e1, shaft_bad hbad]
  rfl
theorem shafted_good {t : Nat} (hA : Gr.MRow w A ms) (hl : ms.length ≤ 1000) (h : HasRat s ms i o num den) (he : turns.tmod den = 0) (ht : -100000000 ≤ turns ∧ turns ≤ 100000000) (hB : SRow w B p) (hp : p.length ≤ 1000) (hgood : panelP p) (ht4 : t < 4) (hz : shZ turns num den % 4 = t) :
    Calls Tryz.prog 16 #[.agg #[.int .i64 s, .slice A ms.length c], .int .i64 i, .int .i64 o, .int .i64 turns, .slice B p.length d] w fun e w' => ∃ X x, e = .returned (.tuple #[.slice X p.length x, .bool true]) ∧ Ext w w' ∧ SRow w' X (p.map (rotS t)) := by
  obtain ⟨e1, e2, e3⟩ := shaft_good hgood ht4
  have h := shafted_go A c s i o turns num den ms B p d t w hA hl h he ht hB hp ht4 hz
  rw [e1, e2, e3] at h
  refine h.mono ?_
  rintro e w' ⟨v, rfl, hv⟩
  obtain ⟨X, x, rfl⟩ := hv.form
  have hv2 := hv
  rw [List.length_map] at hv2
  refine ⟨X, x, by rw [List.length_map]; rfl, hv.ext, hv.row⟩
theorem panel_bad (hB : SRow w B p) (hp : p.length ≤ 1000) (hbad : ¬ panelP p) : Calls Tryz.prog 18 #[.slice B p.length d] w fun e w' => e = .returned (.int .i64 50) ∧ Ext w w' := by
  have h := check_panel B d p w hB hp
  rwa [show panelE p = 50 by unfold panelE panelB; simp [hbad]] at h

set_option maxRecDepth 100000 in
set_option maxHeartbeats 1000000 in
theorem shaft_odd (hA : Gr.MRow w A ms) (hB : SRow w B p) (hm : ms.length ≤ 30) (hn : p.length ≤ 20) (ht1 : -1048576 ≤ turns) (ht2 : turns ≤ 1048576) (h : HasRat s ms i o num den) (hodd : turns.tmod den ≠ 0) : ShaftYes A c s i o turns ms B p d w := by
  have hfit := h.fit
  have hal := fun w' => alive_any w'
  have hg := fun w' => great_train A c ms.length s w'
  have h3 := fun w' (he : Ext w w') => ratio_say (c := c) (hA.ext he) (by omega) h
  have h1 := fun w' (he : Ext w w') => shafted_odd A c s i o turns num den ms B p.length d w' (hA.ext he) (by omega) h hodd
  have h2 := fun w' (he : Ext w w') => shafted_any (c := c) (turns := 4 * turns) (d := d) (hA.ext he) (by omega) h ⟨by omega, by omega⟩ (hB.ext he) (by omega)
  have Hal := Lib.hid hal
  have Hg := Lib.hid hg
  have Hs1 := Lib.hid h1
  have Hs2 := Lib.hid h2
  have Hr := Lib.hid h3
  have kb : Blk (w.alloc (.cells #[.int .i64 s, .slice A ms.length c] 46)) w.heap.size [.int .i64 s, .slice A ms.length c] := Blk.new _ _
  have z0 := kb.at_ 0 rfl
  have z1 := kb.at_ 1 rfl
  have H0 := Lib.hid (show Ext w (w.alloc (.cells #[.int .i64 s, .slice A ms.length c] 46)) from (Ext.refl _).alloc _)
  clear hal hg kb h1 h2 h3 hA hB h
  unfold ShaftYes
  generalize ms.length = m at *
  generalize p.length = n at *
  have hg1 : decide ((30 : Int) < (m : Int)) = false := decide_eq_false (by omega)
  have hn2 : ¬ (20 : Int) < (n : Int) := by omega
  have ht3 : ¬ turns < -1048576 := by omega
  have ht4 : ¬ 1048576 < turns := by omega
  have hw4 : IntKind.i64.wrap (4 * turns) = 4 * turns := by rw [IntKind.wrap_i64]; omega
  have hd1 : ¬ den < 1 := by omega
  have hd0 : den ≠ 0 := by omega
  obtain ⟨q, hq⟩ : ∃ q, q = turns.tmod den := ⟨_, rfl⟩
  have hq' := hq.symm
  have hq2 : IntKind.i64.wrap q = q := by
    have h1 := Int.tmod_lt_of_pos turns (show 0 < den by omega)
    have h2 := Int.neg_tmod turns den
    have h3 := Int.tmod_lt_of_pos (-turns) (show 0 < den by omega)
    rw [IntKind.wrap_i64]
    omega
  rw [← hq] at hodd
  have hqb : (q != 0) = true := by simp [hodd]
  clear hq hfit ht1 ht2 hm hn
  go_enter Tryz.func5, Tryz.ntmps5
  go_wp2_with (first
    | (go_at_call 13; refine (Hal.out _).mono ?_; rintro e w1 ⟨rfl, hx1⟩; have y0 := fun w' (he : Ext w1 w') => z0 w' (hx1.trans he); have y1 := fun w' (he : Ext w1 w') => z1 w' (hx1.trans he); have H1 := Lib.hid (H0.out.trans hx1); clear z0 z1 hx1)
    | (go_at_call 15; refine (Hg.out _).mono ?_; rintro e w2 ⟨rfl, hx2⟩; have v0 := fun w' (he : Ext w2 w') => y0 w' (hx2.trans he); have v1 := fun w' (he : Ext w2 w') => y1 w' (hx2.trans he); have H2 := Lib.hid (H1.out.trans hx2); clear y0 y1 hx2)
    | (go_at_call 17; refine (Hr.out _ H4.out).mono ?_; rintro e w5 ⟨B1, B2, B3, r1, d1, r2, d2, r3, d3, rfl, hx5⟩; have H5 := Lib.hid (H4.out.trans hx5); clear q0 q1 hx5)
    | (go_at_call 16; have hq := H3; clear hq; refine (Hs2.out _ H3.out).mono ?_; rintro e w4 ⟨v, b, rfl, hx4⟩; have q0 := fun w' (he : Ext w4 w') => u0 w' (hx4.trans he); have q1 := fun w' (he : Ext w4 w') => u1 w' (hx4.trans he); have H4 := Lib.hid (H3.out.trans hx4); clear u0 u1 hx4)
    | (go_at_call 16; refine (Hs1.out _ H2.out).mono ?_; rintro e w3 ⟨rfl, hx3⟩; have u0 := fun w' (he : Ext w3 w') => v0 w' (hx3.trans he); have u1 := fun w' (he : Ext w3 w') => v1 w' (hx3.trans he); have H3 := Lib.hid (H2.out.trans hx3); clear v0 v1 hx3))
  go_ret
  exact ⟨rfl, H5.out.alloc _⟩
set_option maxRecDepth 100000 in
set_option maxHeartbeats 1000000 in
theorem shaft_flawed (hA : Gr.MRow w A ms) (hB : SRow w B p) (hm : ms.length ≤ 30) (hn : p.length ≤ 20) (ht1 : -1048576 ≤ turns) (ht2 : turns ≤ 1048576) (h : HasRat s ms i o num den) (hev : turns.tmod den = 0) (hbad : ¬ panelP p) : ShaftYes A c s i o turns ms B p d w := by
  have hfit := h.fit
  have hal := fun w' => alive_any w'
  have hg := fun w' => great_train A c ms.length s w'
  have h3 := fun w' (he : Ext w w') => ratio_say (c := c) (hA.ext he) (by omega) h
  have h1 := fun w' (he : Ext w w') => shafted_bad (c := c) (d := d) (hA.ext he) (by omega) h hev ⟨by omega, by omega⟩ (hB.ext he) (by omega) hbad
  have h2 := fun w' (he : Ext w w') => shafted_any (c := c) (turns := 4 * turns) (d := d) (hA.ext he) (by omega) h ⟨by omega, by omega⟩ (hB.ext he) (by omega)
  have h4 := fun w' (he : Ext w w') => panel_bad (d := d) (hB.ext he) (by omega) hbad
  have Hp := Lib.hid h4
  have Hal := Lib.hid hal
  have Hg := Lib.hid hg
  have Hs1 := Lib.hid h1
  have Hs2 := Lib.hid h2
  have Hr := Lib.hid h3
  have kb : Blk (w.alloc (.cells #[.int .i64 s, .slice A ms.length c] 46)) w.heap.size [.int .i64 s, .slice A ms.length c] := Blk.new _ _
  have z0 := kb.at_ 0 rfl
  have z1 := kb.at_ 1 rfl
  have H0 := Lib.hid (show Ext w (w.alloc (.cells #[.int .i64 s, .slice A ms.length c] 46)) from (Ext.refl _).alloc _)
  clear hal hg kb h1 h2 h3 hA hB h h4
  unfold ShaftYes
  generalize ms.length = m at *
  generalize p.length = n at *
  have hg1 : decide ((30 : Int) < (m : Int)) = false := decide_eq_false (by omega)
  have hn2 : ¬ (20 : Int) < (n : Int) := by omega
  have ht3 : ¬ turns < -1048576 := by omega
  have ht4 : ¬ 1048576 < turns := by omega
  have hw4 : IntKind.i64.wrap (4 * turns) = 4 * turns := by rw [IntKind.wrap_i64]; omega
  have hd1 : ¬ den < 1 := by omega
  have hd0 : den ≠ 0 := by omega
  have hw0 : IntKind.i64.wrap 0 = 0 := by decide
  clear hfit ht1 ht2 hm hn hbad
  go_enter Tryz.func5, Tryz.ntmps5
  go_wp2_with (first
    | (go_at_call 13; refine (Hal.out _).mono ?_; rintro e w1 ⟨rfl, hx1⟩; have y0 := fun w' (he : Ext w1 w') => z0 w' (hx1.trans he); have y1 := fun w' (he : Ext w1 w') => z1 w' (hx1.trans he); have H1 := Lib.hid (H0.out.trans hx1); clear z0 z1 hx1)
    | (go_at_call 15; refine (Hg.out _).mono ?_; rintro e w2 ⟨rfl, hx2⟩; have v0 := fun w' (he : Ext w2 w') => y0 w' (hx2.trans he); have v1 := fun w' (he : Ext w2 w') => y1 w' (hx2.trans he); have H2 := Lib.hid (H1.out.trans hx2); clear y0 y1 hx2)
    | (go_at_call 17; refine (Hr.out _ H4.out).mono ?_; rintro e w5 ⟨B1, B2, B3, r1, d1, r2, d2, r3, d3, rfl, hx5⟩; have H5 := Lib.hid (H4.out.trans hx5); clear q0 q1 hx5)
    | (go_at_call 18; refine (Hp.out _ (H5.out.alloc _)).mono ?_; rintro e w6 ⟨rfl, hx6⟩; have H6 := Lib.hid ((H5.out.alloc _).trans hx6); clear hx6)
    | (go_at_call 16; have hq := H3; clear hq; refine (Hs2.out _ H3.out).mono ?_; rintro e w4 ⟨v2, b, rfl, hx4⟩; have q0 := fun w' (he : Ext w4 w') => u0 w' (hx4.trans he); have q1 := fun w' (he : Ext w4 w') => u1 w' (hx4.trans he); have H4 := Lib.hid (H3.out.trans hx4); clear u0 u1 hx4)
    | (go_at_call 16; refine (Hs1.out _ H2.out).mono ?_; rintro e w3 ⟨v, rfl, hx3⟩; have u0 := fun w' (he : Ext w3 w') => v0 w' (hx3.trans he); have u1 := fun w' (he : Ext w3 w') => v1 w' (hx3.trans he); have H3 := Lib.hid (H2.out.trans hx3); clear v0 v1 hx3))
  go_ret
  exact ⟨rfl, H6.out⟩
end
end Go.Proofs.YtebkhdhhajjhfaaGreat.Lt
