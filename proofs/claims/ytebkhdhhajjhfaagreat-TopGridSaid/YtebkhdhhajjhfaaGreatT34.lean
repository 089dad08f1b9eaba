/- flat: two boards overlap exactly if their panels clash, with a right proof. -/
import Derived.Test.YtebkhdhhajjhfaaGreatT33
import Derived.Test.YtebkhdhhajjhfaaGreatT29
import Derived.Test.YtebkhdhhajjhfaaGreatT24
import Derived.Test.YtebkhdhhajjhfaaGreatT25
namespace Go.Proofs.YtebkhdhhajjhfaaGreat.Lt
open Go.RowKit
theorem ki_two {w : World} {ad : Addr} {a1 a2 : Addr} {c1 c2 : Nat} {x y : List Ce} (h : Row w (some ad) [.slice (some a1) x.length c1, .slice none 0 0, .int .i64 1, .slice (some a2) y.length c2, .slice none 0 0, .int .i64 1]) (h1 : CeRow w (some a1) x) (h2 : CeRow w (some a2) y) : KiRow w (some ad) [⟨x, [], 1⟩, ⟨y, [], 1⟩] := fun k hk => by
  have h : Row w (some ad) ([[.slice (some a1) x.length c1, .slice none 0 0, .int .i64 1], [.slice (some a2) y.length c2, .slice none 0 0, .int .i64 1]] : List (List Value)).flatten := h
  obtain ⟨ad', ha, hc⟩ := Row.struct (size := 3) h (by simp) (k := k) (by simpa using hk) (by omega)
  have g1 := hc 0 (by omega)
  have g2 := hc 1 (by omega)
  have g3 := hc 2 (by omega)
  simp only [add_zero_, add_lit _ _ (show (1 : Nat) ≠ 0 by omega), add_lit _ _ (show (2 : Nat) ≠ 0 by omega)] at g1 g2 g3
  rcases (by simp at hk; omega : k = 0 ∨ k = 1) with rfl | rfl
  · exact ⟨ad', some a1, c1, none, 0, ha, g1, g2, g3, h1, KnRow.nil _ _⟩
  · exact ⟨ad', some a2, c2, none, 0, ha, g1, g2, g3, h2, KnRow.nil _ _⟩
theorem flat_ovl {a b p q : Nat} (ha : 0 < a) (hb : 0 < b) (hp : 0 < p) (hq : 0 < q) (x y : Int) {t : Nat} (ht : t < 4) : ovlP [⟨boardC a b, [], 1⟩, ⟨boardC p q, [], 1⟩] [⟨0, ⟨0, 0, 0⟩, 0, 0⟩, ⟨1, ⟨x, y, 0⟩, (t : Int), 0⟩] 2 ↔ ovl a b p q x y t := by
  rw [← flat_cells ha hp hq hb x y ht]
  have e0 : plB [⟨boardC a b, [], 1⟩, ⟨boardC p q, [], 1⟩] [⟨0, ⟨0, 0, 0⟩, 0, 0⟩, ⟨1, ⟨x, y, 0⟩, (t : Int), 0⟩] 0 = placed (boardC a b) 0 ⟨0, 0, 0⟩ := rfl
  have e1 : plB [⟨boardC a b, [], 1⟩, ⟨boardC p q, [], 1⟩] [⟨0, ⟨0, 0, 0⟩, 0, 0⟩, ⟨1, ⟨x, y, 0⟩, (t : Int), 0⟩] 1 = placed (boardC p q) t ⟨x, y, 0⟩ := rfl
  constructor
  · rintro ⟨i, j, hij, hj, c, h1, h2⟩
    obtain rfl : i = 0 := by omega
    obtain rfl : j = 1 := by omega
    rw [e0] at h1
    rw [e1] at h2
    exact ⟨c, h1, h2⟩
  · rintro ⟨c, h1, h2⟩
    exact ⟨0, 1, by omega, by omega, c, by rw [e0]; exact h1, by rw [e1]; exact h2⟩
theorem results_three {fn : Func} {a b c : Tmp} (h : fn.results = #[.tmp a, .tmp b, .tmp c]) (tmps : Array Value) (w : World) :
    (results fn tmps).run Tryz.prog w = .ok (.tuple #[tmps.getD a undef, tmps.getD b undef, tmps.getD c undef]) w := by
  simp [results, h, loadVar, go_sem]
theorem flat_proof {a b p q : Nat} {x y : Int} {t : Nat} {A B : Option Addr} (w : World) (ha : 1 ≤ a ∧ a ≤ 6) (hb : 1 ≤ b ∧ b ≤ 4) (hp : 1 ≤ p ∧ p ≤ 6) (hq : 1 ≤ q ∧ q ≤ 4) (hx : -20 ≤ x ∧ x ≤ 20) (hy : -20 ≤ y ∧ y ≤ 20) (ht : t < 4) (hL : Lk w A (flatPs a b p q) B (flatHs x y t)) (o : Bool) (ho : o = true ↔ ovl a b p q x y t) :
    Calls Tryz.prog 42 #[.agg #[.slice A 2 2, .slice B 1 1], .int .i64 0, .int .i64 1] w fun e w' => ∃ (r0 : Bool) (rA rB rC rE : Int) (I : Option Addr) (n ic : Nat), e = .returned (.tuple #[.agg #[.bool r0, .int .i64 rA, .int .i64 rB, .int .i64 rC, .int .i64 rE, .slice I n ic], .int .i64 (bif o then 51 else 0)]) ∧ Ext w w' ∧
      ∀ W, Ext w' W → Calls Tryz.prog 43 #[.agg #[.slice A 2 2, .slice B 1 1], .int .i64 0, .int .i64 1, .agg #[.bool r0, .int .i64 rA, .int .i64 rB, .int .i64 rC, .int .i64 rE, .slice I n ic]] W fun e w'' => e = .returned (.int .i64 0) ∧ Ext W w'' := by
  have hlk := flat_link (w := a) (h := b) (p := p) (q := q) (x := x) (y := y) (t := t) ⟨by omega, by omega⟩ ⟨by omega, by omega⟩ ⟨by omega, by omega⟩ ⟨by omega, by omega⟩ ht hx hy
  have hcl := flat_clash (w := a) (h := b) (p := p) (q := q) (x := x) (y := y) (t := t) (by omega) (by omega) (by omega) (by omega) ht
  have hg := clash_good A 2 (flatPs a b p q) B 1 (flatHs x y t) 0 1 w hL hlk (by show 0 < 2; omega) (by show 1 < 2; omega) (by decide)
  refine Calls.mono hg ?_
  rintro e w' ⟨r, I, ic, rfl, hr, hx', hri⟩
  refine ⟨r.clear, r.A, r.B, r.C, r.E, I, r.ins.length, ic, ?_, hx', fun W hW => ?_⟩
  · have e1 : (if clashB (pcrn (flatPs a b p q) (flatHs x y t) 0) (pcrn (flatPs a b p q) (flatHs x y t) 1) = true then (51 : Int) else 0) = bif o then 51 else 0 := by
      cases o with
      | true => rw [if_pos (hcl.2 (ho.1 rfl))]; rfl
      | false => rw [if_neg (fun h => by have := ho.2 (hcl.1 h); cases this)]; rfl
    rw [e1]
  · have h := checkapart_any A 2 (flatPs a b p q) B 1 (flatHs x y t) 0 1 r I ic W (hL.ext (hx'.trans hW)) (hr.ext hW)
    have e2 : apartE (flatPs a b p q) (flatHs x y t) 0 1 r = 0 := by
      have e3 := apartE_nat (ps := flatPs a b p q) (hs := flatHs x y t) (i := 0) (k := 1) (r := r) (two_good hlk ⟨⟨by show (0 : Int) ≤ 0; omega, by show (0 : Int) < 2; omega⟩, ⟨by show (0 : Int) ≤ 1; omega, by show (1 : Int) < 2; omega⟩, by show (0 : Int) ≠ 1; omega⟩)
      rw [if_pos (rightB_yes hri).symm] at e3
      exact e3
    rw [e2] at h
    exact h
set_option maxRecDepth 100000 in
set_option maxHeartbeats 400000 in
theorem flat_any (a b p q : Nat) (x y : Int) (t : Nat) (w : World) (ha : 1 ≤ a ∧ a ≤ 6) (hb : 1 ≤ b ∧ b ≤ 4) (hp : 1 ≤ p ∧ p ≤ 6) (hq : 1 ≤ q ∧ q ≤ 4) (hx : -20 ≤ x ∧ x ≤ 20) (hy : -20 ≤ y ∧ y ≤ 20) (ht : t < 4) :
    Calls Tryz.prog 14 #[.int .i64 a, .int .i64 b, .int .i64 p, .int .i64 q, .int .i64 x, .int .i64 y, .int .i64 t] w fun e w' => ∃ r : Bool, e = .returned (.tuple #[.bool r, .bool r, .bool true]) ∧ (r = true ↔ ovl a b p q x y t) ∧ Ext w w' := by
  have hb1 := fun w' => board_any a b 1 w' ha.1 ha.2 hb.1 hb.2
  have hb2 := fun w' => board_any p q 1 w' hp.1 hp.2 hq.1 hq.2
  have hp1 := fun w' => panel_any a b w' (by omega) (by omega)
  have hp2 := fun w' => panel_any p q w' (by omega) (by omega)
  have hpl := fun w' => plain_any t t w' ht (by omega) (by omega) (by omega)
  have hcg := fun (o : Bool) (ho : o = true ↔ ovl a b p q x y t) A B W (hL : Lk W A (flatPs a b p q) B (flatHs x y t)) => flat_proof W ha hb hp hq hx hy ht hL o ho
  have hov := fun (g1 c1 g2 c2 : Nat) W (h1 : CeRow W (some ⟨g1, 0, none⟩) (boardC a b)) (h2 : CeRow W (some ⟨g2, 0, none⟩) (boardC p q)) (A M : Addr) (hA : Row W (some A) [.slice (some ⟨g1, 0, none⟩) (a * b) c1, .slice none 0 0, .int .i64 1, .slice (some ⟨g2, 0, none⟩) (p * q) c2, .slice none 0 0, .int .i64 1])
      (hM : BrRow W (some M) [⟨0, ⟨0, 0, 0⟩, 0, 0⟩, ⟨1, ⟨x, y, 0⟩, (t : Int), 0⟩]) => (show Calls Tryz.prog 39 #[.slice (some A) 2 2, .agg #[.slice (some M) 2 2]] W fun e w' => ∃ X n x', e = .returned (.tuple #[.slice X n x', .int .i64 0]) ∧ (0 < (n : Int) ↔ ovl a b p q x y t) ∧ Ext W w' from by
    rw [← flat_ovl (by omega) (by omega) (by omega) (by omega) x y ht]
    rw [← boardC_len a b, ← boardC_len p q] at hA
    refine overlaps_any [⟨boardC a b, [], 1⟩, ⟨boardC p q, [], 1⟩] (some A) 2 [⟨0, ⟨0, 0, 0⟩, 0, 0⟩, ⟨1, ⟨x, y, 0⟩, (t : Int), 0⟩] (some M) 2 W (ki_two hA h1 h2) (by simp) (fun i hi => ?_) hM (by simp) (fun i hi => ?_)
    · rcases (by simp at hi; omega : i = 0 ∨ i = 1) with rfl | rfl
      · exact bare_board ha.1 ha.2 hb.1 hb.2
      · exact bare_board hp.1 hp.2 hq.1 hq.2
    · rcases (by simp at hi; omega : i = 0 ∨ i = 1) with rfl | rfl
      · exact ⟨by show (0 : Int) ≤ 0; omega, by show (0 : Int) < 2; omega, by show nearP ⟨0, 0, 0⟩ _ _; unfold nearP; simp only; omega, by show (0 : Int) ≤ 0; omega, by show (0 : Int) < 24; omega, by show (0 : Int) ≤ 0; omega, by show (0 : Int) ≤ 15; omega⟩
      · exact ⟨by show (0 : Int) ≤ 1; omega, by show (1 : Int) < 2; omega, by show nearP ⟨x, y, 0⟩ _ _; unfold nearP; simp only; omega, by show (0 : Int) ≤ t; omega, by show (t : Int) < 24; omega, by show (0 : Int) ≤ 0; omega, by show (0 : Int) ≤ 15; omega⟩)
  have Hb1 := Lib.hid hb1
  have Hb2 := Lib.hid hb2
  have Hp1 := Lib.hid hp1
  have Hp2 := Lib.hid hp2
  have Hpl := Lib.hid hpl
  have Hcg := Lib.hid hcg
  have Hov := Lib.hid hov
  clear hb1 hb2 hp1 hp2 hpl hcg hov
  obtain ⟨n1, hn1⟩ : ∃ n1, n1 = a * b := ⟨_, rfl⟩
  obtain ⟨n2, hn2⟩ : ∃ n2, n2 = p * q := ⟨_, rfl⟩
  have Hb1' := Hb1.out
  have Hb2' := Hb2.out
  have Hov' := Hov.out
  rw [← hn1] at Hb1' Hov'
  rw [← hn2] at Hb2' Hov'
  have Hb1 := Lib.hid Hb1'
  have Hb2 := Lib.hid Hb2'
  have Hov := Lib.hid Hov'
  clear Hb1' Hb2' Hov' hn1 hn2
  have u1 : IntKind.u8.wrap (t : Int) = (t : Int) := by unfold IntKind.wrap; simp [IntKind.bits]; omega
  have u2 : IntKind.i64.wrap (2 * x) = 2 * x := by rw [IntKind.wrap_i64]; omega
  have u3 : IntKind.i64.wrap (2 * y) = 2 * y := by rw [IntKind.wrap_i64]; omega
  go_enter Tryz.func14, Tryz.ntmps14
  go_wp2_with (first
    | (go_at_call 24; have hq := Ho1; clear hq; refine (Hb2.out w1).mono ?_; rintro e w2 ⟨g2, c2, rfl, ho2⟩; have Ho2 := Lib.hid ho2; clear ho2)
    | (go_at_call 24; refine (Hb1.out w).mono ?_; rintro e w1 ⟨g1, c1, rfl, ho1⟩; have Ho1 := Lib.hid ho1; clear ho1)
    | (go_at_call 39; generalize hGG : Calls _ _ _ _ _ = GG))
  obtain ⟨W, hW⟩ : ∃ W, W = (((w2.alloc (.cells #[.slice (some ⟨g1, 0, none⟩) n1 c1, .slice none 0 0, .int .i64 1, .slice (some ⟨g2, 0, none⟩) n2 c2, .slice none 0 0, .int .i64 1] 82)).alloc (.cells #[.int .i64 0, .int .i64 0, .int .i64 0, .int .i64 0, .int .u8 0, .int .u8 0, .int .i64 1, .int .i64 x, .int .i64 y, .int .i64 0, .int .u8 t, .int .u8 0] 85)).alloc (.cells #[.slice (some ⟨w2.heap.size + 1, 0, none⟩) 2 2] 25)) := ⟨_, rfl⟩
  have hX : Ext w2 W := by rw [hW]; exact ((Ext.refl _).alloc _).alloc _ |>.alloc _
  have hA : Row W (some ⟨w2.heap.size, 0, none⟩) [.slice (some ⟨g1, 0, none⟩) n1 c1, .slice none 0 0, .int .i64 1, .slice (some ⟨g2, 0, none⟩) n2 c2, .slice none 0 0, .int .i64 1] := by
    rw [hW]
    exact Row.ext (Gr.row_alloc w2 #[.slice (some ⟨g1, 0, none⟩) n1 c1, .slice none 0 0, .int .i64 1, .slice (some ⟨g2, 0, none⟩) n2 c2, .slice none 0 0, .int .i64 1] 82) (((Ext.refl _).alloc _).alloc _)
  have hM : BrRow W (some ⟨w2.heap.size + 1, 0, none⟩) [⟨0, ⟨0, 0, 0⟩, 0, 0⟩, ⟨1, ⟨x, y, 0⟩, (t : Int), 0⟩] := by
    have h := Gr.row_alloc (w2.alloc (.cells #[.slice (some ⟨g1, 0, none⟩) n1 c1, .slice none 0 0, .int .i64 1, .slice (some ⟨g2, 0, none⟩) n2 c2, .slice none 0 0, .int .i64 1] 82)) #[.int .i64 0, .int .i64 0, .int .i64 0, .int .i64 0, .int .u8 0, .int .u8 0, .int .i64 1, .int .i64 x, .int .i64 y, .int .i64 0, .int .u8 t, .int .u8 0] 85
    rw [show (w2.alloc (.cells #[.slice (some ⟨g1, 0, none⟩) n1 c1, .slice none 0 0, .int .i64 1, .slice (some ⟨g2, 0, none⟩) n2 c2, .slice none 0 0, .int .i64 1] 82)).heap.size = w2.heap.size + 1 by simp] at h
    rw [hW]
    exact Row.ext h ((Ext.refl _).alloc _)
  have hov := Hov.out g1 c1 g2 c2 W ((Ho1.out.later (Ho2.out.ext.trans hX)).row) ((Ho2.out.later hX).row) _ _ hA hM
  have HX := Lib.hid (Ho1.out.ext.trans (Ho2.out.ext.trans hX))
  have Hov3 := Lib.hid hov
  rw [← hGG, ← hW]
  clear hov hA hM hX hW hGG Ho1 Ho2 Hov Hb1 Hb2
  refine (Hov3.out).mono ?_
  rintro e w3 ⟨X, n, x', rfl, hn, hx3⟩
  have Hx3 := Lib.hid (HX.out.trans hx3)
  have Hn := Lib.hid hn
  clear hx3 HX Hov3 hn
  obtain ⟨o, ho⟩ : ∃ o : Bool, (o = true ↔ ovl a b p q x y t) := by
    by_cases h : ovl a b p q x y t
    · exact ⟨true, by simp [h]⟩
    · exact ⟨false, by simp [h]⟩
  have HO := Lib.hid ho
  clear ho ha hb hp hq hx hy
  dsimp only
  go_wp2_with (first
    | (go_at_call 41; refine (Hpl.out _).mono ?_; rintro e w6 ⟨rfl, hx6⟩; have Hx6 := Lib.hid hx6; clear hx6)
    | (go_at_call 40; have hq := Ho4; clear hq; refine (Hp2.out w4).mono ?_; rintro e w5 ⟨g5, rfl, ho5⟩; have Ho5 := Lib.hid ho5; clear ho5)
    | (go_at_call 40; refine (Hp1.out w3).mono ?_; rintro e w4 ⟨g4, rfl, ho4⟩; have Ho4 := Lib.hid ho4; clear ho4)
    | (go_at_call 42; generalize hGG : Calls _ _ _ _ _ = GG))
  have hQ1 := (Pans.nil w3 w4).snoc (Pans.nil w3 w3) (Ext.refl w3) Ho4.out
  have hQ2 := (hQ1.later Ho5.out.ext).snoc hQ1 Ho4.out.ext Ho5.out
  obtain ⟨w55, h55⟩ : ∃ w55, w55 = w5.alloc (.cells #[.slice (some ⟨g4, 0, none⟩) 4 4, .slice (some ⟨g5, 0, none⟩) 4 4] 48) := ⟨_, rfl⟩
  have hx35 : Ext w3 w5 := Ho4.out.ext.trans Ho5.out.ext
  have hP5 : Own w3 w55 48 1 (.slice (some ⟨w5.heap.size, 0, none⟩) 2 2) 2 [.slice (some ⟨g4, 0, none⟩) 4 4, .slice (some ⟨g5, 0, none⟩) 4 4] := by
    rw [h55]
    exact Own.lit (e := 48) (size := 1) hx35 #[.slice (some ⟨g4, 0, none⟩) 4 4, .slice (some ⟨g5, 0, none⟩) 4 4] 2 (by unfold maxLen; omega) rfl
  have hx55 : Ext w5 w55 := by rw [h55]; exact (Ext.refl _).alloc _
  have hx56 : Ext w55 w6 := by rw [h55]; exact Hx6.out
  obtain ⟨W, hW⟩ : ∃ W, W = (w6.alloc (.cells #[.int .i64 (2 * x), .int .i64 (2 * y), .int .i64 0, .int .i64 0, .int .i64 (plainS t : Nat)] 70)).alloc (.cells #[.slice (some ⟨w5.heap.size, 0, none⟩) 2 2, .slice (some ⟨w6.heap.size, 0, none⟩) 1 1] 67) := ⟨_, rfl⟩
  have hx6W : Ext w6 W := by rw [hW]; exact ((Ext.refl _).alloc _).alloc _
  have hB : HRow W (some ⟨w6.heap.size, 0, none⟩) (flatHs x y t) := by
    rw [hW]
    exact Row.ext (Gr.row_alloc w6 #[.int .i64 (2 * x), .int .i64 (2 * y), .int .i64 0, .int .i64 0, .int .i64 (plainS t : Nat)] 70) ((Ext.refl _).alloc _)
  have kb : Blk W (w6.heap.size + 1) [.slice (some ⟨w5.heap.size, 0, none⟩) 2 2, .slice (some ⟨w6.heap.size, 0, none⟩) 1 1] := by
    rw [hW]
    exact Blk.new' (by simp)
  have hx3W := (hx55.trans hx56).trans hx6W
  have hL : Lk W (some ⟨w5.heap.size, 0, none⟩) (flatPs a b p q) (some ⟨w6.heap.size, 0, none⟩) (flatHs x y t) :=
    ⟨(hQ2.later hx3W).row (hP5.later (hx56.trans hx6W)), hB, by show 2 ≤ 1000; omega, by show 1 ≤ 1000; omega, fun k hk => by
      rcases (by simp [flatPs] at hk; omega : k = 0 ∨ k = 1) with rfl | rfl
      · show 4 ≤ 1000; omega
      · show 4 ≤ 1000; omega⟩
  have hcg := Hcg.out o HO.out _ _ W hL
  have HW := Lib.hid ((Hx3.out.trans hx35).trans hx3W)
  have z0 := kb.at_ 0 rfl
  have z1 := kb.at_ 1 rfl
  have Hcg2 := Lib.hid hcg
  rw [← hGG, ← hW]
  clear hQ1 hQ2 h55 hx35 hP5 hx55 hx56 hW hx6W hB kb hx3W hL hcg Hcg hGG Ho4 Ho5 Hx6 Hx3 Hp1 Hp2 Hpl
  refine (Hcg2.out).mono ?_
  rintro e w8 ⟨r0, rA, rB, rC, rE, I, rn, ic, rfl, hx8, hck⟩
  have Hck := Lib.hid hck
  have H8 := Lib.hid (HW.out.trans hx8)
  have z0 := fun w' (he : Ext w8 w') => z0 w' (hx8.trans he)
  have z1 := fun w' (he : Ext w8 w') => z1 w' (hx8.trans he)
  clear hck hx8 HW Hcg2
  dsimp only
  cases o with
  | true =>
    have hni : (0 : Int) < n := Hn.out.2 (HO.out.1 rfl)
    have hni2 : (n : Int) > 0 := hni
    have Hv := Lib.hid (HO.out.1 rfl)
    have Hd := Lib.hid (decide_eq_true (show 0 < n by omega))
    clear HO
    go_wp2_with (go_at_call 43; refine (Hck.out _ ((Ext.refl w8).alloc _)).mono ?_; rintro e w9 ⟨rfl, hx9⟩; have H9 := Lib.hid (H8.out.trans (((Ext.refl w8).alloc _).trans hx9)); clear hx9)
    refine bodyPost_ret (results_three rfl _ _) rfl ?_
    refine ⟨true, ?_, ⟨fun _ => Hv.out, fun _ => rfl⟩, H9.out⟩
    show Ending.returned (.tuple #[.bool (decide (0 < n)), .bool true, .bool true]) = _
    rw [Hd.out]
  | false =>
    have hni : ¬ (0 : Int) < n := fun h => by have := HO.out.2 (Hn.out.1 h); cases this
    have hni2 : ¬ (n : Int) > 0 := hni
    have Hv := Lib.hid (fun h => (show False by have := HO.out.2 h; cases this))
    have Hd := Lib.hid (decide_eq_false (show ¬ 0 < n by omega))
    clear HO
    go_wp2_with (go_at_call 43; refine (Hck.out _ ((Ext.refl w8).alloc _)).mono ?_; rintro e w9 ⟨rfl, hx9⟩; have H9 := Lib.hid (H8.out.trans (((Ext.refl w8).alloc _).trans hx9)); clear hx9)
    refine bodyPost_ret (results_three rfl _ _) rfl ?_
    refine ⟨false, ?_, ⟨fun h => (Bool.noConfusion h), fun h => (Hv.out h).elim⟩, H9.out⟩
    show Ending.returned (.tuple #[.bool (decide (0 < n)), .bool false, .bool true]) = _
    rw [Hd.out]
end Go.Proofs.YtebkhdhhajjhfaaGreat.Lt

/- The law's first examples: alive05. -/
namespace Go.Proofs.YtebkhdhhajjhfaaGreat.Lt
open Go.RowKit
def alM : List Gr.Msh := [⟨2, 0, 1, 0, 8, 24⟩]
theorem al_rat : HasRat 2 alM 0 1 1 3 := ⟨by decide, [-1], [3, 1], [], by decide⟩
theorem shaft_link {p : List Sp} {t : Nat} (hp : panelP p) (ht : t < 4) : linkP [p, p] (flatHs 0 0 t) := by
  refine ⟨by simp, rfl, fun q hq => ?_, fun h hh => ?_⟩
  · simp at hq
    subst hq
    exact hp
  · simp only [flatHs, List.mem_cons, List.not_mem_nil, or_false] at hh
    subst hh
    unfold hingeB spotB
    rcases t_cases ht with rfl | rfl | rfl | rfl <;> simp only [plainS] <;> simp
theorem shaft_good {p : List Sp} {t : Nat} (hp : panelP p) (ht : t < 4) : cornE [p, p] (flatHs 0 0 t) 1 = 0 ∧ cornD [p, p] (flatHs 0 0 t) 1 = 1 ∧ cornL [p, p] (flatHs 0 0 t) 1 = p.map (rotS t) := by
  obtain ⟨e1, e2, e3⟩ := corn_good (i := 1) (shaft_link hp ht) (by show 1 < 2; omega)
  rw [flat_pose ht] at e1 e2
  refine ⟨e3, e2.trans (posT_d t 0 0), e1.trans ?_⟩
  show p.map (plc (posT t 0 0)) = p.map (rotS t)
  exact List.map_congr_left fun s _ => flat_corner ht s
theorem shaft_bad {p : List Sp} {t : Nat} (hp : ¬ panelP p) : cornE [p, p] (flatHs 0 0 t) 1 = 50 := (corn_bad fun h => hp (h.2.2.1 p (by simp))).2.2
def alP : List Sp := [⟨0, 0⟩, ⟨4, 0⟩, ⟨0, 2⟩]
theorem al_panel : panelP alP := by decide
theorem al_turned : alP.map (rotS 1) = [⟨0, 0⟩, ⟨0, 4⟩, ⟨-2, 0⟩] := by decide
theorem al_flat (w : World) : Calls Tryz.prog 14 #[.int .i64 2, .int .i64 1, .int .i64 2, .int .i64 1, .int .i64 1, .int .i64 0, .int .i64 1] w fun e w' => e = .returned (.tuple #[.bool true, .bool true, .bool true]) ∧ Ext w w' := by
  refine Calls.mono (flat_any 2 1 2 1 1 0 1 w (by omega) (by omega) (by omega) (by omega) (by omega) (by omega) (by omega)) ?_
  rintro e w' ⟨r, rfl, hr, hx⟩
  have h : r = true := hr.2 (by simp only [ovl]; omega)
  subst h
  exact ⟨rfl, hx⟩
theorem al_flat2 (w : World) : Calls Tryz.prog 14 #[.int .i64 2, .int .i64 1, .int .i64 2, .int .i64 1, .int .i64 2, .int .i64 0, .int .i64 1] w fun e w' => e = .returned (.tuple #[.bool false, .bool false, .bool true]) ∧ Ext w w' := by
  refine Calls.mono (flat_any 2 1 2 1 2 0 1 w (by omega) (by omega) (by omega) (by omega) (by omega) (by omega) (by omega)) ?_
  rintro e w' ⟨r, rfl, hr, hx⟩
  have h : r = false := by
    cases r with
    | false => rfl
    | true => exact absurd (hr.1 rfl) (by simp only [ovl]; omega)
  subst h
  exact ⟨rfl, hx⟩
theorem al_shafted (A B : Addr) (w : World) (hA : Gr.MRow w (some A) alM) (hB : SRow w (some B) alP) : Calls Tryz.prog 16 #[.agg #[.int .i64 2, .slice (some A) 1 1], .int .i64 0, .int .i64 1, .int .i64 3, .slice (some B) 3 3] w fun e w' => ∃ X x, e = .returned (.tuple #[.slice X 3 x, .bool true]) ∧ Ext w w' ∧ SRow w' X [⟨0, 0⟩, ⟨0, 4⟩, ⟨-2, 0⟩] := by
  obtain ⟨e1, e2, e3⟩ := shaft_good (t := 1) al_panel (by omega)
  have h := shafted_go (some A) 1 2 0 1 3 1 3 alM (some B) alP 3 1 w hA (by decide) al_rat (by decide) (by omega) hB (by decide) (by omega) (by decide)
  rw [e1, e2, e3, al_turned] at h
  refine Calls.mono h ?_
  rintro e w' ⟨v, rfl, hv⟩
  obtain ⟨X, x, rfl⟩ := hv.form
  exact ⟨X, x, rfl, hv.ext, hv.row⟩
theorem al_same (X B : Option Addr) (x d : Nat) (w : World) (hA : SRow w X [⟨0, 0⟩, ⟨0, 4⟩, ⟨-2, 0⟩]) (hB : SRow w B [⟨0, 0⟩, ⟨0, 4⟩, ⟨-2, 0⟩]) : Calls Tryz.prog 38 #[.slice X 3 x, .slice B 3 d] w fun e w' => e = .returned (.bool true) ∧ Ext w w' := same_spots X B x d [⟨0, 0⟩, ⟨0, 4⟩, ⟨-2, 0⟩] w hA hB (by decide)
set_option maxRecDepth 100000 in
set_option maxHeartbeats 1000000 in
theorem alive_any (w : World) : Calls Tryz.prog 13 #[] w fun e w' => e = .returned (.bool true) ∧ Ext w w' := by
  go_enter Tryz.func13, Tryz.ntmps13
  go_wp2_with (first
    | (go_at_call 14; have hq := H1; clear hq; refine (al_flat2 w1).mono ?_; rintro e w2 ⟨rfl, hx2⟩; have H2 := Lib.hid (H1.out.trans hx2); clear hx2)
    | (go_at_call 14; refine (al_flat w).mono ?_; rintro e w1 ⟨rfl, hx1⟩; have H1 := Lib.hid hx1; clear hx1)
    | (go_at_call 16; generalize hGG : Calls _ _ _ _ _ = GG))
  obtain ⟨W, hW⟩ : ∃ W, W = ((w2.alloc (.cells #[.int .u8 2, .int .i64 0, .int .i64 1, .int .i64 0, .int .i64 8, .int .i64 24] 104)).alloc (.cells #[.int .i64 2, .slice (some ⟨w2.heap.size, 0, none⟩) 1 1] 46)).alloc (.cells #[.int .i64 0, .int .i64 0, .int .i64 4, .int .i64 0, .int .i64 0, .int .i64 2] 58) := ⟨_, rfl⟩
  have hA : Gr.MRow W (some ⟨w2.heap.size, 0, none⟩) alM := by
    rw [hW]
    exact Row.ext (Gr.row_alloc w2 #[.int .u8 2, .int .i64 0, .int .i64 1, .int .i64 0, .int .i64 8, .int .i64 24] 104) (((Ext.refl _).alloc _).alloc _)
  have hB : SRow W (some ⟨w2.heap.size + 1 + 1, 0, none⟩) alP := by
    have h := Gr.row_alloc ((w2.alloc (.cells #[.int .u8 2, .int .i64 0, .int .i64 1, .int .i64 0, .int .i64 8, .int .i64 24] 104)).alloc (.cells #[.int .i64 2, .slice (some ⟨w2.heap.size, 0, none⟩) 1 1] 46)) #[.int .i64 0, .int .i64 0, .int .i64 4, .int .i64 0, .int .i64 0, .int .i64 2] 58
    rw [show ((w2.alloc (.cells #[.int .u8 2, .int .i64 0, .int .i64 1, .int .i64 0, .int .i64 8, .int .i64 24] 104)).alloc (.cells #[.int .i64 2, .slice (some ⟨w2.heap.size, 0, none⟩) 1 1] 46)).heap.size = w2.heap.size + 1 + 1 by simp] at h
    rw [hW]
    exact h
  have hx : Ext w2 W := by rw [hW]; exact (((Ext.refl _).alloc _).alloc _).alloc _
  have Hs := Lib.hid (al_shafted _ _ W hA hB)
  have HW := Lib.hid (H2.out.trans hx)
  rw [← hGG, ← hW]
  clear hx hA hB hW hGG H1 H2
  refine (Hs.out).mono ?_
  rintro e w3 ⟨X, x, rfl, hx3, hX⟩
  have H3 := Lib.hid (HW.out.trans hx3)
  have HX := Lib.hid hX
  clear hx3 hX HW Hs
  dsimp only
  have Hr := Lib.hid (Gr.row_alloc w3 #[.int .i64 0, .int .i64 0, .int .i64 0, .int .i64 4, .int .i64 (-2), .int .i64 0] 58)
  go_wp2_with (go_at_call 38; refine (al_same X (some ⟨w3.heap.size, 0, none⟩) x 3 _ (HX.out.ext ((Ext.refl w3).alloc _)) Hr.out).mono ?_; rintro e w4 ⟨rfl, hx4⟩; have H4 := Lib.hid (H3.out.trans (((Ext.refl w3).alloc _).trans hx4)); clear hx4)
  go_ret
  exact ⟨rfl, H4.out⟩
end Go.Proofs.YtebkhdhhajjhfaaGreat.Lt

/- Arguments of 8 bits, opened. -/
namespace Go.Proofs.YtebkhdhhajjhfaaGreat.Lt
open Go.ChangeShapes Go.WideShapes Go.ChangeAt Go.RowKit
section
variable {H : Type} {enc : TypeId × Value → H} {w : World} {base : Nat} {held : Bool}
set_option maxRecDepth 100000 in
theorem arg_u8 {v : Value} {d : DataW H} {p : List MemPlace} {r : Reach} {b0 : Nat} (hv : Value.okWide Tryz.prog w r b0 5 v) (h : DataW.Trod enc Tryz.prog w base (fun _ => true) held 5 v d p) : ∃ t, v = .int .u8 t ∧ (0 ≤ t ∧ t ≤ 255) := by
  obtain ⟨t, e, _, _, hw⟩ := open_int Tryz.underlying5 hv h
  refine ⟨t, e, ?_⟩
  have := hw
  simp [Lit.wf, IntKind.min, IntKind.max, IntKind.signed, IntKind.bits] at this
  omega
set_option maxRecDepth 100000 in
theorem arg_i8 {v : Value} {d : DataW H} {p : List MemPlace} {r : Reach} {b0 : Nat} (hv : Value.okWide Tryz.prog w r b0 40 v) (h : DataW.Trod enc Tryz.prog w base (fun _ => true) held 40 v d p) : ∃ t, v = .int .i8 t ∧ (-128 ≤ t ∧ t ≤ 127) := by
  obtain ⟨t, e, _, _, hw⟩ := open_int Tryz.underlying40 hv h
  refine ⟨t, e, ?_⟩
  have := hw
  simp [Lit.wf, IntKind.min, IntKind.max, IntKind.signed, IntKind.bits] at this
  omega
end
end Go.Proofs.YtebkhdhhajjhfaaGreat.Lt

/- Turn, Great; the ways of TopShaft in which there is nothing to turn. -/
namespace Go.Proofs.YtebkhdhhajjhfaaGreat.Lt
open Go.RowKit
theorem results_turned {fn : Func} {t s : Tmp} (h : fn.results = #[.cell t 60, .tmp s]) (tmps : Array Value) (w : World) {g : Nat} {u0 u1 u2 : Value} (h8 : tmps.getD t undef = .pointer (some ⟨g, 0, none⟩)) (hb : Blk w g [u0, u1, u2]) :
    (results fn tmps).run Tryz.prog w = .ok (.tuple #[.agg #[u0, u1, u2], tmps.getD s undef]) w := by
  rw [Array.getD_eq_getD_getElem?] at h8
  have c0 := hb.c 0 _ rfl
  have c1 := hb.c 1 _ rfl
  have c2 := hb.c 2 _ rfl
  simp [results, h, loadVar, h8, c0, c1, c2, loadCells, loadCellsFrom, asAddr, Addr.add_lit, Result.andThen, go_sem]
set_option maxRecDepth 100000 in
set_option maxHeartbeats 1000000 in
theorem turno_any (c : Ce) (n : Nat) (hn : n < 24) (w : World) (hc : nearP c (-2000) 2000) : Calls Tryz.prog 19 #[c.val, .int .i64 n] w fun e w' => e = .returned (.tuple #[(turnC c n).val, .int .i64 0]) ∧ Ext w w' := by
  have h1 := fun w' => near_any c (-2000) 2000 w'
  have h2 := fun w' (g : Nat) (h : Ints w' (some ⟨g, 0, none⟩) [(n : Int)]) => isturn_any (some ⟨g, 0, none⟩) 1 [(n : Int)] w' h (by simp)
  have h3 := fun w' => turn_any c n hn w' (by unfold nearP at *; omega)
  rw [show nearB c (-2000) 2000 = true from decide_eq_true hc] at h1
  rw [show turnsB [(n : Int)] = true by simp [turnsB]; omega] at h2
  have H1 := Lib.hid h1
  have H2 := Lib.hid h2
  have H3 := Lib.hid h3
  clear h1 h2 h3 hc hn
  generalize turnC c n = r at *
  obtain ⟨cx, cy, cz⟩ := c
  obtain ⟨rx, ry, rz⟩ := r
  have k2 : Blk ((w.alloc (.cells #[.int .i64 cx, .int .i64 cy, .int .i64 cz] 60)).alloc (.cells #[.int .i64 0, .int .i64 0, .int .i64 0] 60)) w.heap.size [.int .i64 cx, .int .i64 cy, .int .i64 cz] := (Blk.new _ _).ext ((Ext.refl _).alloc _)
  have k4 : Blk ((w.alloc (.cells #[.int .i64 cx, .int .i64 cy, .int .i64 cz] 60)).alloc (.cells #[.int .i64 0, .int .i64 0, .int .i64 0] 60)) (w.heap.size + 1) [.int .i64 0, .int .i64 0, .int .i64 0] := Blk.new' (by simp)
  have hx : Ext w ((w.alloc (.cells #[.int .i64 cx, .int .i64 cy, .int .i64 cz] 60)).alloc (.cells #[.int .i64 0, .int .i64 0, .int .i64 0] 60)) := ((Ext.refl _).alloc _).alloc _
  have z0 := k2.at_ 0 rfl
  have z1 := k2.at_ 1 rfl
  have z2 := k2.at_ 2 rfl
  have K := Lib.hid (And.intro k4 hx)
  clear k2 k4 hx
  go_enter Tryz.func19, Tryz.ntmps19
  go_wp2_with (first
    | (go_at_call 57; refine (H1.out _).mono ?_; rintro e w1 ⟨rfl, hx1⟩; have y0 := fun w' (he : Ext w1 w') => z0 w' (hx1.trans he); have y1 := fun w' (he : Ext w1 w') => z1 w' (hx1.trans he); have y2 := fun w' (he : Ext w1 w') => z2 w' (hx1.trans he); have K1 := Lib.hid (And.intro (K.out.1.ext hx1) (K.out.2.trans hx1)); clear z0 z1 z2 hx1)
    | (go_at_call 58; refine (H2.out _ _ (Gr.row_alloc w1 #[.int .i64 n] 3)).mono ?_; rintro e w2 ⟨rfl, hx2⟩; have hx12 := ((Ext.refl w1).alloc (.cells #[.int .i64 n] 3)).trans hx2; have v0 := fun w' (he : Ext w2 w') => y0 w' (hx12.trans he); have v1 := fun w' (he : Ext w2 w') => y1 w' (hx12.trans he); have v2 := fun w' (he : Ext w2 w') => y2 w' (hx12.trans he); have K2 := Lib.hid (And.intro (K1.out.1.ext hx12) (K1.out.2.trans hx12)); clear y0 y1 y2 hx2 hx12)
    | (go_at_call 59; refine (H3.out _).mono ?_; rintro e w3 ⟨rfl, hx3⟩; have e0 := (K2.out.1.ext hx3).c 0 _ rfl; have e1 := (K2.out.1.ext hx3).c 1 _ rfl; have e2 := (K2.out.1.ext hx3).c 2 _ rfl; have f0 := (K2.out.1.ext hx3).f 0; have f1 := (K2.out.1.ext hx3).f 1; have f2 := (K2.out.1.ext hx3).f 2; have K3 := Lib.hid (And.intro (K2.out.1.ext hx3) (K2.out.2.trans hx3)); clear v0 v1 v2 hx3))
  refine bodyPost_ret (results_turned rfl _ _ rfl (((K3.out.1.set (j := 0) (by simp) (.int .i64 rx)).set (j := 1) (by simp) (.int .i64 ry)).set (j := 2) (by simp) (.int .i64 rz))) rfl ?_
  exact ⟨rfl, ((K3.out.2.setCell (by simp) _).setCell (by simp) _).setCell (by simp) _⟩
set_option maxRecDepth 100000 in
theorem great_train (A : Option Addr) (c m : Nat) (s : Int) (w : World) :
    Calls Tryz.prog 15 #[.agg #[.int .i64 s, .slice A m c]] w fun e w' => e = .returned (.bool (decide ((30 : Int) < (m : Int)))) ∧ Ext w w' := by
  go_enter Tryz.func15, Tryz.ntmps15
  go_wp2
  go_ret
  exact ⟨rfl, by simp⟩
end Go.Proofs.YtebkhdhhajjhfaaGreat.Lt
