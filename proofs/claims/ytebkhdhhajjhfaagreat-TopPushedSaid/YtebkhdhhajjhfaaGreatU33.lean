/- start: the plan of a right model. -/
import Derived.Test.YtebkhdhhajjhfaaGreatU32
namespace Go.Proofs.YtebkhdhhajjhfaaGreat.Lt
open Go Go.RowKit
theorem CelM.since {w0 w : World} {b n : Nat} {f : Ce → Int → Prop} {g : Ce → Prop} (h : CelM w0 w b n f g) {wa : World} (he : Ext wa w0) : CelM wa w b n f g := by
  obtain ⟨D, h1, h2, h3, h4, h5, h6⟩ := h
  exact ⟨D, h1, h2, h3, h4, he.trans h5, Nat.le_trans he.size h6⟩
theorem JoinT.since {wa w1 w : World} {g m : Nat} {SL : List Nat} (h : JoinT w1 w g m SL) (he : Ext wa w1) : JoinT wa w g m SL := ⟨h.1.since he, h.2⟩
theorem add_at (b o k : Nat) : (⟨b, o, none⟩ : Addr).add k = ⟨b, o + k, none⟩ := by unfold Addr.add; split <;> simp_all
/-- Brick x has the cell. -/
def inF (CL : List (List Ce)) (m : Nat) (c : Ce) (x : Int) : Prop := ∃ i : Nat, i < m ∧ x = (i : Int) ∧ c ∈ klA CL i
/-- One of the first k bricks has the cell. -/
def inG (CL : List (List Ce)) (k : Nat) (c : Ce) : Prop := ∃ i : Nat, i < k ∧ c ∈ klA CL i
def inGt (CL : List (List Ce)) (k t : Nat) (c : Ce) : Prop := inG CL k c ∨ ∃ s, s < t ∧ c = ceA (klA CL k) s
theorem inGt_step {CL : List (List Ce)} {k t : Nat} {c : Ce} (h : inGt CL k (t + 1) c) : inGt CL k t c ∨ c = ceA (klA CL k) t := by
  rcases h with h | ⟨s, h1, h2⟩
  · exact .inl (.inl h)
  · by_cases e : s = t
    · exact .inr (by rw [h2, e])
    · exact .inl (.inr ⟨s, by omega, h2⟩)
theorem inGt_all {CL : List (List Ce)} {k : Nat} {c : Ce} (h : inG CL (k + 1) c) : inGt CL k (klA CL k).length c := by
  obtain ⟨i, h1, h2⟩ := h
  by_cases e : i = k
  · subst e
    obtain ⟨s, h3, h4⟩ := List.getElem_of_mem h2
    exact .inr ⟨s, h3, by rw [ceA_at h3, h4]⟩
  · exact .inl ⟨i, by omega, h2⟩
theorem knobs_i {l : List Ki} {A : Option Addr} {c : Nat} {ms : List Br} {w : World} (hA : KiRow w A l) (h8 : kindsW l) (hv : boundP l ms) {i : Nat} (hi : i < ms.length) : ∀ w', Ext w w' → Calls Tryz.prog 65 #[.slice A l.length c, (brA ms i).val] w' fun e w'' => ∃ g cap, e = .returned (.tuple #[.slice (some ⟨g, 0, none⟩) (klA (ms.map (knoB l)) i).length cap, .int .i64 0]) ∧ Own w' w'' 144 5 (.slice (some ⟨g, 0, none⟩) (klA (ms.map (knoB l)) i).length cap) (klA (ms.map (knoB l)) i).length ((klA (ms.map (knoB l)) i).map Kn.cells).flatten := fun w' he => by
  have := knobsb_any l A c (brA ms i) w' (hA.ext he) h8 hv.1 (hv.2.2 i hi)
  rw [klA_at (by simpa using hi), List.getElem_map, ← brA_at hi, knoB_len]
  exact this
/-- The plan at rest: its cells, which brick has a cell, what is joined to what. -/
def Plan (CL : List (List Ce)) (m : Nat) (gr : Int) (NK : Prop) (w w' : World) (p : Value) : Prop := ∃ (gb gm gj : Nat) (u : Value) (SL : List Nat), p = .pointer (some ⟨gb, 0, none⟩) ∧
  (∀ w'', Ext w' w'' → w''.cell? ⟨gb, 2, none⟩ = some (.int .i64 gr)) ∧ (∀ w'', Ext w' w'' → w''.cell? ⟨gb, 4, none⟩ = some u) ∧ (∀ w'', Ext w' w'' → w''.cell? ⟨gb, 5, none⟩ = some (.map (some gm))) ∧ (∀ w'', Ext w' w'' → w''.cell? ⟨gb, 6, none⟩ = some (.slice (some ⟨gj, 0, none⟩) m m)) ∧
  Tab Ce.cells 60 3 79 w w' u CL ∧ CelM w w' gm (24 * m) (inF CL m) (inG CL m) ∧ JoinT w w' gj m SL ∧ (NK → SL = List.replicate (m * 6) 0)
set_option maxRecDepth 100000 in
set_option maxHeartbeats 4000000 in
theorem start_any (l : List Ki) (A : Option Addr) (c : Nat) (ms : List Br) (M : Option Addr) (mc : Nat) (gr : Int) (F : Option Addr) (f fc : Nat) (w : World) (hA : KiRow w A l) (h8 : kindsW l) (hM : BrRow w M ms) (hbw : bricksW ms) (hv : modelP l ms) :
    Calls Tryz.prog 30 #[.slice A l.length c, .agg #[.slice M ms.length mc], .agg #[.int .i64 gr, .slice F f fc]] w fun e w' => ∃ p, e = .returned p ∧ Ext w w' ∧ Plan (ms.map (celB l)) ms.length gr (∀ i, i < ms.length → (knoB l (brA ms i)).length = 0) w w' p := by
  have Hlk := Lib.hid (fun w' (he : Ext w w') => linksp_any l A c ms M mc w' (hA.ext he) h8 (hM.ext he) hbw hv)
  have Hbr := Lib.hid (fun i (hi : i < ms.length) => hM.at_ hi)
  have Hcl := Lib.hid (fun i (hi : i < ms.length) => cells_i (c := c) hA h8 hv.1 hi)
  have Hkl := Lib.hid (fun i (hi : i < ms.length) => knobs_i (c := c) hA h8 hv.1 hi)
  have Hln := Lib.hid (fun i (hi : i < ms.length) => cl_len hv.1 hi)
  have Hkm := Lib.hid (show ∀ i, i < ms.length → (klA (ms.map (knoB l)) i).length ≤ 48 from fun i hi => by
    rw [klA_at (by simpa using hi), List.getElem_map, ← brA_at hi]
    exact knoB_most hv.1 hi)
  have Hko := Lib.hid (show ∀ i, i < ms.length → ∀ t, t < (klA (ms.map (knoB l)) i).length → KnK (knA (klA (ms.map (knoB l)) i) t) from fun i hi t ht => by
    rw [klA_at (by simpa using hi), List.getElem_map, ← brA_at hi] at ht ⊢
    exact knoB_ok hv.1 h8 hi ht)
  have Hnr := Lib.hid (show ∀ i, i < ms.length → ∀ t, t < (klA (ms.map (celB l)) i).length → nearP (ceA (klA (ms.map (celB l)) i) t) (-2000) 2000 from fun i hi t ht => by
    rw [cl_at hi] at ht ⊢
    rw [ceA_at ht]
    exact celB_near hv.1 hi (List.getElem_mem _))
  have hm40 : ms.length ≤ 40 := hv.1.2.1
  have Hlen := Lib.hid (show (ms.map (celB l)).length = ms.length by simp)
  have HKlen := Lib.hid (show (ms.map (knoB l)).length = ms.length by simp)
  clear hA h8 hM hbw hv
  generalize ms.map (celB l) = CL at *
  generalize ms.map (knoB l) = KL at *
  generalize (∀ i, i < ms.length → (knoB l (brA ms i)).length = 0) = NK at *
  obtain ⟨m, hmE⟩ : ∃ m, m = ms.length := ⟨_, rfl⟩
  obtain ⟨n, hnE⟩ : ∃ n, n = l.length := ⟨_, rfl⟩
  simp only [← hmE, ← hnE] at Hlk Hbr Hcl Hkl Hln Hkm Hko Hnr Hlen HKlen hm40 ⊢
  clear hmE hnE
  have hx1 : Ext w ((w.alloc (.cells #[.slice M m mc] 25)).alloc (.cells #[.int .i64 gr, .slice F f fc] 28)) := ((Ext.refl w).alloc _).alloc _
  have k1 : Blk ((w.alloc (.cells #[.slice M m mc] 25)).alloc (.cells #[.int .i64 gr, .slice F f fc] 28)) w.heap.size [.slice M m mc] := (Blk.new _ _).ext ((Ext.refl _).alloc _)
  have k2 : Blk ((w.alloc (.cells #[.slice M m mc] 25)).alloc (.cells #[.int .i64 gr, .slice F f fc] 28)) (w.heap.size + 1) [.int .i64 gr, .slice F f fc] := Blk.new' (by simp)
  have z0 := k1.at_ 0 rfl
  have z1 := k2.at_ 0 rfl
  have z2 := k2.at_ 1 rfl
  have Hx1 := Lib.hid hx1
  clear k1 k2 hx1
  go_enter Tryz.func30, Tryz.ntmps30
  go_upto_region 1 with (fail)
  generalize ((w.alloc (.cells #[.slice M m mc] 25)).alloc (.cells #[.int .i64 gr, .slice F f fc] 28)) = w1 at *
  obtain ⟨b0, hb0⟩ : ∃ b0, b0 = w.heap.size := ⟨_, rfl⟩
  rw [← hb0] at z0 z1 z2 ⊢
  generalize b0 + 1 = b1 at *
  clear hb0
  have Z0 := Lib.hid z0
  go_wp2
  refine Cg.wp_region_calm (p := Cg.extPre) (fr := (fun _ => false)) 10 (fun _ _ _ _ => True) (fun _ _ _ _ _ _ h => h) (by kernel_rfl) (by kernel_rfl) ?_
  simp only [List.take_succ_cons, List.take_zero, List.drop_succ_cons, List.drop_zero]
  refine Cg.calm_quiet Cg.calm_mono_final w1 (fun _ h => h) 3 (by kernel_rfl) ?_
  simp only [List.take_succ_cons, List.take_zero, List.drop_succ_cons, List.drop_zero]
  repeat (go_big_quiet_step (fail))
  refine wpQuiet_nil ?_
  refine Cg.calm_value Cg.calm_mono_final (fun v w => ∃ b, v = .map (some b) ∧ CelM w1 w b 0 (inF CL m) (fun _ => False)) (fun _ w' w'' hR ⟨b, e, hh⟩ => ⟨b, e, hh.later (show Ext w' w'' from hR)⟩) rfl (fun w' hR _ => by
    have hmm := @run_makeMap Tryz.prog
    exact ⟨.map (some w'.heap.size), w'.alloc (.map #[] 0), by go_simp, (Ext.refl _).alloc _, ⟨_, rfl, CelM.start (show Ext w1 w' from hR) rfl⟩, fun hf => by cases hf⟩) ?_
  rintro _ _ _ ⟨gm, rfl, _⟩ _
  simp only [Act.put, List.setIfInBounds_toArray, List.set_cons_succ, List.set_cons_zero]
  refine Cg.calm_quiet Cg.calm_mono_final w1 (fun _ h => h) 3 (by kernel_rfl) ?_
  simp only [List.take_succ_cons, List.take_zero, List.drop_succ_cons, List.drop_zero]
  repeat (go_big_quiet_step (fail))
  refine wpQuiet_nil ?_
  refine Cg.calm_value Cg.calm_mono_final (fun v w => ∃ b, v = .slice (some ⟨b, 0, none⟩) m m ∧ JoinT w1 w b m (List.replicate (m * 6) 0)) (fun _ w' w'' hR ⟨b, e, hh⟩ => ⟨b, e, hh.later (show Ext w' w'' from hR)⟩) rfl (fun w' hR _ => by
    obtain ⟨w2, hrun, hx2, hj⟩ := make_joined m hm40 w1 w' hR
    exact ⟨_, w2, by go_simp, hx2, ⟨_, rfl, hj⟩, fun hf => by cases hf⟩) ?_
  rintro _ _ _ ⟨gj, rfl, _⟩ _
  simp only [Act.put, List.setIfInBounds_toArray, List.set_cons_succ, List.set_cons_zero]
  refine Cg.calm_value Cg.calm_mono_final (fun v w => ∃ b, v = .map (some b)) (fun _ w' w'' hR hh => hh) rfl (fun w' hR _ => by
    have hmm := @run_makeMap Tryz.prog
    exact ⟨.map (some w'.heap.size), w'.alloc (.map #[] 0), by go_simp, (Ext.refl _).alloc _, ⟨_, rfl⟩, fun hf => by cases hf⟩) ?_
  rintro _ _ _ ⟨gh, rfl⟩ _
  simp only [Act.put, List.setIfInBounds_toArray, List.set_cons_succ, List.set_cons_zero]
  refine Cg.calm_value Cg.calm_mono_final (fun v _ => v = .agg #[.slice A n c, .slice M m mc, .int .i64 gr, .slice F f fc, .slice none 0 0, .map (some gm), .slice (some ⟨gj, 0, none⟩) m m, .map (some gh)]) (fun _ _ _ _ h => h) rfl (fun w' hR _ => ⟨_, w', by go_simp, Ext.refl _, rfl, fun hf => by cases hf⟩) ?_
  rintro _ _ _ rfl _
  simp only [Act.put, List.setIfInBounds_toArray, List.set_cons_succ, List.set_cons_zero]
  refine Cg.calm_nil fun w2 he2 hf2 => ?_
  obtain ⟨gm', e1, hC2⟩ := (hf2.1 3).1.1.1.2 rfl
  cases e1
  obtain ⟨gj', e2, hJ2⟩ := (hf2.1 7).1.1.2 rfl
  cases e2
  have he2 : Ext w1 w2 := he2
  clear hf2
  have hB3 := Own.lit (e := 155) (size := 8) he2 #[.slice A n c, .slice M m mc, .int .i64 gr, .slice F f fc, .slice none 0 0, .map (some gm), .slice (some ⟨gj, 0, none⟩) m m, .map (some gh)] 1 (by unfold maxLen; omega) rfl
  have hx3 : Ext w2 (w2.alloc (.cells #[.slice A n c, .slice M m mc, .int .i64 gr, .slice F f fc, .slice none 0 0, .map (some gm), .slice (some ⟨gj, 0, none⟩) m m, .map (some gh)] 155)) := (Ext.refl _).alloc _
  have HB3 := Lib.hid hB3
  have HC3 := Lib.hid (hC2.later hx3)
  have HJ3 := Lib.hid (hJ2.later hx3)
  have u0 := fun w' he => z0 w' (he2.trans he)
  clear z0 z1 z2 hB3 hC2 hJ2 hx3
  go_wp2
  obtain ⟨gb, hgb⟩ : ∃ gb, gb = w2.heap.size := ⟨_, rfl⟩
  rw [← hgb] at HB3 ⊢
  obtain ⟨w3, hw3⟩ : ∃ w3, w3 = w2.alloc (.cells #[.slice A n c, .slice M m mc, .int .i64 gr, .slice F f fc, .slice none 0 0, .map (some gm), .slice (some ⟨gj, 0, none⟩) m m, .map (some gh)] 155) := ⟨_, rfl⟩
  rw [← hw3] at HB3 HC3 HJ3 ⊢
  clear u0 hw3 hgb he2
  go_loopw [37, 8] (fun i kv wr => ∃ (k : Nat) (u : Value), k ≤ m ∧ i = .int .i64 k ∧ CelM w1 wr gm (24 * k) (inF CL m) (inG CL k) ∧ Tab Ce.cells 60 3 79 w1 wr u (CL.take k) ∧ Tab Kn.cells 144 5 80 w1 wr kv (KL.take k) ∧ Own w1 wr 155 8 (.slice (some ⟨gb, 0, none⟩) 1 1) 1 [.slice A n c, .slice M m mc, .int .i64 gr, .slice F f fc, u, .map (some gm), .slice (some ⟨gj, 0, none⟩) m m, .map (some gh)] ∧ JoinT w1 wr gj m (List.replicate (m * 6) 0)) (fun i _ _ => m - (intOf i).toNat)
  case atStart => exact ⟨0, _, by omega, rfl, HC3.out.mono (Nat.le_refl _) (fun _ _ h => h) (fun c h => by obtain ⟨i, hi, _⟩ := h; omega), Tab.nil HB3.out.ext, Tab.nil HB3.out.ext, HB3.out, HJ3.out⟩
  case round =>
    clear HC3 HB3 HJ3
    obtain ⟨wo, rfl⟩ : ∃ wo : World, wo = wr := ⟨_, rfl⟩
    obtain ⟨k, u, hk, rfl, hC, hT, hQ, hB, hJ⟩ := hrel
    by_cases hlt : k < m
    · have hki : (k : Int) < (m : Int) := by omega
      obtain ⟨am, rfl, x0, x1, x2, x3, x4, x5⟩ := Hbr.out k hlt
      have hex := Hx1.out.trans hB.ext
      have u0 := fun w' he => x0 w' (hex.trans he)
      have u1 := fun w' he => x1 w' (hex.trans he)
      have u2 := fun w' he => x2 w' (hex.trans he)
      have u3 := fun w' he => x3 w' (hex.trans he)
      have u4 := fun w' he => x4 w' (hex.trans he)
      have u5 := fun w' he => x5 w' (hex.trans he)
      have hcl := Hcl.out k hlt
      have hkl := Hkl.out k hlt
      obtain ⟨hl1, hl2⟩ := Hln.out k hlt
      have hnr := Hnr.out k hlt
      have hKk : k < CL.length := by rw [Hlen.out]; exact hlt
      have hKk2 : k < KL.length := by rw [HKlen.out]; exact hlt
      have Htk := Lib.hid (take_klA hKk)
      have Htk2 := Lib.hid (take_klA hKk2)
      obtain ⟨L, hL⟩ : ∃ L, L = (klA CL k).length := ⟨_, rfl⟩
      obtain ⟨L2, hL2⟩ : ∃ L2, L2 = (klA KL k).length := ⟨_, rfl⟩
      rw [← hL] at hcl hl1 hl2 hnr
      rw [← hL2] at hkl
      have HL := Lib.hid hL
      have HL2 := Lib.hid hL2
      have Hcl2 := Lib.hid hcl
      have Hkl2 := Lib.hid hkl
      have Hnr2 := Lib.hid hnr
      have hw1 : IntKind.i64.wrap ((k : Int) + 1) = ((k + 1 : Nat) : Int) := by rw [IntKind.wrap_i64]; omega
      obtain ⟨⟨kind, ⟨ox, oy, oz⟩, trn, col⟩, hbE⟩ : ∃ b, brA ms k = b := ⟨_, rfl⟩
      rw [hbE] at u0 u1 u2 u3 u4 u5 Hcl2 Hkl2
      simp only at u0 u1 u2 u3 u4 u5
      obtain ⟨TA, tc, rfl⟩ := hT.form
      obtain ⟨QA, qc, rfl⟩ := hQ.form
      have htl : (CL.take k).length = k := by rw [List.length_take]; omega
      have htl2 : (KL.take k).length = k := by rw [List.length_take]; omega
      rw [htl] at hT hB
      rw [htl2] at hQ ⊢
      have HC := Lib.hid hC
      have HT := Lib.hid hT
      have HQ := Lib.hid hQ
      have HB := Lib.hid hB
      have HJ := Lib.hid hJ
      have Htl := Lib.hid htl
      have Htl2 := Lib.hid htl2
      have hx5 : Ext wo (wo.alloc (.cells #[.int .i64 kind, .int .i64 ox, .int .i64 oy, .int .i64 oz, .int .u8 trn, .int .u8 col] 85)) := (Ext.refl _).alloc _
      have hk5 : Blk (wo.alloc (.cells #[.int .i64 kind, .int .i64 ox, .int .i64 oy, .int .i64 oz, .int .u8 trn, .int .u8 col] 85)) wo.heap.size [.int .i64 kind, .int .i64 ox, .int .i64 oy, .int .i64 oz, .int .u8 trn, .int .u8 col] := Blk.new _ _
      have Hk5 := Lib.hid hk5
      have Hx5 := Lib.hid hx5
      have Hex := Lib.hid hex
      have hm40' : k ≤ 40 := by omega
      clear x0 x1 x2 x3 x4 x5 hcl hkl hnr hL hL2 hKk hKk2 hC hT hQ hB hJ htl htl2 hbE hx5 hk5 hex
      go_wp2_with (first
        | (go_at_call 36; refine (Hcl2.out _ (Hex.out.trans Hx5.out)).mono ?_; rintro e w6 ⟨g, cap, rfl, ho6⟩; have k6 := Hk5.out.ext ho6.ext; have p0 := k6.at_ 0 rfl; have p1 := k6.at_ 1 rfl; have p2 := k6.at_ 2 rfl; have p3 := k6.at_ 3 rfl; have p4 := k6.at_ 4 rfl; have p5 := k6.at_ 5 rfl; have Hx6 := Lib.hid (Hx5.out.trans ho6.ext); have HO6 := Lib.hid (ho6.since (HB.out.ext.trans Hx5.out)); clear ho6 k6 u0 u1 u2 u3 u4 u5)
        | (go_at_call 65; refine (Hkl2.out _ (Hex.out.trans Hx6.out)).mono ?_; rintro e w7 ⟨h, cap2, rfl, ho7⟩; have hx67 := ho7.ext; have hx7 := Hx6.out.trans hx67; have hx8 := hx7.trans ((Ext.refl w7).alloc (.cells #[.slice (some ⟨g, 0, none⟩) L cap] 79)); have b4 := (HB.out.later hx7).cell (j := 4) (by simp); simp only [List.getElem?_cons_succ, List.getElem?_cons_zero] at b4; have j4 := fun w' (he : Ext w7 w') => he.cell b4; have HB8 := Lib.hid (HB.out.later hx8); have HC8 := Lib.hid (HC.out.later hx8); have HT8 := Lib.hid (HT.out.later hx8); have HQ8 := Lib.hid (HQ.out.later hx8); have HJ8 := Lib.hid (HJ.out.later hx8); have HO8 := Lib.hid ((HO6.out.later hx67).alloc (.cells #[.slice (some ⟨g, 0, none⟩) L cap] 79)); have HN8 := Lib.hid ((ho7.since (HB.out.ext.trans Hx6.out)).alloc (.cells #[.slice (some ⟨g, 0, none⟩) L cap] 79)); have Hrw := Lib.hid (Gr.row_alloc w7 #[.slice (some ⟨g, 0, none⟩) L cap] 79); clear ho7 hx67 hx7 hx8 b4 HB HC HT HQ HJ HO6 p0 p1 p2 p3 p4 p5)
        | (obtain ⟨gs, g1, g2, g3⟩ := HT8.out; rw [Htl.out] at g2; refine Gr.own_append_at cells_elem rfl _ _ 153 rfl Tryz.underlying153 (.slice TA k tc) k _ rfl g2 ⟨w7.heap.size, 0, none⟩ 1 1 [.slice (some ⟨g, 0, none⟩) L cap] rfl rfl Hrw.out (by intro u hu; simp only [List.mem_cons, List.not_mem_nil, or_false] at hu; rcases hu with rfl; rfl) (by omega) (by unfold maxLen; omega) ?_; intro v9 w9 ho9 hg9 hl9; have hbs := (fun j (e : (Value.slice TA k tc).ownBlock = some j) => (g2.2.lt j e).1); have hT9 := (Tab.snoc2 (l := klA CL k) g1 (by rw [Htl.out]; exact g2) g3 (by decide) (by rw [← HL.out]; exact HO8.out) hg9 (by rw [Htl.out, ← HL.out]; exact ho9)); rw [← Htk.out] at hT9; have hB9 := own_grown HB8.out hg9 hbs (own_ne_row HB8.out g2.2 (by decide)); have hC9 := HC8.out.kept hg9 hB9.ext (HC8.out.ne g2); have hQ9 := HQ8.out.row g2 hg9 (by decide) (by decide); have hJ9 := HJ8.out.row g2 hg9 (by decide); have hO9 := own_grown HO8.out hg9 hbs (own_ne_row HO8.out g2.2 (by decide)); have hN9 := own_grown HN8.out hg9 hbs (own_ne_row HN8.out g2.2 (by decide)); obtain ⟨X9, c9, rfl⟩ := ho9.form; have hxa : Ext w9 (w9.alloc (.cells #[.slice (some ⟨h, 0, none⟩) L2 cap2] 80)) := (Ext.refl w9).alloc _; have HB10 := Lib.hid (hB9.later hxa); have HC10 := Lib.hid (hC9.later hxa); have HT10 := Lib.hid (hT9.later hxa); have HQ10 := Lib.hid (hQ9.later hxa); have HJ10 := Lib.hid (hJ9.later hxa); have HO10 := Lib.hid (hO9.later hxa); have HN10 := Lib.hid (hN9.later hxa); have Hrw2 := Lib.hid (Gr.row_alloc w9 #[.slice (some ⟨h, 0, none⟩) L2 cap2] 80); clear ho9 hg9 hl9 hbs hT9 hB9 hC9 hQ9 hJ9 hO9 hN9 hxa g1 g2 g3 HT8 HC8 HB8 HO8 HN8 HQ8 HJ8 j4)
        | (obtain ⟨gs2, e1, e2, e3⟩ := HQ10.out; rw [Htl2.out] at e2; refine Gr.own_append_at knobs_elem rfl _ _ 156 rfl Tryz.underlying156 (.slice QA k qc) k _ rfl e2 ⟨w9.heap.size, 0, none⟩ 1 1 [.slice (some ⟨h, 0, none⟩) L2 cap2] rfl rfl Hrw2.out (by intro u hu; simp only [List.mem_cons, List.not_mem_nil, or_false] at hu; rcases hu with rfl; rfl) (by omega) (by unfold maxLen; omega) ?_; intro v11 w11 ho11 hg11 hl11; have hbs := (fun j (e : (Value.slice QA k qc).ownBlock = some j) => (e2.2.lt j e).1); have hQ11 := (Tab.snoc2 (l := klA KL k) e1 (by rw [Htl2.out]; exact e2) e3 (by decide) (by rw [← HL2.out]; exact HN10.out) hg11 (by rw [Htl2.out, ← HL2.out]; exact ho11)); rw [← Htk2.out] at hQ11; have hB11 := own_grown HB10.out hg11 hbs (own_ne_row HB10.out e2.2 (by decide)); have hC11 := HC10.out.kept hg11 hB11.ext (HC10.out.ne e2); have hT11 := HT10.out.row e2 hg11 (by decide) (by decide); have hJ11 := HJ10.out.row e2 hg11 (by decide); have hO11 := own_grown HO10.out hg11 hbs (own_ne_row HO10.out e2.2 (by decide)); obtain ⟨Y11, d11, rfl⟩ := ho11.form; have c4 := hB11.cell (j := 4) (by simp); simp only [List.getElem?_cons_succ, List.getElem?_cons_zero] at c4; have f4 := hB11.free 4; have hg12 := grown_set w11 ⟨gb, 4, none⟩ (.slice X9 (k + 1) c9); have hB12 := hB11.store 4 (.slice X9 (k + 1) c9); have HT12 := Lib.hid (hT11.row (w' := w11.setCell ⟨gb, 4, none⟩ (.slice X9 (k + 1) c9)) hB11 hg12 (by decide) (by decide)); have HQ12 := Lib.hid (hQ11.row (w' := w11.setCell ⟨gb, 4, none⟩ (.slice X9 (k + 1) c9)) hB11 hg12 (by decide) (by decide)); have HJ12 := Lib.hid (hJ11.row (w' := w11.setCell ⟨gb, 4, none⟩ (.slice X9 (k + 1) c9)) hB11 hg12 (by decide)); have HC12 := Lib.hid (hC11.kept hg12 hB12.ext (hC11.ne hB11)); have HO12 := Lib.hid (own_grown hO11 hg12 (fun j e => (by cases e; exact hB11.ge)) (own_ne_row hO11 hB11.2 (by decide))); have HB12 := Lib.hid hB12; clear ho11 hg11 hl11 hbs hQ11 hB11 hC11 hT11 hJ11 hO11 hg12 hB12 e1 e2 e3 HT10 HC10 HB10 HO10 HN10 HQ10 HJ10))
      obtain ⟨w12, hw12⟩ : ∃ w12, w12 = w11.setCell ⟨gb, 4, none⟩ (.slice X9 (k + 1) c9) := ⟨_, rfl⟩
      rw [← hw12] at HB12 HC12 HT12 HQ12 HJ12 HO12 ⊢
      simp only [List.set_cons_succ, List.set_cons_zero] at HB12
      clear hw12 c4 f4
      go_loopw [70] (fun i wr => ∃ t : Nat, t ≤ L ∧ i = .int .i64 t ∧ CelM w1 wr gm (24 * k + t) (inF CL m) (inGt CL k t) ∧ Tab Ce.cells 60 3 79 w1 wr (.slice X9 (k + 1) c9) (CL.take (k + 1)) ∧ Tab Kn.cells 144 5 80 w1 wr (.slice Y11 (k + 1) d11) (KL.take (k + 1)) ∧ Own w1 wr 155 8 (.slice (some ⟨gb, 0, none⟩) 1 1) 1 [.slice A n c, .slice (some am) m mc, .int .i64 gr, .slice F f fc, .slice X9 (k + 1) c9, .map (some gm), .slice (some ⟨gj, 0, none⟩) m m, .map (some gh)] ∧ JoinT w1 wr gj m (List.replicate (m * 6) 0) ∧ Own w1 wr 60 3 (.slice (some ⟨g, 0, none⟩) L cap) L ((klA CL k).map Ce.cells).flatten) (fun i _ => L - (intOf i).toNat)
      case atStart => exact ⟨0, by omega, rfl, HC12.out.mono (Nat.le_refl _) (fun _ _ h => h) (fun c h => by
        rcases h with h | ⟨s, h1, _⟩
        · exact h
        · omega), HT12.out, HQ12.out, HB12.out, HJ12.out, HO12.out⟩
      case round =>
        clear HC12 HT12 HQ12 HB12 HJ12 HO12
        obtain ⟨t, ht, rfl, hC, hT, hQ, hB, hJ, hO⟩ := hrel
        by_cases hlt2 : t < L
        · have hti : (t : Int) < (L : Int) := by omega
          have hrow : CeRow wr (some ⟨g, 0, none⟩) (klA CL k) := hO.row
          have htk : t < (klA CL k).length := by rw [← HL.out]; exact hlt2
          obtain ⟨_, ee, y0, y1, y2⟩ := hrow.at_ htk
          cases ee
          simp only [add_zero'] at y0 y1 y2
          have hn2 := Hnr2.out t hlt2
          have hin : inF CL m (ceA (klA CL k) t) (k : Int) := ⟨k, hlt, rfl, by rw [ceA_at htk]; exact List.getElem_mem _⟩
          have Hin := Lib.hid hin
          have Hst := Lib.hid (fun c (h : inGt CL k (t + 1) c) => inGt_step h)
          obtain ⟨⟨cx, cy, cz⟩, hcE⟩ : ∃ q, ceA (klA CL k) t = q := ⟨_, rfl⟩
          rw [hcE] at y0 y1 y2 hn2 Hin Hst
          simp only at y0 y1 y2
          have Hn5 := Lib.hid (show nearP ⟨cx, cy, cz⟩ (-5000) 5000 by unfold nearP at *; simp only at *; omega)
          have hw2 : IntKind.i64.wrap ((t : Int) + 1) = ((t + 1 : Nat) : Int) := by rw [IntKind.wrap_i64]; omega
          have hx10 : Ext wr (wr.alloc (.cells #[.int .i64 cx, .int .i64 cy, .int .i64 cz] 60)) := (Ext.refl _).alloc _
          have HC10 := Lib.hid (hC.later hx10)
          have HT10 := Lib.hid (hT.later hx10)
          have HQ10 := Lib.hid (hQ.later hx10)
          have HB10 := Lib.hid (hB.later hx10)
          have HJ10 := Lib.hid (hJ.later hx10)
          have HO10 := Lib.hid (hO.later hx10)
          have k10 : Blk (wr.alloc (.cells #[.int .i64 cx, .int .i64 cy, .int .i64 cz] 60)) wr.heap.size [.int .i64 cx, .int .i64 cy, .int .i64 cz] := Blk.new _ _
          have v0 := k10.at_ 0 rfl
          have v1 := k10.at_ 1 rfl
          have v2 := k10.at_ 2 rfl
          have b5 := (hB.later hx10).cell (j := 5) (by simp)
          simp only [List.getElem?_cons_succ, List.getElem?_cons_zero] at b5
          have v3 := fun w' (he : Ext (wr.alloc (.cells #[.int .i64 cx, .int .i64 cy, .int .i64 cz] 60)) w') => he.cell b5
          clear hC hT hQ hB hJ hO hrow hcE hn2 hx10 k10 b5 hin htk
          go_wp2
          generalize (wr.alloc (.cells #[.int .i64 cx, .int .i64 cy, .int .i64 cz] 60)) = w10 at *
          refine Cg.wp_region_calm (p := Cg.extPre) (fr := (fun _ => false)) 6 (fun j _ v _ => True) (fun _ _ _ _ _ _ h => h) (by kernel_rfl) (by kernel_rfl) ?_
          simp only [List.take_succ_cons, List.take_zero, List.drop_succ_cons, List.drop_zero]
          refine Cg.calm_quiet Cg.calm_mono_final w10 (fun _ h => h) 1 (by kernel_rfl) ?_
          simp only [List.take_succ_cons, List.take_zero, List.drop_succ_cons, List.drop_zero]
          repeat (go_big_quiet_step (fail))
          refine wpQuiet_nil ?_
          refine Cg.calm_value Cg.calm_mono_final (fun v _ => v = .pointer (some ⟨gb, 0, none⟩)) (fun _ _ _ _ h => h) rfl (fun w' hR _ => ⟨_, w', by go_simp, Ext.refl _, rfl, fun hf => by cases hf⟩) ?_
          rintro _ _ _ rfl _
          simp only [Act.put, List.setIfInBounds_toArray, List.set_cons_succ, List.set_cons_zero]
          refine Cg.calm_quiet Cg.calm_mono_final w10 (fun _ h => h) 4 (by kernel_rfl) ?_
          simp only [List.take_succ_cons, List.take_zero, List.drop_succ_cons, List.drop_zero]
          repeat (go_big_quiet_step (fail))
          refine wpQuiet_nil ?_
          refine Cg.calm_nil fun w11 he11 _ => ?_
          have he11 : Ext w10 w11 := he11
          have hc11 := HC10.out.later he11
          have HC11 := Lib.hid hc11
          have HT11 := Lib.hid (HT10.out.later he11)
          have HQ11 := Lib.hid (HQ10.out.later he11)
          have HB11 := Lib.hid (HB10.out.later he11)
          have HJ11 := Lib.hid (HJ10.out.later he11)
          have HO11 := Lib.hid (HO10.out.later he11)
          have Hgm := Lib.hid (show w1.heap.size ≤ gm by obtain ⟨_, _, _, _, _, _, h⟩ := hc11; exact h)
          clear HC10 HT10 HQ10 HB10 HJ10 HO10 he11 v0 v1 v2 v3 y0 y1 y2 hc11
          refine CelM.store rfl _ _ _ rfl rfl HC11.out (by omega) ⟨cx, cy, cz⟩ Hn5.out (k : Int) (by omega) Hin.out rfl rfl ?_
          intro w12 hC12 hg12
          obtain ⟨es, clock, hmap⟩ := HC11.out.isMap
          have HC12 := Lib.hid (hC12.mono (f' := inF CL m) (g' := inGt CL k (t + 1)) (Nat.le_refl _) (fun _ _ h => h) (fun c h => Hst.out c h))
          have HT12 := Lib.hid (HT11.out.map hg12 Hgm.out hmap)
          have HQ12 := Lib.hid (HQ11.out.map hg12 Hgm.out hmap)
          have HJ12 := Lib.hid (HJ11.out.map hg12 Hgm.out hmap)
          have HB12 := Lib.hid (own_grown HB11.out hg12 (fun k e => (by cases e; exact Hgm.out)) (own_ne_map HB11.out hmap))
          have HO12 := Lib.hid (own_grown HO11.out hg12 (fun k e => (by cases e; exact Hgm.out)) (own_ne_map HO11.out hmap))
          clear hC12 hg12 hmap
          go_wp2
          go_roundw
          case rel => exact ⟨t + 1, by omega, by go_num, HC12.out, HT12.out, HQ12.out, HB12.out, HJ12.out, HO12.out⟩
          case measure => simp [intOf]; omega
        · obtain rfl : L = t := by omega
          have HC := Lib.hid (hC.mono (f' := inF CL m) (g' := inG CL (k + 1)) (show 24 * k + L ≤ 24 * (k + 1) by omega) (fun _ _ h => h) (fun c h => by rw [HL.out]; exact inGt_all h))
          have HT := Lib.hid hT
          have HQ := Lib.hid hQ
          have HB := Lib.hid hB
          have HJ := Lib.hid hJ
          clear hC hT hQ hB hJ hO
          go_wp2
          go_roundw
          case rel => exact ⟨k + 1, _, by omega, by go_num, HC.out, HT.out, HQ.out, HB.out, HJ.out⟩
          case measure => simp [intOf]; omega
    · obtain rfl : m = k := by omega
      have hall : CL.take m = CL := List.take_of_length_le (by rw [Hlen.out]; exact Nat.le_refl _)
      have hall2 : KL.take m = KL := List.take_of_length_le (by rw [HKlen.out]; exact Nat.le_refl _)
      rw [hall] at hT
      rw [hall2] at hQ
      have HT := Lib.hid hT
      have HQ := Lib.hid hQ
      have HB := Lib.hid hB
      have HC := Lib.hid hC
      have HJ := Lib.hid hJ
      have u0 := fun w' he => Z0.out w' (hB.ext.trans he)
      have Hxo := Lib.hid (Hx1.out.trans hB.ext)
      clear hC hT hQ hB hJ hall hall2 Hcl Hkl Hbr Hnr Hln
      go_wp2_with (go_at_call 66; refine (Hlk.out _ Hxo.out).mono ?_; rintro e w15 ⟨V, vc, LL, rfl, hN, hok, hll, hnk⟩; obtain ⟨N, hNE⟩ : ∃ N, N = LL.length := ⟨_, rfl⟩; rw [← hNE] at hN hll ⊢; have hx15 := hN.ext; have HN15 := Lib.hid (hN.since (HB.out.ext)); have HT15 := Lib.hid (HT.out.later hx15); have HQ15 := Lib.hid (HQ.out.later hx15); have HB15 := Lib.hid (HB.out.later hx15); have HC15 := Lib.hid (HC.out.later hx15); have HJ15 := Lib.hid (HJ.out.later hx15); have Hok := Lib.hid hok; have Hll := Lib.hid hll; have Hnk := Lib.hid hnk; have HNE := Lib.hid hNE; clear hN hok hll hnk hx15 u0 HT HQ HB HC HJ hNE)
      obtain ⟨QA, qc, rfl⟩ := HQ15.out.form
      rw [HKlen.out] at HQ15 ⊢
      go_loopw [90] (fun i wr => ∃ (t : Nat) (SL : List Nat), t ≤ N ∧ i = .int .i64 t ∧ JoinT w1 wr gj m SL ∧ Hid (t = 0 → SL = List.replicate (m * 6) 0) ∧ CelM w1 wr gm (24 * m) (inF CL m) (inG CL m) ∧ Tab Ce.cells 60 3 79 w1 wr u CL ∧ Tab Kn.cells 144 5 80 w1 wr (.slice QA m qc) KL ∧ Own w1 wr 155 8 (.slice (some ⟨gb, 0, none⟩) 1 1) 1 [.slice A n c, .slice M m mc, .int .i64 gr, .slice F f fc, u, .map (some gm), .slice (some ⟨gj, 0, none⟩) m m, .map (some gh)] ∧ Own w1 wr 163 5 (.slice V N vc) LL.length (LL.map Lnk.cells).flatten) (fun i _ => N - (intOf i).toNat)
      case atStart => exact ⟨0, _, by omega, rfl, HJ15.out, Lib.hid (fun _ => rfl), HC15.out, HT15.out, HQ15.out, HB15.out, HN15.out⟩
      case round =>
        clear HJ15 HC15 HT15 HQ15 HB15 HN15
        obtain ⟨t, SL, ht, rfl, hJ, HS0, hC, hT, hQ, hB, hN⟩ := hrel
        by_cases hlt3 : t < N
        · have hti : (t : Int) < (N : Int) := by omega
          have hlN := Hll.out
          obtain ⟨gl, vc', e, _, _⟩ := hN.at_ (show 0 < LL.length by rw [← HNE.out]; omega)
          obtain rfl : V = some ⟨gl, 0, none⟩ := by simp only [Value.slice.injEq] at e; exact e.1
          clear e
          have hrow : LnRow wr (some ⟨gl, 0, none⟩) LL := hN.row
          have htl3 : t < LL.length := by rw [← HNE.out]; exact hlt3
          obtain ⟨_, ee, y0, y1, y2, y3, y4⟩ := hrow.at_ htl3
          cases ee
          simp only [add_zero'] at y0 y1 y2 y3 y4
          have hlk := Hok.out (lnA LL t) (by rw [lnA_at htl3]; exact List.getElem_mem _)
          obtain ⟨⟨a, b, ka, ob, sr⟩, hLE⟩ : ∃ x, lnA LL t = x := ⟨_, rfl⟩
          rw [hLE] at y0 y1 y2 y3 y4 hlk
          obtain ⟨a0, ab, b1, k0, k1, o0, o1, hsr⟩ := hlk
          simp only at y0 y1 y2 y3 y4 a0 ab b1 k0 k1 o0 o1 hsr
          obtain ⟨an, rfl⟩ : ∃ an : Nat, a = an := ⟨a.toNat, by omega⟩
          obtain ⟨bn, rfl⟩ : ∃ bn : Nat, b = bn := ⟨b.toNat, by omega⟩
          obtain ⟨kn, rfl⟩ : ∃ kn : Nat, ka = kn := ⟨ka.toNat, by omega⟩
          obtain ⟨on, rfl⟩ : ∃ on : Nat, ob = on := ⟨ob.toNat, by omega⟩
          rw [HKlen.out] at b1
          simp only [Int.toNat_natCast] at k1 o1
          have hK1 : kn < (klA KL an).length := by omega
          have hO1 : on < (klA KL bn).length := by omega
          have ham : (an : Int) < (m : Int) := by omega
          obtain ⟨ad2, c2, g2, gc2, ee2, hcell2, hO2⟩ := hQ.get (show an < KL.length by rw [HKlen.out]; omega)
          rw [HKlen.out] at ee2
          obtain rfl : QA = some ad2 := by simp only [Value.slice.injEq] at ee2; exact ee2.1
          obtain ⟨ad3, c3, g3, gc3, ee3, hcell3, hO3⟩ := hQ.get (show bn < KL.length by rw [HKlen.out]; omega)
          rw [HKlen.out] at ee3
          obtain rfl : ad2 = ad3 := by simp only [Value.slice.injEq, Option.some.injEq] at ee3; exact ee3.1
          clear ee2 c2 ee3 c3
          have hrow2 : KnRow wr (some ⟨g2, 0, none⟩) (klA KL an) := hO2.row
          have hrow3 : KnRow wr (some ⟨g3, 0, none⟩) (klA KL bn) := hO3.row
          obtain ⟨_, ee2, _, _, _, d3, _⟩ := hrow2.at_ hK1
          cases ee2
          obtain ⟨_, ee3, _, _, _, e3, _⟩ := hrow3.at_ hO1
          cases ee3
          simp only [add_zero'] at d3 e3
          obtain ⟨_, q0, q1, _, _⟩ := Hko.out an (by omega) kn hK1
          obtain ⟨_, r0, r1, _, _⟩ := Hko.out bn (by omega) on hO1
          obtain ⟨da, hda⟩ : ∃ q, (knA (klA KL an) kn).dir = q := ⟨_, rfl⟩
          obtain ⟨db, hdb⟩ : ∃ q, (knA (klA KL bn) on).dir = q := ⟨_, rfl⟩
          rw [hda] at d3 q0 q1
          rw [hdb] at e3 r0 r1
          obtain ⟨dn, rfl⟩ : ∃ dn : Nat, da = dn := ⟨da.toNat, by omega⟩
          obtain ⟨en, rfl⟩ : ∃ en : Nat, db = en := ⟨db.toNat, by omega⟩
          have hkl1 : (kn : Int) < ((klA KL an).length : Int) := by omega
          have hol1 : (on : Int) < ((klA KL bn).length : Int) := by omega
          obtain ⟨nx, hnx⟩ : ∃ nx, nx = (klA KL an).length := ⟨_, rfl⟩
          obtain ⟨ny, hny⟩ : ∃ ny, ny = (klA KL bn).length := ⟨_, rfl⟩
          rw [← hnx] at hkl1 hcell2
          rw [← hny] at hol1 hcell3
          have hw2 : IntKind.i64.wrap ((t : Int) + 1) = ((t + 1 : Nat) : Int) := by rw [IntKind.wrap_i64]; omega
          have hjlt := (World.ownsRow.lt hJ.1.2 gj rfl).2
          have hx16 : Ext wr (wr.alloc (.cells #[.int .i64 an, .int .i64 bn, .int .i64 kn, .int .i64 on, .int .u8 sr] 163)) := (Ext.refl _).alloc _
          have hk16 : Blk (wr.alloc (.cells #[.int .i64 an, .int .i64 bn, .int .i64 kn, .int .i64 on, .int .u8 sr] 163)) wr.heap.size [.int .i64 an, .int .i64 bn, .int .i64 kn, .int .i64 on, .int .u8 sr] := Blk.new _ _
          have HJ := Lib.hid (hJ.later hx16)
          have HC := Lib.hid (hC.later hx16)
          have HT := Lib.hid (hT.later hx16)
          have HQ := Lib.hid (hQ.later hx16)
          have HB := Lib.hid (hB.later hx16)
          have HN := Lib.hid (hN.later hx16)
          have HK16 := Lib.hid hk16
          have p0 := hk16.at_ 0 rfl
          have p1 := hk16.at_ 1 rfl
          have p2 := hk16.at_ 2 rfl
          have p3 := hk16.at_ 3 rfl
          have s2 := fun w' he => hcell2 w' (hx16.trans he)
          have s3 := fun w' he => hcell3 w' (hx16.trans he)
          have t2 := fun w' he => d3 w' (hx16.trans he)
          have t3 := fun w' he => e3 w' (hx16.trans he)
          clear hJ hC hT hQ hB hN hrow hrow2 hrow3 hLE hO2 hO3 hda hdb hnx hny hx16 hk16 hcell2 hcell3 d3 e3 k0 k1 o0 o1 hK1 hO1 a0
          go_wp2
          generalize (wr.alloc (.cells #[.int .i64 an, .int .i64 bn, .int .i64 kn, .int .i64 on, .int .u8 sr] 163)) = w16 at *
          obtain ⟨gl2, hgl2⟩ : ∃ gl2, gl2 = wr.heap.size := ⟨_, rfl⟩
          rw [← hgl2] at HK16 p0 p1 p2 p3 ⊢
          have hgjl : gj ≠ gl2 := by omega
          clear hgl2 hjlt
          refine Cg.wp_region_calm (p := Cg.extPre) (fr := (fun _ => false)) 22 (fun j _ v _ => True) (fun _ _ _ _ _ _ h => h) (by kernel_rfl) (by kernel_rfl) ?_
          simp only [List.take_succ_cons, List.take_zero, List.drop_succ_cons, List.drop_zero]
          refine Cg.calm_quiet Cg.calm_mono_final w16 (fun _ h => h) 22 (by kernel_rfl) ?_
          simp only [List.take_succ_cons, List.take_zero, List.drop_succ_cons, List.drop_zero]
          repeat (go_big_quiet_step (fail))
          refine wpQuiet_nil ?_
          refine Cg.calm_nil fun w17 he17 _ => ?_
          have he17 : Ext w16 w17 := he17
          have hJ17 := HJ.out.later he17
          have HC17 := Lib.hid (HC.out.later he17)
          have HT17 := Lib.hid (HT.out.later he17)
          have HQ17 := Lib.hid (HQ.out.later he17)
          have HB17 := Lib.hid (HB.out.later he17)
          have HN17 := Lib.hid (HN.out.later he17)
          have HK17 := Lib.hid (HK16.out.ext he17)
          have n0 := fun w' he => p0 w' (he17.trans he)
          have n1 := fun w' he => p1 w' (he17.trans he)
          have b6 := HB17.out.cell (j := 6) (by simp)
          simp only [List.getElem?_cons_succ, List.getElem?_cons_zero] at b6
          have j6 := fun w' (he : Ext w17 w') => he.cell b6
          have hj1 : an * 6 + dn < m * 6 := by omega
          have hc1 := hJ17.cell hj1
          have hS1 := hJ17.lt (an * 6 + dn)
          generalize SL.getD (an * 6 + dn) 0 = S1 at hc1 hS1
          have m1 := fun w' (he : Ext w17 w') => he.cell hc1
          have hw1 := fun w' => with_any S1 bn w' hS1 (by omega)
          have Hw1 := Lib.hid (show ∀ w', Calls Tryz.prog 64 #[.int .u64 S1, .int .i64 bn] w' fun e w'' => e = .returned (.int .u64 ((S1 ||| 2 ^ bn : Nat) : Int)) ∧ Ext w' w'' from fun w' => (hw1 w').mono fun e w'' h => ⟨h.1, by rw [← h.2]; exact Ext.refl _⟩)
          have ha1 := add_zero' gj (an * 6)
          have ha2 : (⟨gj, an * 6, none⟩ : Addr).add dn = ⟨gj, an * 6 + dn, none⟩ := add_at gj (an * 6) dn
          have hd6 : (dn : Int) < 6 := by omega
          have HJ17 := Lib.hid hJ17
          clear HJ HC HT HQ HB HN HK16 p0 p1 p2 p3 s2 s3 t2 t3 b6 hc1 hw1 he17 hJ17
          go_wp2
          refine Cg.wp_region_calm (p := Cg.extPre) (fr := (fun _ => false)) 22 (fun j _ v _ => (j = 19 → v = .int .u64 ((S1 ||| 2 ^ bn : Nat) : Int))) (fun _ _ _ _ _ _ h => h) (by kernel_rfl) (by kernel_rfl) ?_
          simp only [List.take_succ_cons, List.take_zero, List.drop_succ_cons, List.drop_zero]
          refine Cg.calm_quiet Cg.calm_mono_final w17 (fun _ h => h) 1 (by kernel_rfl) ?_
          simp only [List.take_succ_cons, List.take_zero, List.drop_succ_cons, List.drop_zero]
          repeat (go_big_quiet_step (fail))
          refine wpQuiet_nil ?_
          refine Cg.calm_value Cg.calm_mono_final (fun v _ => v = .pointer (some ⟨gb, 0, none⟩)) (fun _ _ _ _ h => h) rfl (fun w' hR _ => ⟨_, w', by go_simp, Ext.refl _, rfl, fun hf => by cases hf⟩) ?_
          rintro _ _ _ rfl _
          simp only [Act.put, List.setIfInBounds_toArray, List.set_cons_succ, List.set_cons_zero]
          refine Cg.calm_quiet Cg.calm_mono_final w17 (fun _ h => h) 6 (by kernel_rfl) ?_
          simp only [List.take_succ_cons, List.take_zero, List.drop_succ_cons, List.drop_zero]
          repeat (go_big_quiet_step (fail))
          refine wpQuiet_nil ?_
          refine Cg.calm_value Cg.calm_mono_final (fun v _ => v = .pointer (some ⟨gb, 0, none⟩)) (fun _ _ _ _ h => h) rfl (fun w' hR _ => ⟨_, w', by go_simp, Ext.refl _, rfl, fun hf => by cases hf⟩) ?_
          rintro _ _ _ rfl _
          simp only [Act.put, List.setIfInBounds_toArray, List.set_cons_succ, List.set_cons_zero]
          refine Cg.calm_quiet Cg.calm_mono_final w17 (fun _ h => h) 5 (by kernel_rfl) ?_
          simp only [List.take_succ_cons, List.take_zero, List.drop_succ_cons, List.drop_zero]
          repeat (go_big_quiet_step (fail))
          refine wpQuiet_nil ?_
          refine Cg.calm_value Cg.calm_mono_final (fun v _ => v = .pointer (some ⟨gj, an * 6, none⟩)) (fun _ _ _ _ h => h) rfl (fun w' hR _ => ⟨_, w', by go_simp, Ext.refl _, rfl, fun hf => by cases hf⟩) ?_
          rintro _ _ _ rfl _
          simp only [Act.put, List.setIfInBounds_toArray, List.set_cons_succ, List.set_cons_zero]
          refine Cg.calm_value Cg.calm_mono_final (fun v _ => v = .pointer (some ⟨gj, an * 6 + dn, none⟩)) (fun _ _ _ _ h => h) rfl (fun w' hR _ => ⟨_, w', by go_simp, Ext.refl _, rfl, fun hf => by cases hf⟩) ?_
          rintro _ _ _ rfl _
          simp only [Act.put, List.setIfInBounds_toArray, List.set_cons_succ, List.set_cons_zero]
          refine Cg.calm_quiet Cg.calm_mono_final w17 (fun _ h => h) 3 (by kernel_rfl) ?_
          simp only [List.take_succ_cons, List.take_zero, List.drop_succ_cons, List.drop_zero]
          repeat (go_big_quiet_step (fail))
          refine wpQuiet_nil ?_
          refine Cg.calm_call Cg.calm_mono_final 64 #[.int .u64 S1, .int .i64 bn] rfl (fun w => ?_) (fun w he hF => ?_) ?_
          · go_simp
          · exact (Hw1.out w).mono fun e w'' ⟨he', hx⟩ => ⟨_, he', hx, fun _ => rfl, fun h => by cases h⟩
          rintro _ _ _ h _
          cases h rfl
          simp only [Act.put, List.setIfInBounds_toArray, List.set_cons_succ, List.set_cons_zero]
          refine Cg.calm_value Cg.calm_mono_final (fun v _ => v = .pointer (some ⟨gj, an * 6, none⟩)) (fun _ _ _ _ h => h) rfl (fun w' hR _ => ⟨_, w', by go_simp, Ext.refl _, rfl, fun hf => by cases hf⟩) ?_
          rintro _ _ _ rfl _
          simp only [Act.put, List.setIfInBounds_toArray, List.set_cons_succ, List.set_cons_zero]
          refine Cg.calm_value Cg.calm_mono_final (fun v _ => v = .pointer (some ⟨gj, an * 6 + dn, none⟩)) (fun _ _ _ _ h => h) rfl (fun w' hR _ => ⟨_, w', by go_simp, Ext.refl _, rfl, fun hf => by cases hf⟩) ?_
          rintro _ _ _ rfl _
          simp only [Act.put, List.setIfInBounds_toArray, List.set_cons_succ, List.set_cons_zero]
          refine Cg.calm_nil fun w18 he18 _ => ?_
          have he18 : Ext w17 w18 := he18
          have hJ18 := HJ17.out.later he18
          have hC18 := HC17.out.later he18
          have hT18 := HT17.out.later he18
          have hQ18 := HQ17.out.later he18
          have hB18 := HB17.out.later he18
          have hN18 := HN17.out.later he18
          have c18 := m1 w18 he18
          have f18 := hJ18.1.free (an * 6 + dn)
          have hS2 := or_pow_lt (S := S1) (p := bn) hS1 (by omega)
          have hg19 := grown_set w18 ⟨gj, an * 6 + dn, none⟩ (.int .u64 ((S1 ||| 2 ^ bn : Nat) : Int))
          have hJ19 := hJ18.store (an * 6 + dn) hS2
          have HC19 := Lib.hid (hC18.kept hg19 hJ19.1.ext (hC18.ne hJ18.1))
          have HT19 := Lib.hid (hT18.row (w' := w18.setCell ⟨gj, an * 6 + dn, none⟩ (.int .u64 ((S1 ||| 2 ^ bn : Nat) : Int))) hJ18.1 hg19 (by decide) (by decide))
          have HQ19 := Lib.hid (hQ18.row (w' := w18.setCell ⟨gj, an * 6 + dn, none⟩ (.int .u64 ((S1 ||| 2 ^ bn : Nat) : Int))) hJ18.1 hg19 (by decide) (by decide))
          have HB19 := Lib.hid (own_grown hB18 hg19 (fun j e => (by cases e; exact hJ18.1.ge)) (own_ne_row hB18 hJ18.1.2 (by decide)))
          have HN19 := Lib.hid (own_grown hN18 hg19 (fun j e => (by cases e; exact hJ18.1.ge)) (own_ne_row hN18 hJ18.1.2 (by decide)))
          have HK19 := Lib.hid ((HK17.out.ext he18).other (b := gj) (k := an * 6 + dn) hgjl (.int .u64 ((S1 ||| 2 ^ bn : Nat) : Int)))
          have HJ19 := Lib.hid hJ19
          clear hJ18 hC18 hT18 hQ18 hB18 hN18 hS2 hg19 hJ19 HC17 HT17 HQ17 HB17 HN17 HJ17 HK17 n0 n1 j6 m1 Hw1 he18 hS1 ha1 ha2 hd6
          go_upto_region 21 with (fail)
          generalize (w18.setCell ⟨gj, an * 6 + dn, none⟩ (.int .u64 ((S1 ||| 2 ^ bn : Nat) : Int))) = w19 at *
          generalize (SL.set (an * 6 + dn) (S1 ||| 2 ^ bn)) = SL2 at *
          clear c18 f18
          have n0 := HK19.out.at_ 0 rfl
          have n1 := HK19.out.at_ 1 rfl
          have b6 := HB19.out.cell (j := 6) (by simp)
          simp only [List.getElem?_cons_succ, List.getElem?_cons_zero] at b6
          have j6 := fun w' (he : Ext w19 w') => he.cell b6
          have hj2 : bn * 6 + en < m * 6 := by omega
          have hc2 := HJ19.out.cell hj2
          have hS2 := HJ19.out.lt (bn * 6 + en)
          generalize SL2.getD (bn * 6 + en) 0 = S2 at hc2 hS2
          have m1 := fun w' (he : Ext w19 w') => he.cell hc2
          have hw2' := fun w' => with_any S2 an w' hS2 (by omega)
          have Hw2 := Lib.hid (show ∀ w', Calls Tryz.prog 64 #[.int .u64 S2, .int .i64 an] w' fun e w'' => e = .returned (.int .u64 ((S2 ||| 2 ^ an : Nat) : Int)) ∧ Ext w' w'' from fun w' => (hw2' w').mono fun e w'' h => ⟨h.1, by rw [← h.2]; exact Ext.refl _⟩)
          have ha1 := add_zero' gj (bn * 6)
          have ha2 : (⟨gj, bn * 6, none⟩ : Addr).add en = ⟨gj, bn * 6 + en, none⟩ := add_at gj (bn * 6) en
          have hd6 : (en : Int) < 6 := by omega
          clear b6 hc2 hw2'
          go_wp2
          refine Cg.wp_region_calm (p := Cg.extPre) (fr := (fun _ => false)) 22 (fun j _ v _ => (j = 19 → v = .int .u64 ((S2 ||| 2 ^ an : Nat) : Int))) (fun _ _ _ _ _ _ h => h) (by kernel_rfl) (by kernel_rfl) ?_
          simp only [List.take_succ_cons, List.take_zero, List.drop_succ_cons, List.drop_zero]
          refine Cg.calm_quiet Cg.calm_mono_final w19 (fun _ h => h) 1 (by kernel_rfl) ?_
          simp only [List.take_succ_cons, List.take_zero, List.drop_succ_cons, List.drop_zero]
          repeat (go_big_quiet_step (fail))
          refine wpQuiet_nil ?_
          refine Cg.calm_value Cg.calm_mono_final (fun v _ => v = .pointer (some ⟨gb, 0, none⟩)) (fun _ _ _ _ h => h) rfl (fun w' hR _ => ⟨_, w', by go_simp, Ext.refl _, rfl, fun hf => by cases hf⟩) ?_
          rintro _ _ _ rfl _
          simp only [Act.put, List.setIfInBounds_toArray, List.set_cons_succ, List.set_cons_zero]
          refine Cg.calm_quiet Cg.calm_mono_final w19 (fun _ h => h) 6 (by kernel_rfl) ?_
          simp only [List.take_succ_cons, List.take_zero, List.drop_succ_cons, List.drop_zero]
          repeat (go_big_quiet_step (fail))
          refine wpQuiet_nil ?_
          refine Cg.calm_value Cg.calm_mono_final (fun v _ => v = .pointer (some ⟨gb, 0, none⟩)) (fun _ _ _ _ h => h) rfl (fun w' hR _ => ⟨_, w', by go_simp, Ext.refl _, rfl, fun hf => by cases hf⟩) ?_
          rintro _ _ _ rfl _
          simp only [Act.put, List.setIfInBounds_toArray, List.set_cons_succ, List.set_cons_zero]
          refine Cg.calm_quiet Cg.calm_mono_final w19 (fun _ h => h) 5 (by kernel_rfl) ?_
          simp only [List.take_succ_cons, List.take_zero, List.drop_succ_cons, List.drop_zero]
          repeat (go_big_quiet_step (fail))
          refine wpQuiet_nil ?_
          refine Cg.calm_value Cg.calm_mono_final (fun v _ => v = .pointer (some ⟨gj, bn * 6, none⟩)) (fun _ _ _ _ h => h) rfl (fun w' hR _ => ⟨_, w', by go_simp, Ext.refl _, rfl, fun hf => by cases hf⟩) ?_
          rintro _ _ _ rfl _
          simp only [Act.put, List.setIfInBounds_toArray, List.set_cons_succ, List.set_cons_zero]
          refine Cg.calm_value Cg.calm_mono_final (fun v _ => v = .pointer (some ⟨gj, bn * 6 + en, none⟩)) (fun _ _ _ _ h => h) rfl (fun w' hR _ => ⟨_, w', by go_simp, Ext.refl _, rfl, fun hf => by cases hf⟩) ?_
          rintro _ _ _ rfl _
          simp only [Act.put, List.setIfInBounds_toArray, List.set_cons_succ, List.set_cons_zero]
          refine Cg.calm_quiet Cg.calm_mono_final w19 (fun _ h => h) 3 (by kernel_rfl) ?_
          simp only [List.take_succ_cons, List.take_zero, List.drop_succ_cons, List.drop_zero]
          repeat (go_big_quiet_step (fail))
          refine wpQuiet_nil ?_
          refine Cg.calm_call Cg.calm_mono_final 64 #[.int .u64 S2, .int .i64 an] rfl (fun w => ?_) (fun w he hF => ?_) ?_
          · go_simp
          · exact (Hw2.out w).mono fun e w'' ⟨he', hx⟩ => ⟨_, he', hx, fun _ => rfl, fun h => by cases h⟩
          rintro _ _ _ h _
          cases h rfl
          simp only [Act.put, List.setIfInBounds_toArray, List.set_cons_succ, List.set_cons_zero]
          refine Cg.calm_value Cg.calm_mono_final (fun v _ => v = .pointer (some ⟨gj, bn * 6, none⟩)) (fun _ _ _ _ h => h) rfl (fun w' hR _ => ⟨_, w', by go_simp, Ext.refl _, rfl, fun hf => by cases hf⟩) ?_
          rintro _ _ _ rfl _
          simp only [Act.put, List.setIfInBounds_toArray, List.set_cons_succ, List.set_cons_zero]
          refine Cg.calm_value Cg.calm_mono_final (fun v _ => v = .pointer (some ⟨gj, bn * 6 + en, none⟩)) (fun _ _ _ _ h => h) rfl (fun w' hR _ => ⟨_, w', by go_simp, Ext.refl _, rfl, fun hf => by cases hf⟩) ?_
          rintro _ _ _ rfl _
          simp only [Act.put, List.setIfInBounds_toArray, List.set_cons_succ, List.set_cons_zero]
          refine Cg.calm_nil fun w20 he20 _ => ?_
          have he20 : Ext w19 w20 := he20
          have hJ18 := HJ19.out.later he20
          have hC18 := HC19.out.later he20
          have hT18 := HT19.out.later he20
          have hQ18 := HQ19.out.later he20
          have hB18 := HB19.out.later he20
          have hN18 := HN19.out.later he20
          have c18 := m1 w20 he20
          have f18 := hJ18.1.free (bn * 6 + en)
          have hS3 := or_pow_lt (S := S2) (p := an) hS2 (by omega)
          have hg19 := grown_set w20 ⟨gj, bn * 6 + en, none⟩ (.int .u64 ((S2 ||| 2 ^ an : Nat) : Int))
          have hJ21 := hJ18.store (bn * 6 + en) hS3
          have HC21 := Lib.hid (hC18.kept hg19 hJ21.1.ext (hC18.ne hJ18.1))
          have HT21 := Lib.hid (hT18.row (w' := w20.setCell ⟨gj, bn * 6 + en, none⟩ (.int .u64 ((S2 ||| 2 ^ an : Nat) : Int))) hJ18.1 hg19 (by decide) (by decide))
          have HQ21 := Lib.hid (hQ18.row (w' := w20.setCell ⟨gj, bn * 6 + en, none⟩ (.int .u64 ((S2 ||| 2 ^ an : Nat) : Int))) hJ18.1 hg19 (by decide) (by decide))
          have HB21 := Lib.hid (own_grown hB18 hg19 (fun j e => (by cases e; exact hJ18.1.ge)) (own_ne_row hB18 hJ18.1.2 (by decide)))
          have HN21 := Lib.hid (own_grown hN18 hg19 (fun j e => (by cases e; exact hJ18.1.ge)) (own_ne_row hN18 hJ18.1.2 (by decide)))
          have HJ21 := Lib.hid hJ21
          clear hJ18 hC18 hT18 hQ18 hB18 hN18 hS3 hg19 hJ21 HC19 HT19 HQ19 HB19 HN19 HJ19 HK19 n0 n1 j6 m1 Hw2 he20 hS2 ha1 ha2 hd6
          go_wp2
          go_roundw
          case rel => exact ⟨t + 1, _, by omega, by go_num, HJ21.out, Lib.hid (fun h => absurd h (by omega)), HC21.out, HT21.out, HQ21.out, HB21.out, HN21.out⟩
          case measure => simp [intOf]; omega
        · obtain rfl : N = t := by omega
          have HJ := Lib.hid hJ
          have HC := Lib.hid hC
          have HT := Lib.hid hT
          have HB := Lib.hid hB
          clear hJ hC hT hQ hB hN
          go_wp2
          go_ret
          have hx := Hx1.out
          have c2 := HB.out.cell (j := 2) (by simp)
          have c4 := HB.out.cell (j := 4) (by simp)
          have c5 := HB.out.cell (j := 5) (by simp)
          have c6 := HB.out.cell (j := 6) (by simp)
          simp only [List.getElem?_cons_succ, List.getElem?_cons_zero] at c2 c4 c5 c6
          exact ⟨_, rfl, hx.trans HB.out.ext, gb, gm, gj, u, SL, rfl, fun w'' he => he.cell c2, fun w'' he => he.cell c4, fun w'' he => he.cell c5, fun w'' he => he.cell c6, HT.out.since hx, HC.out.since hx, HJ.out.since hx, fun hnk => HS0.out (by rw [HNE.out, Hnk.out hnk]; rfl)⟩
end Go.Proofs.YtebkhdhhajjhfaaGreat.Lt
