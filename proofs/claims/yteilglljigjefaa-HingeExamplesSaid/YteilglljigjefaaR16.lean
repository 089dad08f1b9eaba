/- Two panels: by both. -/
import Derived.Test.YteilglljigjefaaR15
namespace Go.Proofs.Yteilglljigjefaa
open Go.RowKit
def twoP (ps : List (List Sp)) (i k : Int) : Prop := inP ps i ∧ inP ps k ∧ i ≠ k
instance (ps : List (List Sp)) (i k : Int) : Decidable (twoP ps i k) := by unfold twoP; infer_instance
def twoE (ps : List (List Sp)) (hs : List Hg) (i k : Int) : Int := if linkP ps hs then (if twoP ps i k then 0 else 2) else 50
theorem two_bad {ps : List (List Sp)} {hs : List Hg} {i k : Int} (h : ¬ linkP ps hs) : twoE ps hs i k = 50 := if_neg h
theorem two_arg {ps : List (List Sp)} {hs : List Hg} {i k : Int} (h : linkP ps hs) (h2 : ¬ twoP ps i k) : twoE ps hs i k = 2 := by rw [twoE, if_pos h, if_neg h2]
theorem two_good {ps : List (List Sp)} {hs : List Hg} {i k : Int} (h : linkP ps hs) (h2 : twoP ps i k) : twoE ps hs i k = 0 := by rw [twoE, if_pos h, if_pos h2]
theorem two_cases (ps : List (List Sp)) (hs : List Hg) (i k : Int) : (linkP ps hs ∧ (∃ a b : Nat, i = a ∧ k = b ∧ a < ps.length ∧ b < ps.length ∧ a ≠ b) ∧ twoE ps hs i k = 0) ∨ ((twoE ps hs i k = 2 ∨ twoE ps hs i k = 50) ∧ ¬ (linkP ps hs ∧ twoP ps i k)) := by
  by_cases h1 : linkP ps hs
  · by_cases h2 : twoP ps i k
    · refine .inl ⟨h1, ?_, two_good h1 h2⟩
      obtain ⟨⟨a1, a2⟩, ⟨b1, b2⟩, hne⟩ := h2
      obtain ⟨a, rfl⟩ := Int.eq_ofNat_of_zero_le a1
      obtain ⟨b, rfl⟩ := Int.eq_ofNat_of_zero_le b1
      exact ⟨a, b, rfl, rfl, by omega, by omega, by omega⟩
    · exact .inr ⟨.inl (two_arg h1 h2), fun h => h2 h.2⟩
  · exact .inr ⟨.inr (two_bad h1), fun h => h1 h.1⟩
/-- The corners of a panel of a linkage, as they lie. -/
def pcrn (ps : List (List Sp)) (hs : List Hg) (k : Nat) : List Cn := crn (posF hs k) (pnA ps k)
theorem pcrn_ok {ps : List (List Sp)} {hs : List Hg} (h : linkP ps hs) {k : Nat} (hk : k < ps.length) : CnsOk (pcrn ps hs k) := crn_ok (link_pose h hk) ((linkP_iff.1 h).2.2.1 k hk)
theorem pcrn_len (ps : List (List Sp)) (hs : List Hg) (k : Nat) : (pcrn ps hs k).length = (pnA ps k).length := crn_len _ _
set_option maxRecDepth 100000 in
set_option maxHeartbeats 4000000 in
theorem two_ref (A : Option Addr) (c : Nat) (ps : List (List Sp)) (B : Option Addr) (d : Nat) (hs : List Hg) (i k : Int) (w : World) (hL : Lk w A ps B hs) :
    Calls Try.prog 75 #[.agg #[.slice A ps.length c, .slice B hs.length d], .int .i64 i, .int .i64 k] w fun e w' => e = .returned (.int .i64 (twoE ps hs i k)) ∧ Ext w w' := by
  have hck := fun w' (he : Ext w w') => (hL.ext he).valid c d
  have hwi := fun (n lo hi : Int) (w' : World) => within_any n lo hi w'
  rcases linkB_eq (ps := ps) (hs := hs) with ⟨h1, h2, h3⟩ | ⟨h1, h2, h3⟩
  · rw [h2] at hck
    have hnp := h1.1
    have hgood : 0 ≤ i → i < ps.length → 0 ≤ k → k < ps.length → i ≠ k → (0 : Int) = twoE ps hs i k := fun a b c d e => (two_good h1 ⟨⟨a, b⟩, ⟨c, d⟩, e⟩).symm
    have hbad : ¬ (0 ≤ i ∧ i < ps.length ∧ 0 ≤ k ∧ k < ps.length ∧ i ≠ k) → (2 : Int) = twoE ps hs i k := fun h => (two_arg h1 fun h' => h ⟨h'.1.1, h'.1.2, h'.2.1.1, h'.2.1.2, h'.2.2⟩).symm
    generalize twoE ps hs i k = E at *
    have Hck := Lib.hid hck
    have Hgd := Lib.hid hgood
    have Hbd := Lib.hid hbad
    clear hck hgood hbad hL h1 h2 h3
    generalize ps.length = np at *
    generalize hs.length = nh at *
    have hi := hwi i 0 ((np : Int) - 1)
    have hk := hwi k 0 ((np : Int) - 1)
    have Hwi := Lib.hid hi
    have Hwk := Lib.hid hk
    clear hi hk hwi
    have kb : Blk (w.alloc (.cells #[.slice A np c, .slice B nh d] 25)) w.heap.size [.slice A np c, .slice B nh d] := Blk.new _ _
    have b0 := kb.at_ 0 rfl
    have b1 := kb.at_ 1 rfl
    have hx0 : Ext w (w.alloc (.cells #[.slice A np c, .slice B nh d] 25)) := (Ext.refl _).alloc _
    have Hx0 := Lib.hid hx0
    clear kb hx0
    cases h5 : withinB i 0 ((np : Int) - 1)
    · rw [h5] at Hwi
      have hb := Hbd.out (fun h => absurd (show 0 ≤ i ∧ i ≤ (np : Int) - 1 by omega) (withinB_false.1 h5))
      have Hb := Lib.hid hb
      clear hb Hbd Hgd h5
      go_enter Try.func75, Try.ntmps75
      go_wp2_with (first
        | (go_at_call 65; refine (Hck.out _ Hx0.out).mono ?_; rintro e w1 ⟨rfl, hx1⟩; have hxx := Hx0.out.trans hx1)
        | (go_at_call 58; ((with_reducible refine (Hwi.out _).mono ?_); rintro e w2 ⟨rfl, rfl⟩)))
      go_ret
      exact ⟨ret_i Hb.out, hxx⟩
    · rw [h5] at Hwi
      have h5' := withinB_true.1 h5
      cases h6 : withinB k 0 ((np : Int) - 1)
      · rw [h6] at Hwk
        have hb := Hbd.out (fun h => absurd (show 0 ≤ k ∧ k ≤ (np : Int) - 1 by omega) (withinB_false.1 h6))
        have Hb := Lib.hid hb
        clear hb Hbd Hgd h5 h6 h5'
        go_enter Try.func75, Try.ntmps75
        go_wp2_with (first
          | (go_at_call 65; refine (Hck.out _ Hx0.out).mono ?_; rintro e w1 ⟨rfl, hx1⟩; have hxx := Hx0.out.trans hx1)
          | (go_at_call 58; ((with_reducible refine (Hwi.out _).mono ?_); rintro e w2 ⟨rfl, rfl⟩))
          | (go_at_call 58; ((with_reducible refine (Hwk.out _).mono ?_); rintro e w2 ⟨rfl, rfl⟩)))
        go_ret
        exact ⟨ret_i Hb.out, hxx⟩
      · rw [h6] at Hwk
        have h6' := withinB_true.1 h6
        by_cases h7 : i = k
        · have hb := Hbd.out (fun h => h.2.2.2.2 h7)
          have Hb := Lib.hid hb
          have d7 : (i == k) = true := by simpa using h7
          clear hb Hbd Hgd h5 h6 h5' h6' h7
          go_enter Try.func75, Try.ntmps75
          go_wp2_with (first
            | (go_at_call 65; refine (Hck.out _ Hx0.out).mono ?_; rintro e w1 ⟨rfl, hx1⟩; have hxx := Hx0.out.trans hx1)
            | (go_at_call 58; ((with_reducible refine (Hwi.out _).mono ?_); rintro e w2 ⟨rfl, rfl⟩))
            | (go_at_call 58; ((with_reducible refine (Hwk.out _).mono ?_); rintro e w2 ⟨rfl, rfl⟩)))
          go_ret
          exact ⟨ret_i Hb.out, hxx⟩
        · have hb := Hgd.out (by omega) (by omega) (by omega) (by omega) h7
          have Hb := Lib.hid hb
          have d7 : (i == k) = false := by simpa using h7
          clear hb Hbd Hgd h5 h6 h5' h6' h7
          go_enter Try.func75, Try.ntmps75
          go_wp2_with (first
            | (go_at_call 65; refine (Hck.out _ Hx0.out).mono ?_; rintro e w1 ⟨rfl, hx1⟩; have hxx := Hx0.out.trans hx1)
            | (go_at_call 58; ((with_reducible refine (Hwi.out _).mono ?_); rintro e w2 ⟨rfl, rfl⟩))
            | (go_at_call 58; ((with_reducible refine (Hwk.out _).mono ?_); rintro e w2 ⟨rfl, rfl⟩)))
          go_ret
          exact ⟨ret_i Hb.out, hxx⟩
  · rw [h2] at hck
    rw [two_bad h1]
    have Hck := Lib.hid hck
    clear hck hwi hL h1 h2 h3
    generalize ps.length = np at *
    generalize hs.length = nh at *
    have kb : Blk (w.alloc (.cells #[.slice A np c, .slice B nh d] 25)) w.heap.size [.slice A np c, .slice B nh d] := Blk.new _ _
    have b0 := kb.at_ 0 rfl
    have b1 := kb.at_ 1 rfl
    have hx0 : Ext w (w.alloc (.cells #[.slice A np c, .slice B nh d] 25)) := (Ext.refl _).alloc _
    have Hx0 := Lib.hid hx0
    clear kb hx0
    go_enter Try.func75, Try.ntmps75
    go_wp2_with (go_at_call 65; refine (Hck.out _ Hx0.out).mono ?_; rintro e w1 ⟨rfl, hx1⟩; have hxx := Hx0.out.trans hx1)
    go_ret
    exact ⟨rfl, hxx⟩
set_option maxRecDepth 100000 in
set_option maxHeartbeats 4000000 in
theorem two_err (A : Option Addr) (c : Nat) (ps : List (List Sp)) (B : Option Addr) (d : Nat) (hs : List Hg) (i k : Int) (w : World) (hL : Lk w A ps B hs) (hbad : ¬ (linkP ps hs ∧ twoP ps i k)) :
    Calls Try.prog 73 #[.agg #[.slice A ps.length c, .slice B hs.length d], .int .i64 i, .int .i64 k] w fun e w' => e = .returned (.tuple #[.slice none 0 0, .slice none 0 0, .int .i64 (twoE ps hs i k)]) ∧ Ext w w' := by
  have hck := fun w' (he : Ext w w') => (hL.ext he).check c d
  rcases linkB_eq (ps := ps) (hs := hs) with ⟨h1, h2, h3⟩ | ⟨h1, h2, h3⟩
  · rw [h3] at hck
    have h4 : ¬ twoP ps i k := fun h => hbad ⟨h1, h⟩
    rw [two_arg h1 h4]
    have h5 : i < 0 ∨ k < 0 ∨ (ps.length : Int) ≤ i ∨ (ps.length : Int) ≤ k ∨ i = k := by
      by_cases a3 : i = k
      · exact .inr (.inr (.inr (.inr a3)))
      · by_cases a4 : 0 ≤ i ∧ i < ps.length ∧ 0 ≤ k ∧ k < ps.length
        · exact absurd ⟨⟨a4.1, a4.2.1⟩, ⟨a4.2.2.1, a4.2.2.2⟩, a3⟩ h4
        · omega
    have Hck := Lib.hid hck
    clear hck hL h1 h2 h3 h4 hbad
    generalize ps.length = np at *
    generalize hs.length = nh at *
    have kb : Blk (w.alloc (.cells #[.slice A np c, .slice B nh d] 25)) w.heap.size [.slice A np c, .slice B nh d] := Blk.new _ _
    have b0 := kb.at_ 0 rfl
    have b1 := kb.at_ 1 rfl
    have hx0 : Ext w (w.alloc (.cells #[.slice A np c, .slice B nh d] 25)) := (Ext.refl _).alloc _
    have Hx0 := Lib.hid hx0
    clear kb hx0
    have H5 := Lib.hid h5
    clear h5
    go_enter Try.func73, Try.ntmps73
    go_wp2_with (first
      | (go_at_call 30; refine (Hck.out _ Hx0.out).mono ?_; rintro e w1 ⟨rfl, hx1⟩; have hxx := Hx0.out.trans hx1)
      | (go_at_call 64; exfalso; have h5 := H5.out; simp at *; omega))
    all_goals go_ret3
    all_goals exact ⟨rfl, hxx⟩
  · rw [h3] at hck
    rw [two_bad h1]
    have Hck := Lib.hid hck
    clear hck hL h1 h2 h3 hbad
    generalize ps.length = np at *
    generalize hs.length = nh at *
    have kb : Blk (w.alloc (.cells #[.slice A np c, .slice B nh d] 25)) w.heap.size [.slice A np c, .slice B nh d] := Blk.new _ _
    have b0 := kb.at_ 0 rfl
    have b1 := kb.at_ 1 rfl
    have hx0 : Ext w (w.alloc (.cells #[.slice A np c, .slice B nh d] 25)) := (Ext.refl _).alloc _
    have Hx0 := Lib.hid hx0
    clear kb hx0
    go_enter Try.func73, Try.ntmps73
    go_wp2_with (go_at_call 30; refine (Hck.out _ Hx0.out).mono ?_; rintro e w1 ⟨rfl, hx1⟩; have hxx := Hx0.out.trans hx1)
    go_ret3
    exact ⟨rfl, hxx⟩
set_option maxRecDepth 100000 in
set_option maxHeartbeats 8000000 in
theorem two_in (A : Option Addr) (c : Nat) (ps : List (List Sp)) (B : Option Addr) (d : Nat) (hs : List Hg) (i k : Nat) (w : World) (hL : Lk w A ps B hs) (hl : linkP ps hs) (hi : i < ps.length) (hk : k < ps.length) (hne : i ≠ k) :
    Calls Try.prog 73 #[.agg #[.slice A ps.length c, .slice B hs.length d], .int .i64 i, .int .i64 k] w fun e w' => ∃ X x Y y, e = .returned (.tuple #[.slice X (pcrn ps hs i).length x, .slice Y (pcrn ps hs k).length y, .int .i64 0]) ∧ CRow w' X (pcrn ps hs i) ∧ CRow w' Y (pcrn ps hs k) ∧ Ext w w' := by
  have hck := fun w' (he : Ext w w') => (hL.ext he).check c d
  rw [← checkE_good hl] at hck
  have hpl := fun w' (he : Ext w w') => poses_any A ps.length c B d hs w' (hL.hB.ext he) hl.nh hl.hinges
  have hps := hl.2.1
  obtain ⟨ad, X1, x1, rfl, r0, hr1⟩ := hL.hA.at_ hi
  obtain ⟨_, X2, x2, ee, t0, hr2⟩ := hL.hA.at_ hk
  cases ee
  have hn1 := (linkP_iff.1 hl).2.2.1 i hi
  have hn2 := (linkP_iff.1 hl).2.2.1 k hk
  have hc1 := fun w' (he : Ext w w') => corners_any (posF hs i) X1 x1 (pnA ps i) w' (hr1.ext he) (by have := hn1.1.2; omega) (psOk (link_pose hl hi)) hn1.2.1
  have hc2 := fun w' (he : Ext w w') => corners_any (posF hs k) X2 x2 (pnA ps k) w' (hr2.ext he) (by have := hn2.1.2; omega) (psOk (link_pose hl hk)) hn2.2.1
  have hl1 := pcrn_len ps hs i
  have hl2 := pcrn_len ps hs k
  have hpA1 := posesL_psA (hs := hs) (k := i) (by omega)
  have hpA2 := posesL_psA (hs := hs) (k := k) (by omega)
  have hpl2 := posesL_len hs
  change ∀ w', Ext w w' → Calls Try.prog 61 _ w' fun e w'_1 => ∃ v, e = .returned v ∧ OwnC w' w'_1 v (pcrn ps hs i) at hc1
  change ∀ w', Ext w w' → Calls Try.prog 61 _ w' fun e w'_1 => ∃ v, e = .returned v ∧ OwnC w' w'_1 v (pcrn ps hs k) at hc2
  have Hck := Lib.hid hck
  have Hpl := Lib.hid hpl
  have Hc1' := Lib.hid hc1
  have Hc2' := Lib.hid hc2
  have HpA1 := Lib.hid hpA1
  have HpA2 := Lib.hid hpA2
  have Hpl2 := Lib.hid hpl2
  have Hl1 := Lib.hid hl1
  have Hl2 := Lib.hid hl2
  clear hck hpl hc1 hc2 hpA1 hpA2 hpl2 hl1 hl2 hn1 hn2 hr1 hr2 hL hl
  generalize posesL hs = PL at *
  generalize pcrn ps hs i = C1 at *
  generalize pcrn ps hs k = C2 at *
  generalize posF hs i = p1 at *
  generalize posF hs k = p2 at *
  generalize (pnA ps i).length = m1 at *
  generalize (pnA ps k).length = m2 at *
  rw [Hl1.out, Hl2.out]
  generalize ps.length = np at *
  generalize hs.length = nh at *
  have d5 : decide ((i : Int) < 0) = false := by simp
  have d6 : decide ((k : Int) < 0) = false := by simp
  have d7 : ((i : Int) == (k : Int)) = false := by simp; omega
  have hip : (i : Int) < (np : Int) := by omega
  have hkp : (k : Int) < (np : Int) := by omega
  have hip2 : (i : Int) < ((nh + 1 : Nat) : Int) := by omega
  have hkp2 : (k : Int) < ((nh + 1 : Nat) : Int) := by omega
  have kb : Blk (w.alloc (.cells #[.slice (some ad) np c, .slice B nh d] 25)) w.heap.size [.slice (some ad) np c, .slice B nh d] := Blk.new _ _
  have b0 := kb.at_ 0 rfl
  have b1 := kb.at_ 1 rfl
  have hx0 : Ext w (w.alloc (.cells #[.slice (some ad) np c, .slice B nh d] 25)) := (Ext.refl _).alloc _
  have Hx0 := Lib.hid hx0
  clear kb hx0
  by_cases hik : k < i
  all_goals
    go_enter Try.func73, Try.ntmps73
    go_wp2_with (first
      | (go_at_call 30; refine (Hck.out _ Hx0.out).mono ?_; rintro e w1 ⟨rfl, hx1⟩; have hxx := Hx0.out.trans hx1; replace b0 : ∀ w', Ext w1 w' → _ := fun w' he => b0 w' (hx1.trans he); replace b1 : ∀ w', Ext w1 w' → _ := fun w' he => b1 w' (hx1.trans he))
      | (go_at_call 64; refine (Hpl.out _ hxx).mono ?_; rintro e w2 ⟨v, rfl, hown0⟩; unfold OwnP at hown0; rw [Hpl2.out] at hown0; obtain ⟨g, cg, rfl, _, _⟩ := hown0.at_ (by omega); have hrow1 : PRow w2 (some ⟨g, 0, none⟩) PL := Own.row hown0; have hx2 := hown0.ext; replace b0 : ∀ w', Ext w2 w' → _ := fun w' he => b0 w' (hx2.trans he); replace b1 : ∀ w', Ext w2 w' → _ := fun w' he => b1 w' (hx2.trans he)))
    have hxy := hxx.trans hx2
    obtain ⟨_, ee, p0, p1', p2', p3, p4⟩ := hrow1.at_ (k := i) (by rw [Hpl2.out]; omega)
    cases ee
    obtain ⟨_, ee, s0, s1, s2, s3, s4⟩ := hrow1.at_ (k := k) (by rw [Hpl2.out]; omega)
    cases ee
    simp only [HpA1.out, HpA2.out, add_zero'] at p0 p1' p2' p3 p4 s0 s1 s2 s3 s4
    have r1 : ∀ w', Ext w2 w' → _ := fun w' he => r0 w' (hxy.trans he)
    have t1 : ∀ w', Ext w2 w' → _ := fun w' he => t0 w' (hxy.trans he)
    have Hc1 := Lib.hid (fun w' (he : Ext w2 w') => Hc1'.out w' (hxy.trans he))
    have Hc2 := Lib.hid (fun w' (he : Ext w2 w') => Hc2'.out w' (hxy.trans he))
    have Hxy := Lib.hid hxy
    clear r0 t0 hrow1 hown0 hx2 hxx hx1 hxy Hck Hpl Hc1' Hc2' HpA1 HpA2 Hpl2 Hx0
    refine wp_region_calm 23 (fun j _ v w' => (j = 9 → ∃ A c, v = .slice A m1 c ∧ CRow w' A C1) ∧ (j = 19 → ∃ A c, v = .slice A m2 c ∧ CRow w' A C2)) (fun _ _ _ _ _ he h => And.intro (fun hj => let ⟨A, c, e, hr⟩ := h.1 hj; ⟨A, c, e, hr.ext he⟩) (fun hj => let ⟨A, c, e, hr⟩ := h.2 hj; ⟨A, c, e, hr.ext he⟩)) (by kernel_rfl) (by kernel_rfl) ?_
    simp only [List.take_succ_cons, List.take_zero, List.drop_succ_cons, List.drop_zero]
    refine calm_quiet calm_mono_final 9 (by kernel_rfl) ?_
    simp only [List.take_succ_cons, List.take_zero, List.drop_succ_cons, List.drop_zero]
    repeat (go_big_quiet_step (fail))
    refine wpQuiet_nil ?_
    refine calm_call calm_mono_final 61 #[p1.val, .slice X1 m1 x1] rfl (fun w => ?_) (fun w he hF => ?_) ?_
    · go_simp
    · exact (Hc1.out w he).mono fun e w'' ⟨v, e', ho⟩ => by
        obtain ⟨A, c, rfl⟩ := ho.form
        exact ⟨_, e', ho.ext, And.intro (fun _ => ⟨A, c, by rw [Hl1.out], Own.row ho⟩) (fun h => by cases h)⟩
    intro v _ _ h
    obtain ⟨A5, c5, rfl, _⟩ := h.1 rfl
    clear h
    simp only [Act.put, List.setIfInBounds_toArray, List.set_cons_succ, List.set_cons_zero]
    refine calm_quiet calm_mono_final 9 (by kernel_rfl) ?_
    simp only [List.take_succ_cons, List.take_zero, List.drop_succ_cons, List.drop_zero]
    repeat (go_big_quiet_step (fail))
    refine wpQuiet_nil ?_
    refine calm_call calm_mono_final 61 #[p2.val, .slice X2 m2 x2] rfl (fun w => ?_) (fun w he hF => ?_) ?_
    · go_simp
    · exact (Hc2.out w he).mono fun e w'' ⟨v, e', ho⟩ => by
        obtain ⟨A, c, rfl⟩ := ho.form
        exact ⟨_, e', ho.ext, And.intro (fun h => by cases h) (fun _ => ⟨A, c, by rw [Hl2.out], Own.row ho⟩)⟩
    intro v _ _ h
    obtain ⟨A6, c6, rfl, _⟩ := h.2 rfl
    clear h
    simp only [Act.put, List.setIfInBounds_toArray, List.set_cons_succ, List.set_cons_zero]
    refine calm_quiet calm_mono_final 3 (by kernel_rfl) ?_
    simp only [List.take_succ_cons, List.take_zero, List.drop_succ_cons, List.drop_zero]
    repeat (go_big_quiet_step (fail))
    refine wpQuiet_nil ?_
    refine calm_nil fun w3 he3 hF => ?_
    obtain ⟨A8, c8, ee, hrow8⟩ := (hF 19).2 rfl |>.2 rfl
    injection ee with ee _ _
    subst ee
    obtain ⟨A7, c7, ee, hrow7⟩ := (hF 9).1.2 rfl |>.1 rfl
    injection ee with ee _ _
    subst ee
    clear hF
    have Hrow := Lib.hid (And.intro hrow7 hrow8)
    clear hrow7 hrow8 p0 p1' p2' p3 p4 s0 s1 s2 s3 s4 b0 b1 r1 t1
    go_wp2
    go_ret3
    exact ⟨_, _, _, ⟨_, rfl⟩, Hrow.out.1, Hrow.out.2, Hxy.out.trans he3⟩
end Go.Proofs.Yteilglljigjefaa
