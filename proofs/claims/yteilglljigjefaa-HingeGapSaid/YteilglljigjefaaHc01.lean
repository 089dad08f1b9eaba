/- Two panels: by both. -/
import Derived.Test.YteilglljigjefaaHp07
namespace Go.Proofs.Yteilglljigjefaa
open Go.RowKit
def twoP (ps : List (List Sp)) (i k : Int) : Prop := inP ps i ∧ inP ps k ∧ i ≠ k
instance (ps : List (List Sp)) (i k : Int) : Decidable (twoP ps i k) := by unfold twoP; infer_instance
def twoE (ps : List (List Sp)) (hs : List Hg) (i k : Int) : Int := if linkP ps hs then (if twoP ps i k then 0 else 2) else 50
theorem two_bad {ps : List (List Sp)} {hs : List Hg} {i k : Int} (h : ¬ linkP ps hs) : twoE ps hs i k = 50 := if_neg h
theorem two_arg {ps : List (List Sp)} {hs : List Hg} {i k : Int} (h : linkP ps hs) (h2 : ¬ twoP ps i k) : twoE ps hs i k = 2 := by rw [twoE, if_pos h, if_neg h2]
theorem two_good {ps : List (List Sp)} {hs : List Hg} {i k : Int} (h : linkP ps hs) (h2 : twoP ps i k) : twoE ps hs i k = 0 := by rw [twoE, if_pos h, if_pos h2]
theorem two_cases (ps : List (List Sp)) (hs : List Hg) (i k : Int) : (linkP ps hs ∧ (∃ a b : Nat, i = a ∧ k = b ∧ a < ps.length ∧ b < ps.length ∧ a ≠ b) ∧ twoE ps hs i k = 0) ∨ ((twoE ps hs i k = 2 ∨ twoE ps hs i k = 50) ∧ ¬ (linkP ps hs ∧ twoP ps i k)) := by
  by_cases h1 : linkP ps hs
  · by_cases h2 : twoP ps i k
    · refine .inl ⟨h1, ?_, two_good h1 h2⟩
      obtain ⟨⟨a1, a2⟩, ⟨b1, b2⟩, hne⟩ := h2
      obtain ⟨a, rfl⟩ := Int.eq_ofNat_of_zero_le a1
      obtain ⟨b, rfl⟩ := Int.eq_ofNat_of_zero_le b1
      exact ⟨a, b, rfl, rfl, by omega, by omega, by omega⟩
    · exact .inr ⟨.inl (two_arg h1 h2), fun h => h2 h.2⟩
  · exact .inr ⟨.inr (two_bad h1), fun h => h1 h.1⟩
/-- The corners of a panel of a linkage, as they lie. -/
def pcrn (ps : List (List Sp)) (hs : List Hg) (k : Nat) : List Cn := crn (posF hs k) (pnA ps k)
theorem pcrn_ok {ps : List (List Sp)} {hs : List Hg} (h : linkP ps hs) {k : Nat} (hk : k < ps.length) : CnsOk (pcrn ps hs k) := crn_ok (link_pose h hk) ((linkP_iff.1 h).2.2.1 k hk)
theorem pcrn_len (ps : List (List Sp)) (hs : List Hg) (k : Nat) : (pcrn ps hs k).length = (pnA ps k).length := crn_len _ _
set_option maxRecDepth 100000 in
set_option maxHeartbeats 4000000 in
theorem two_ref (A : Option Addr) (c : Nat) (ps : List (List Sp)) (B : Option Addr) (d : Nat) (hs : List Hg) (i k : Int) (w : World) (hL : Lk w A ps B hs) :
    Calls Try.prog 75 #[.agg #[.slice A ps.length c, .slice B hs.length d], .int .i64 i, .int .i64 k] w fun e w' => e = .returned (.int .i64 (twoE ps hs i k)) ∧ Ext w w' := by
  have hck := fun w' (he : Ext w w') => (hL.ext he).valid c d
  have hwi := fun (n lo hi : Int) (w' : World) => within_any n lo hi w'
  rcases linkB_eq (ps := ps) (hs := hs) with ⟨h1, h2, h3⟩ | ⟨h1, h2, h3⟩
  · rw [h2] at hck
    have hnp := h1.1
    have hgood : 0 ≤ i → i < ps.length → 0 ≤ k → k < ps.length → i ≠ k → (0 : Int) = twoE ps hs i k := fun a b c d e => (two_good h1 ⟨⟨a, b⟩, ⟨c, d⟩, e⟩).symm
    have hbad : ¬ (0 ≤ i ∧ i < ps.length ∧ 0 ≤ k ∧ k < ps.length ∧ i ≠ k) → (2 : Int) = twoE ps hs i k := fun h => (two_arg h1 fun h' => h ⟨h'.1.1, h'.1.2, h'.2.1.1, h'.2.1.2, h'.2.2⟩).symm
    generalize twoE ps hs i k = E at *
    have Hck := Lib.hid hck
    have Hgd := Lib.hid hgood
    have Hbd := Lib.hid hbad
    clear hck hgood hbad hL h1 h2 h3
    generalize ps.length = np at *
    generalize hs.length = nh at *
    have hi := hwi i 0 ((np : Int) - 1)
    have hk := hwi k 0 ((np : Int) - 1)
    have Hwi := Lib.hid hi
    have Hwk := Lib.hid hk
    clear hi hk hwi
    have kb : Blk (w.alloc (.cells #[.slice A np c, .slice B nh d] 25)) w.heap.size [.slice A np c, .slice B nh d] := Blk.new _ _
    have b0 := kb.at_ 0 rfl
    have b1 := kb.at_ 1 rfl
    have hx0 : Ext w (w.alloc (.cells #[.slice A np c, .slice B nh d] 25)) := (Ext.refl _).alloc _
    have Hx0 := Lib.hid hx0
    clear kb hx0
    cases h5 : withinB i 0 ((np : Int) - 1)
    · rw [h5] at Hwi
      have hb := Hbd.out (fun h => absurd (show 0 ≤ i ∧ i ≤ (np : Int) - 1 by omega) (withinB_false.1 h5))
      have Hb := Lib.hid hb
      clear hb Hbd Hgd h5
      go_enter Try.func75, Try.ntmps75
      go_wp2_with (first
        | (go_at_call 65; refine (Hck.out _ Hx0.out).mono ?_; rintro e w1 ⟨rfl, hx1⟩; have hxx := Hx0.out.trans hx1)
        | (go_at_call 58; ((with_reducible refine (Hwi.out _).mono ?_); rintro e w2 ⟨rfl, rfl⟩)))
      go_ret
      exact ⟨ret_i Hb.out, hxx⟩
    · rw [h5] at Hwi
      have h5' := withinB_true.1 h5
      cases h6 : withinB k 0 ((np : Int) - 1)
      · rw [h6] at Hwk
        have hb := Hbd.out (fun h => absurd (show 0 ≤ k ∧ k ≤ (np : Int) - 1 by omega) (withinB_false.1 h6))
        have Hb := Lib.hid hb
        clear hb Hbd Hgd h5 h6 h5'
        go_enter Try.func75, Try.ntmps75
        go_wp2_with (first
          | (go_at_call 65; refine (Hck.out _ Hx0.out).mono ?_; rintro e w1 ⟨rfl, hx1⟩; have hxx := Hx0.out.trans hx1)
          | (go_at_call 58; ((with_reducible refine (Hwi.out _).mono ?_); rintro e w2 ⟨rfl, rfl⟩))
          | (go_at_call 58; ((with_reducible refine (Hwk.out _).mono ?_); rintro e w2 ⟨rfl, rfl⟩)))
        go_ret
        exact ⟨ret_i Hb.out, hxx⟩
      · rw [h6] at Hwk
        have h6' := withinB_true.1 h6
        by_cases h7 : i = k
        · have hb := Hbd.out (fun h => h.2.2.2.2 h7)
          have Hb := Lib.hid hb
          have d7 : (i == k) = true := by simpa using h7
          clear hb Hbd Hgd h5 h6 h5' h6' h7
          go_enter Try.func75, Try.ntmps75
          go_wp2_with (first
            | (go_at_call 65; refine (Hck.out _ Hx0.out).mono ?_; rintro e w1 ⟨rfl, hx1⟩; have hxx := Hx0.out.trans hx1)
            | (go_at_call 58; ((with_reducible refine (Hwi.out _).mono ?_); rintro e w2 ⟨rfl, rfl⟩))
            | (go_at_call 58; ((with_reducible refine (Hwk.out _).mono ?_); rintro e w2 ⟨rfl, rfl⟩)))
          go_ret
          exact ⟨ret_i Hb.out, hxx⟩
        · have hb := Hgd.out (by omega) (by omega) (by omega) (by omega) h7
          have Hb := Lib.hid hb
          have d7 : (i == k) = false := by simpa using h7
          clear hb Hbd Hgd h5 h6 h5' h6' h7
          go_enter Try.func75, Try.ntmps75
          go_wp2_with (first
            | (go_at_call 65; refine (Hck.out _ Hx0.out).mono ?_; rintro e w1 ⟨rfl, hx1⟩; have hxx := Hx0.out.trans hx1)
            | (go_at_call 58; ((with_reducible refine (Hwi.out _).mono ?_); rintro e w2 ⟨rfl, rfl⟩))
            | (go_at_call 58; ((with_reducible refine (Hwk.out _).mono ?_); rintro e w2 ⟨rfl, rfl⟩)))
          go_ret
          exact ⟨ret_i Hb.out, hxx⟩
  · rw [h2] at hck
    rw [two_bad h1]
    have Hck := Lib.hid hck
    clear hck hwi hL h1 h2 h3
    generalize ps.length = np at *
    generalize hs.length = nh at *
    have kb : Blk (w.alloc (.cells #[.slice A np c, .slice B nh d] 25)) w.heap.size [.slice A np c, .slice B nh d] := Blk.new _ _
    have b0 := kb.at_ 0 rfl
    have b1 := kb.at_ 1 rfl
    have hx0 : Ext w (w.alloc (.cells #[.slice A np c, .slice B nh d] 25)) := (Ext.refl _).alloc _
    have Hx0 := Lib.hid hx0
    clear kb hx0
    go_enter Try.func75, Try.ntmps75
    go_wp2_with (go_at_call 65; refine (Hck.out _ Hx0.out).mono ?_; rintro e w1 ⟨rfl, hx1⟩; have hxx := Hx0.out.trans hx1)
    go_ret
    exact ⟨rfl, hxx⟩
set_option maxRecDepth 100000 in
set_option maxHeartbeats 4000000 in
theorem two_err (A : Option Addr) (c : Nat) (ps : List (List Sp)) (B : Option Addr) (d : Nat) (hs : List Hg) (i k : Int) (w : World) (hL : Lk w A ps B hs) (hbad : ¬ (linkP ps hs ∧ twoP ps i k)) :
    Calls Try.prog 73 #[.agg #[.slice A ps.length c, .slice B hs.length d], .int .i64 i, .int .i64 k] w fun e w' => e = .returned (.tuple #[.slice none 0 0, .slice none 0 0, .int .i64 (twoE ps hs i k)]) ∧ Ext w w' := by
  have hck := fun w' (he : Ext w w') => (hL.ext he).check c d
  rcases linkB_eq (ps := ps) (hs := hs) with ⟨h1, h2, h3⟩ | ⟨h1, h2, h3⟩
  · rw [h3] at hck
    have h4 : ¬ twoP ps i k := fun h => hbad ⟨h1, h⟩
    rw [two_arg h1 h4]
    have h5 : i < 0 ∨ k < 0 ∨ (ps.length : Int) ≤ i ∨ (ps.length : Int) ≤ k ∨ i = k := by
      by_cases a3 : i = k
      · exact .inr (.inr (.inr (.inr a3)))
      · by_cases a4 : 0 ≤ i ∧ i < ps.length ∧ 0 ≤ k ∧ k < ps.length
        · exact absurd ⟨⟨a4.1, a4.2.1⟩, ⟨a4.2.2.1, a4.2.2.2⟩, a3⟩ h4
        · omega
    have Hck := Lib.hid hck
    clear hck hL h1 h2 h3 h4 hbad
    generalize ps.length = np at *
    generalize hs.length = nh at *
    have kb : Blk (w.alloc (.cells #[.slice A np c, .slice B nh d] 25)) w.heap.size [.slice A np c, .slice B nh d] := Blk.new _ _
    have b0 := kb.at_ 0 rfl
    have b1 := kb.at_ 1 rfl
    have hx0 : Ext w (w.alloc (.cells #[.slice A np c, .slice B nh d] 25)) := (Ext.refl _).alloc _
    have Hx0 := Lib.hid hx0
    clear kb hx0
    have H5 := Lib.hid h5
    clear h5
    go_enter Try.func73, Try.ntmps73
    go_wp2_with (first
      | (go_at_call 30; refine (Hck.out _ Hx0.out).mono ?_; rintro e w1 ⟨rfl, hx1⟩; have hxx := Hx0.out.trans hx1)
      | (go_at_call 64; exfalso; have h5 := H5.out; simp at *; omega))
    all_goals go_ret3
    all_goals exact ⟨rfl, hxx⟩
  · rw [h3] at hck
    rw [two_bad h1]
    have Hck := Lib.hid hck
    clear hck hL h1 h2 h3 hbad
    generalize ps.length = np at *
    generalize hs.length = nh at *
    have kb : Blk (w.alloc (.cells #[.slice A np c, .slice B nh d] 25)) w.heap.size [.slice A np c, .slice B nh d] := Blk.new _ _
    have b0 := kb.at_ 0 rfl
    have b1 := kb.at_ 1 rfl
    have hx0 : Ext w (w.alloc (.cells #[.slice A np c, .slice B nh d] 25)) := (Ext.refl _).alloc _
    have Hx0 := Lib.hid hx0
    clear kb hx0
    go_enter Try.func73, Try.ntmps73
    go_wp2_with (go_at_call 30; refine (Hck.out _ Hx0.out).mono ?_; rintro e w1 ⟨rfl, hx1⟩; have hxx := Hx0.out.trans hx1)
    go_ret3
    exact ⟨rfl, hxx⟩
set_option maxRecDepth 100000 in
set_option maxHeartbeats 8000000 in
theorem two_in (A : Option Addr) (c : Nat) (ps : List (List Sp)) (B : Option Addr) (d : Nat) (hs : List Hg) (i k : Nat) (w : World) (hL : Lk w A ps B hs) (hl : linkP ps hs) (hi : i < ps.length) (hk : k < ps.length) (hne : i ≠ k) :
    Calls Try.prog 73 #[.agg #[.slice A ps.length c, .slice B hs.length d], .int .i64 i, .int .i64 k] w fun e w' => ∃ X x Y y, e = .returned (.tuple #[.slice X (pcrn ps hs i).length x, .slice Y (pcrn ps hs k).length y, .int .i64 0]) ∧ CRow w' X (pcrn ps hs i) ∧ CRow w' Y (pcrn ps hs k) ∧ Ext w w' := by
  have hck := fun w' (he : Ext w w') => (hL.ext he).check c d
  rw [← checkE_good hl] at hck
  have hpl := fun w' (he : Ext w w') => poses_any A ps.length c B d hs w' (hL.hB.ext he) hl.nh hl.hinges
  have hps := hl.2.1
  obtain ⟨ad, X1, x1, rfl, r0, hr1⟩ := hL.hA.at_ hi
  obtain ⟨_, X2, x2, ee, t0, hr2⟩ := hL.hA.at_ hk
  cases ee
  have hn1 := (linkP_iff.1 hl).2.2.1 i hi
  have hn2 := (linkP_iff.1 hl).2.2.1 k hk
  have hc1 := fun w' (he : Ext w w') => corners_any (posF hs i) X1 x1 (pnA ps i) w' (hr1.ext he) (by have := hn1.1.2; omega) (psOk (link_pose hl hi)) hn1.2.1
  have hc2 := fun w' (he : Ext w w') => corners_any (posF hs k) X2 x2 (pnA ps k) w' (hr2.ext he) (by have := hn2.1.2; omega) (psOk (link_pose hl hk)) hn2.2.1
  have hl1 := pcrn_len ps hs i
  have hl2 := pcrn_len ps hs k
  have hpA1 := posesL_psA (hs := hs) (k := i) (by omega)
  have hpA2 := posesL_psA (hs := hs) (k := k) (by omega)
  have hpl2 := posesL_len hs
  change ∀ w', Ext w w' → Calls Try.prog 61 _ w' fun e w'_1 => ∃ v, e = .returned v ∧ OwnC w' w'_1 v (pcrn ps hs i) at hc1
  change ∀ w', Ext w w' → Calls Try.prog 61 _ w' fun e w'_1 => ∃ v, e = .returned v ∧ OwnC w' w'_1 v (pcrn ps hs k) at hc2
  have Hck := Lib.hid hck
  have Hpl := Lib.hid hpl
  have Hc1' := Lib.hid hc1
  have Hc2' := Lib.hid hc2
  have HpA1 := Lib.hid hpA1
  have HpA2 := Lib.hid hpA2
  have Hpl2 := Lib.hid hpl2
  have Hl1 := Lib.hid hl1
  have Hl2 := Lib.hid hl2
  clear hck hpl hc1 hc2 hpA1 hpA2 hpl2 hl1 hl2 hn1 hn2 hr1 hr2 hL hl
  generalize posesL hs = PL at *
  generalize pcrn ps hs i = C1 at *
  generalize pcrn ps hs k = C2 at *
  generalize posF hs i = p1 at *
  generalize posF hs k = p2 at *
  generalize (pnA ps i).length = m1 at *
  generalize (pnA ps k).length = m2 at *
  rw [Hl1.out, Hl2.out]
  generalize ps.length = np at *
  generalize hs.length = nh at *
  have d5 : decide ((i : Int) < 0) = false := by simp
  have d6 : decide ((k : Int) < 0) = false := by simp
  have d7 : ((i : Int) == (k : Int)) = false := by simp; omega
  have hip : (i : Int) < (np : Int) := by omega
  have hkp : (k : Int) < (np : Int) := by omega
  have hip2 : (i : Int) < ((nh + 1 : Nat) : Int) := by omega
  have hkp2 : (k : Int) < ((nh + 1 : Nat) : Int) := by omega
  have kb : Blk (w.alloc (.cells #[.slice (some ad) np c, .slice B nh d] 25)) w.heap.size [.slice (some ad) np c, .slice B nh d] := Blk.new _ _
  have b0 := kb.at_ 0 rfl
  have b1 := kb.at_ 1 rfl
  have hx0 : Ext w (w.alloc (.cells #[.slice (some ad) np c, .slice B nh d] 25)) := (Ext.refl _).alloc _
  have Hx0 := Lib.hid hx0
  clear kb hx0
  by_cases hik : k < i
  all_goals
    go_enter Try.func73, Try.ntmps73
    go_wp2_with (first
      | (go_at_call 30; refine (Hck.out _ Hx0.out).mono ?_; rintro e w1 ⟨rfl, hx1⟩; have hxx := Hx0.out.trans hx1; replace b0 : ∀ w', Ext w1 w' → _ := fun w' he => b0 w' (hx1.trans he); replace b1 : ∀ w', Ext w1 w' → _ := fun w' he => b1 w' (hx1.trans he))
      | (go_at_call 64; refine (Hpl.out _ hxx).mono ?_; rintro e w2 ⟨v, rfl, hown0⟩; unfold OwnP at hown0; rw [Hpl2.out] at hown0; obtain ⟨g, cg, rfl, _, _⟩ := hown0.at_ (by omega); have hrow1 : PRow w2 (some ⟨g, 0, none⟩) PL := Own.row hown0; have hx2 := hown0.ext; replace b0 : ∀ w', Ext w2 w' → _ := fun w' he => b0 w' (hx2.trans he); replace b1 : ∀ w', Ext w2 w' → _ := fun w' he => b1 w' (hx2.trans he)))
    have hxy := hxx.trans hx2
    obtain ⟨_, ee, p0, p1', p2', p3, p4⟩ := hrow1.at_ (k := i) (by rw [Hpl2.out]; omega)
    cases ee
    obtain ⟨_, ee, s0, s1, s2, s3, s4⟩ := hrow1.at_ (k := k) (by rw [Hpl2.out]; omega)
    cases ee
    simp only [HpA1.out, HpA2.out, add_zero'] at p0 p1' p2' p3 p4 s0 s1 s2 s3 s4
    have r1 : ∀ w', Ext w2 w' → _ := fun w' he => r0 w' (hxy.trans he)
    have t1 : ∀ w', Ext w2 w' → _ := fun w' he => t0 w' (hxy.trans he)
    have Hc1 := Lib.hid (fun w' (he : Ext w2 w') => Hc1'.out w' (hxy.trans he))
    have Hc2 := Lib.hid (fun w' (he : Ext w2 w') => Hc2'.out w' (hxy.trans he))
    have Hxy := Lib.hid hxy
    clear r0 t0 hrow1 hown0 hx2 hxx hx1 hxy Hck Hpl Hc1' Hc2' HpA1 HpA2 Hpl2 Hx0
    refine wp_region_calm 23 (fun j _ v w' => (j = 9 → ∃ A c, v = .slice A m1 c ∧ CRow w' A C1) ∧ (j = 19 → ∃ A c, v = .slice A m2 c ∧ CRow w' A C2)) (fun _ _ _ _ _ he h => And.intro (fun hj => let ⟨A, c, e, hr⟩ := h.1 hj; ⟨A, c, e, hr.ext he⟩) (fun hj => let ⟨A, c, e, hr⟩ := h.2 hj; ⟨A, c, e, hr.ext he⟩)) (by kernel_rfl) (by kernel_rfl) ?_
    simp only [List.take_succ_cons, List.take_zero, List.drop_succ_cons, List.drop_zero]
    refine calm_quiet calm_mono_final 9 (by kernel_rfl) ?_
    simp only [List.take_succ_cons, List.take_zero, List.drop_succ_cons, List.drop_zero]
    repeat (go_big_quiet_step (fail))
    refine wpQuiet_nil ?_
    refine calm_call calm_mono_final 61 #[p1.val, .slice X1 m1 x1] rfl (fun w => ?_) (fun w he hF => ?_) ?_
    · go_simp
    · exact (Hc1.out w he).mono fun e w'' ⟨v, e', ho⟩ => by
        obtain ⟨A, c, rfl⟩ := ho.form
        exact ⟨_, e', ho.ext, And.intro (fun _ => ⟨A, c, by rw [Hl1.out], Own.row ho⟩) (fun h => by cases h)⟩
    intro v _ _ h
    obtain ⟨A5, c5, rfl, _⟩ := h.1 rfl
    clear h
    simp only [Act.put, List.setIfInBounds_toArray, List.set_cons_succ, List.set_cons_zero]
    refine calm_quiet calm_mono_final 9 (by kernel_rfl) ?_
    simp only [List.take_succ_cons, List.take_zero, List.drop_succ_cons, List.drop_zero]
    repeat (go_big_quiet_step (fail))
    refine wpQuiet_nil ?_
    refine calm_call calm_mono_final 61 #[p2.val, .slice X2 m2 x2] rfl (fun w => ?_) (fun w he hF => ?_) ?_
    · go_simp
    · exact (Hc2.out w he).mono fun e w'' ⟨v, e', ho⟩ => by
        obtain ⟨A, c, rfl⟩ := ho.form
        exact ⟨_, e', ho.ext, And.intro (fun h => by cases h) (fun _ => ⟨A, c, by rw [Hl2.out], Own.row ho⟩)⟩
    intro v _ _ h
    obtain ⟨A6, c6, rfl, _⟩ := h.2 rfl
    clear h
    simp only [Act.put, List.setIfInBounds_toArray, List.set_cons_succ, List.set_cons_zero]
    refine calm_quiet calm_mono_final 3 (by kernel_rfl) ?_
    simp only [List.take_succ_cons, List.take_zero, List.drop_succ_cons, List.drop_zero]
    repeat (go_big_quiet_step (fail))
    refine wpQuiet_nil ?_
    refine calm_nil fun w3 he3 hF => ?_
    obtain ⟨A8, c8, ee, hrow8⟩ := (hF 19).2 rfl |>.2 rfl
    injection ee with ee _ _
    subst ee
    obtain ⟨A7, c7, ee, hrow7⟩ := (hF 9).1.2 rfl |>.1 rfl
    injection ee with ee _ _
    subst ee
    clear hF
    have Hrow := Lib.hid (And.intro hrow7 hrow8)
    clear hrow7 hrow8 p0 p1' p2' p3 p4 s0 s1 s2 s3 s4 b0 b1 r1 t1
    go_wp2
    go_ret3
    exact ⟨_, _, _, ⟨_, rfl⟩, Hrow.out.1, Hrow.out.2, Hxy.out.trans he3⟩
end Go.Proofs.Yteilglljigjefaa

/- Corners to the left of edges: by the code. -/
namespace Go.Proofs.Yteilglljigjefaa
open Go.RowKit
/-- The first corner to the left of an edge. -/
def idxC (c other : List Cn) (i : Nat) : Int := match other.findIdx? (fun o => decide (0 < eside c i o)) with
  | some k => k
  | none => -1
theorem idxC_at {c other : List Cn} {i k : Nat} (hk : k < other.length) (h : 0 < eside c i (cAt other k)) (hb : ∀ j, j < k → eside c i (cAt other j) ≤ 0) : (k : Int) = idxC c other i := by
  have : other.findIdx? (fun o => decide (0 < eside c i o)) = some k := by
    rw [List.findIdx?_eq_some_iff_getElem]
    refine ⟨hk, ?_, fun j hj => ?_⟩
    · rw [cAt_at hk] at h; simpa using h
    · have := hb j hj
      rw [cAt_at (by omega)] at this
      simpa using this
  rw [idxC, this]
theorem idxC_none {c other : List Cn} {i : Nat} (h : ∀ j, j < other.length → eside c i (cAt other j) ≤ 0) : (-1 : Int) = idxC c other i := by
  have : other.findIdx? (fun o => decide (0 < eside c i o)) = none := by
    rw [List.findIdx?_eq_none_iff]
    intro o ho
    obtain ⟨j, hj, rfl⟩ := List.getElem_of_mem ho
    have := h j hj
    rw [cAt_at hj] at this
    simpa using this
  rw [idxC, this]
theorem idxC_yes {c other : List Cn} {i : Nat} (h : 0 ≤ idxC c other i) : inAt c other i (idxC c other i) := by
  unfold idxC at h ⊢
  cases e : other.findIdx? (fun o => decide (0 < eside c i o)) with
  | none => rw [e] at h; simp at h
  | some k =>
    rw [e] at h
    obtain ⟨hk, hp, _⟩ := List.findIdx?_eq_some_iff_getElem.1 e
    refine ⟨by simp, by simpa using hk, ?_⟩
    simp only [Int.toNat_natCast]
    rw [cAt_at hk]
    simpa using hp
theorem idxC_no {c other : List Cn} {i : Nat} (h : idxC c other i < 0) : edgeOut c other i := by
  unfold idxC at h
  cases e : other.findIdx? (fun o => decide (0 < eside c i o)) with
  | some k => rw [e] at h; simp at h; omega
  | none =>
    intro o ho
    have := List.findIdx?_eq_none_iff.1 e o ho
    simp at this
    omega
theorem idxC_lt {c other : List Cn} {i : Nat} : -1 ≤ idxC c other i ∧ idxC c other i < other.length + 1 := by
  unfold idxC
  cases e : other.findIdx? (fun o => decide (0 < eside c i o)) with
  | none => simp; omega
  | some k =>
    obtain ⟨hk, _⟩ := List.findIdx?_eq_some_iff_getElem.1 e
    simp
    omega
theorem CnsOk.at_ {l : List Cn} (h : CnsOk l) {k : Nat} (hk : k < l.length) : CnOk (cAt l k) := by rw [cAt_at hk]; exact (h.ok k hk k hk).ca
theorem CnsOk.edge {l : List Cn} (h : CnsOk l) {i : Nat} (hi : i < l.length) : EdgeOk (cAt l i) (cAt l ((i + 1) % l.length)) := by
  have h1 : (i + 1) % l.length < l.length := Nat.mod_lt _ (by omega)
  rw [cAt_at hi, cAt_at h1]
  exact h.ok i hi _ h1
/-- What the closure sees. -/
structure InE (w : World) (g9 g2 g8 : Nat) (c : List Cn) (n i : Nat) (Ac : Option Addr) (cc : Nat) : Prop where
  a0 : ∀ w', Ext w w' → w'.cell? ⟨g9, 0, none⟩ = some (.int .i64 (cAt c i).at_.x)
  a1 : ∀ w', Ext w w' → w'.cell? ⟨g9, 1, none⟩ = some (.int .i64 (cAt c i).at_.y)
  a2 : ∀ w', Ext w w' → w'.cell? ⟨g9, 2, none⟩ = some (.int .i64 (cAt c i).d)
  s0 : ∀ w', Ext w w' → w'.cell? ⟨g2, 0, none⟩ = some (.slice Ac n cc)
  k0 : ∀ w', Ext w w' → w'.cell? ⟨g8, 0, none⟩ = some (.int .i64 i)
  row : CRow w Ac c
  len : c.length = n
  lt : i < n
  le : n ≤ 8
theorem InE.ext {w w' : World} {g9 g2 g8 : Nat} {c : List Cn} {n i : Nat} {Ac : Option Addr} {cc : Nat} (h : InE w g9 g2 g8 c n i Ac cc) (he : Ext w w') : InE w' g9 g2 g8 c n i Ac cc :=
  ⟨fun w2 h2 => h.a0 w2 (he.trans h2), fun w2 h2 => h.a1 w2 (he.trans h2), fun w2 h2 => h.a2 w2 (he.trans h2), fun w2 h2 => h.s0 w2 (he.trans h2), fun w2 h2 => h.k0 w2 (he.trans h2), h.row.ext he, h.len, h.lt, h.le⟩
set_option maxRecDepth 100000 in
set_option maxHeartbeats 4000000 in
theorem inside1_any (g9 g2 g8 : Nat) (c : List Cn) (n i : Nat) (Ac : Option Addr) (cc : Nat) (o : Cn) (w : World) (hE : InE w g9 g2 g8 c n i Ac cc) (hc : CnsOk c) (ho : CnOk o) :
    Calls Try.prog 111 #[o.val, .pointer (some ⟨g9, 0, none⟩), .pointer (some ⟨g2, 0, none⟩), .pointer (some ⟨g8, 0, none⟩)] w fun e w' => e = .returned (.bool (decide (0 < eside c i o))) ∧ Ext w w' := by
  obtain ⟨a0, a1, a2, s0, k0, hrow, hlen, hi, hn8⟩ := hE
  have hi1 : (i + 1) % n < n := Nat.mod_lt _ (by omega)
  obtain ⟨ad, rfl, q0, q1, q2⟩ := hrow.at_ (k := (i + 1) % n) (by omega)
  have hs := fun w' => side_any (cAt c i) (cAt c ((i + 1) % n)) o w' (by have := hc.edge (i := i) (by omega); rw [hlen] at this; exact this) ho
  rw [show sideC (cAt c i) (cAt c ((i + 1) % n)) o = eside c i o by unfold eside; rw [hlen]] at hs
  have Hs := Lib.hid hs
  have e2 : ((i : Int) + 1).tmod (n : Int) = (((i + 1) % n : Nat) : Int) := by
    rw [Int.tmod_eq_emod_of_nonneg (by omega)]; exact (by push_cast; rfl)
  have e3 : ((n : Int) = 0) = False := by simp; omega
  clear hs hrow hlen hc ho
  generalize (i + 1) % n = i1 at *
  generalize eside c i o = D at *
  generalize cAt c i = a at *
  generalize cAt c i1 = b at *
  obtain ⟨⟨ax, ay⟩, az⟩ := a
  obtain ⟨⟨bx, bY⟩, bz⟩ := b
  obtain ⟨⟨ox, oy⟩, oz⟩ := o
  simp only at a0 a1 a2 q0 q1 q2
  have hb1 : (i1 : Int) < (n : Int) := by omega
  have k2 : Blk (w.alloc (.cells #[vint ox, vint oy, vint oz] 114)) w.heap.size [vint ox, vint oy, vint oz] := Blk.new _ _
  have hx0 : Ext w (w.alloc (.cells #[vint ox, vint oy, vint oz] 114)) := (Ext.refl _).alloc _
  go_enter Try.func111, Try.ntmps111
  go_wp2
  generalize (w.alloc (.cells #[vint ox, vint oy, vint oz] 114)) = w1 at *
  have o0 := k2.at_ 0 rfl
  have o1 := k2.at_ 1 rfl
  have o2 := k2.at_ 2 rfl
  replace a0 : ∀ w', Ext w1 w' → _ := fun w' he => a0 w' (hx0.trans he)
  replace a1 : ∀ w', Ext w1 w' → _ := fun w' he => a1 w' (hx0.trans he)
  replace a2 : ∀ w', Ext w1 w' → _ := fun w' he => a2 w' (hx0.trans he)
  replace s0 : ∀ w', Ext w1 w' → _ := fun w' he => s0 w' (hx0.trans he)
  replace k0 : ∀ w', Ext w1 w' → _ := fun w' he => k0 w' (hx0.trans he)
  replace q0 : ∀ w', Ext w1 w' → _ := fun w' he => q0 w' (hx0.trans he)
  replace q1 : ∀ w', Ext w1 w' → _ := fun w' he => q1 w' (hx0.trans he)
  replace q2 : ∀ w', Ext w1 w' → _ := fun w' he => q2 w' (hx0.trans he)
  clear k2
  refine wp_region_calm 13 (fun j _ v _ => j = 10 → v = .int .i64 D) (fun _ _ _ _ _ _ h => h) (by kernel_rfl) (by kernel_rfl) ?_
  simp only [List.take_succ_cons, List.take_zero, List.drop_succ_cons, List.drop_zero]
  refine calm_quiet calm_mono_final 10 (by kernel_rfl) ?_
  simp only [List.take_succ_cons, List.take_zero, List.drop_succ_cons, List.drop_zero]
  repeat (go_big_quiet_step (fail))
  refine wpQuiet_nil ?_
  refine calm_call calm_mono_final 62 #[.agg #[vint ax, vint ay, vint az], .agg #[vint bx, vint bY, vint bz], .agg #[vint ox, vint oy, vint oz]] rfl (fun w => ?_) (fun w he hF => ?_) ?_
  · go_simp
  · exact (Hs.out w).mono fun e w'' ⟨he', hx⟩ => ⟨_, he', hx, fun _ => rfl⟩
  rintro _ _ _ h
  cases h rfl
  simp only [Act.put, List.setIfInBounds_toArray, List.set_cons_succ, List.set_cons_zero]
  refine calm_quiet calm_mono_final 2 (by kernel_rfl) ?_
  simp only [List.take_succ_cons, List.take_zero, List.drop_succ_cons, List.drop_zero]
  repeat (go_big_quiet_step (fail))
  refine wpQuiet_nil ?_
  refine calm_nil fun w3 he3 _ => ?_
  go_wp2
  go_ret
  exact ⟨rfl, hx0.trans he3⟩
set_option maxRecDepth 100000 in
set_option maxHeartbeats 4000000 in
theorem index_in (g9 g2 g8 : Nat) (c : List Cn) (n i : Nat) (Ac : Option Addr) (cc : Nat) (Ao : Option Addr) (co : Nat) (other : List Cn) (w : World) (hE : InE w g9 g2 g8 c n i Ac cc) (hc : CnsOk c) (hO : CRow w Ao other) (ho : CnsOk other) :
    Calls Try.prog 110 #[.slice Ao other.length co, .func (.func 111) #[] #[.pointer (some ⟨g9, 0, none⟩), .pointer (some ⟨g2, 0, none⟩), .pointer (some ⟨g8, 0, none⟩)]] w fun e w' => e = .returned (.int .i64 (idxC c other i)) ∧ Ext w w' := by
  have hat := fun k (hk : k < other.length) => hO.at_ hk
  have hcl := fun k (hk : k < other.length) w' (he : Ext w w') => inside1_any g9 g2 g8 c n i Ac cc (cAt other k) w' (hE.ext he) hc (ho.at_ hk)
  have hyes := fun k (hk : k < other.length) (h : 0 < eside c i (cAt other k)) (hb : ∀ j, j < k → eside c i (cAt other j) ≤ 0) => idxC_at hk h hb
  have hno := fun (h : ∀ j, j < other.length → eside c i (cAt other j) ≤ 0) => idxC_none h
  have hm8 := ho.len.2
  have Hat := Lib.hid hat
  have Hcl := Lib.hid hcl
  have Hyes := Lib.hid hyes
  have Hno := Lib.hid hno
  clear hat hcl hyes hno hE hc hO ho
  generalize idxC c other i = E at *
  generalize other.length = m at *
  go_enter Try.func110, Try.ntmps110
  go_wp2
  go_loopw [8] (fun i' wr => ∃ k : Nat, k ≤ m ∧ i' = .int .i64 k ∧ Ext w wr ∧ ∀ j, j < k → eside c i (cAt other j) ≤ 0) (fun i' _ => m - (intOf i').toNat)
  case atStart => exact ⟨0, by omega, rfl, Ext.refl _, fun j h => absurd h (by omega)⟩
  case round =>
    obtain ⟨k, hk, rfl, hex, hall⟩ := hrel
    have Hall := Lib.hid hall
    clear hall
    by_cases hlt : k < m
    · obtain ⟨ad, rfl, r0, r1, r2⟩ := Hat.out k hlt
      have c0 : ∀ w', Ext wr w' → _ := fun w' he => r0 w' (hex.trans he)
      have c1 : ∀ w', Ext wr w' → _ := fun w' he => r1 w' (hex.trans he)
      have c2 : ∀ w', Ext wr w' → _ := fun w' he => r2 w' (hex.trans he)
      have hcc := fun w' (he : Ext wr w') => Hcl.out k hlt w' (hex.trans he)
      have hnx : eside c i (cAt other k) ≤ 0 → ∀ j, j < k + 1 → eside c i (cAt other j) ≤ 0 := fun h j hj => by
        by_cases e : j = k
        · subst e; exact h
        · exact Hall.out j (by omega)
      have hy := fun (h : 0 < eside c i (cAt other k)) => Hyes.out k hlt h Hall.out
      have Hnx := Lib.hid hnx
      have Hy := Lib.hid hy
      clear r0 r1 r2 Hat Hcl hnx hy Hyes Hno Hall
      by_cases hp : 0 < eside c i (cAt other k)
      · have hq := Hy.out hp
        have Hq := Lib.hid hq
        rw [decide_eq_true hp] at hcc
        have Hcc := Lib.hid hcc
        clear hq hcc hp Hnx Hy
        generalize cAt other k = o at *
        go_wp2_with (go_at_call 111; refine (Hcc.out _ (Ext.refl _)).mono ?_; rintro e w5 ⟨rfl, hx5⟩)
        go_ret
        exact ⟨ret_i Hq.out, hex.trans hx5⟩
      · have hq := Hnx.out (by omega)
        have Hq := Lib.hid hq
        rw [decide_eq_false hp] at hcc
        have Hcc := Lib.hid hcc
        clear hq hcc hp Hnx Hy
        generalize cAt other k = o at c0 c1 c2 Hcc
        go_wp2_with (go_at_call 111; refine (Hcc.out _ (Ext.refl _)).mono ?_; rintro e w5 ⟨rfl, hx5⟩)
        go_roundw
        case rel => exact ⟨k + 1, by omega, by go_num, hex.trans hx5, Hq.out⟩
        case measure => simp [intOf]; omega
    · obtain rfl : m = k := by omega
      go_wp2
      go_ret
      exact ⟨ret_i (Hno.out Hall.out), hex⟩
theorem getD_snoc_last {l : List Int} {x : Int} {k : Nat} (h : l.length = k) : (l ++ [x]).getD k 0 = x := by subst h; simp
theorem getD_snoc_lt {l : List Int} {x : Int} {j : Nat} (h : j < l.length) : (l ++ [x]).getD j 0 = l.getD j 0 := by simp [List.getD, List.getElem?_append_left h]
/-- What inside finds. -/
def InsRes (w w' : World) (c other : List Cn) (v : Value) (x : Int) (b : Bool) : Prop :=
  Ext w w' ∧ ((b = false ∧ v = .slice none 0 0 ∧ ∃ i : Nat, x = i ∧ i < c.length ∧ edgeOut c other i) ∨
    (b = true ∧ x = 0 ∧ ∃ ins : List Int, OwnI w w' v ins ∧ ins.length = c.length ∧ ∀ n, n < c.length → inAt c other n (ins.getD n 0)))
set_option maxRecDepth 100000 in
set_option maxHeartbeats 8000000 in
theorem inside_any (Ac : Option Addr) (cc : Nat) (c : List Cn) (Ao : Option Addr) (co : Nat) (other : List Cn) (w : World) (hA : CRow w Ac c) (hO : CRow w Ao other) (hc : CnsOk c) (ho : CnsOk other) :
    Calls Try.prog 93 #[.slice Ac c.length cc, .slice Ao other.length co] w fun e w' => ∃ v x b, e = .returned (.tuple #[v, .int .i64 x, .bool b]) ∧ InsRes w w' c other v x b := by
  have hat := fun k (hk : k < c.length) => hA.at_ hk
  have hix := fun (g9 g2 g8 i : Nat) w' (he : Ext w w') (hE : InE w' g9 g2 g8 c c.length i Ac cc) => index_in g9 g2 g8 c c.length i Ac cc Ao co other w' hE hc (hO.ext he) ho
  have hrw := fun w' (he : Ext w w') => hA.ext he
  have hyes := fun i => idxC_yes (c := c) (other := other) (i := i)
  have hno := fun i => idxC_no (c := c) (other := other) (i := i)
  have hn8 := hc.len.2
  obtain ⟨n, hn⟩ : ∃ n, n = c.length := ⟨_, rfl⟩
  have hres : ∀ (w' : World) (v : Value) (x : Int) (b : Bool), (Ext w w' ∧ ((b = false ∧ v = .slice none 0 0 ∧ ∃ i : Nat, x = i ∧ i < n ∧ edgeOut c other i) ∨
    (b = true ∧ x = 0 ∧ ∃ ins : List Int, Own w w' 3 1 v n (ins.map vint) ∧ ins.length = n ∧ ∀ j, j < n → inAt c other j (ins.getD j 0)))) → InsRes w w' c other v x b := fun w' v x b h => by
    refine ⟨h.1, ?_⟩
    rcases h.2 with ⟨h1, h2, i, h3, h4, h5⟩ | ⟨h1, h2, ins, h3, h4, h5⟩
    · exact .inl ⟨h1, h2, i, h3, by omega, h5⟩
    · exact .inr ⟨h1, h2, ins, by show Own w w' _ 1 v ins.length _; rw [h4]; exact h3, by omega, fun j hj => h5 j (by omega)⟩
  rw [← hn] at hat hix hn8 ⊢
  have Hat := Lib.hid hat
  have Hix := Lib.hid hix
  have Hrw := Lib.hid hrw
  have Hyes := Lib.hid hyes
  have Hno := Lib.hid hno
  have Hres := Lib.hid hres
  have Hn := Lib.hid hn
  clear hat hix hrw hyes hno hres hn hA hO hc ho
  generalize other.length = m at *
  have kb : Blk (w.alloc (.cells #[.slice Ac n cc] 111)) w.heap.size [.slice Ac n cc] := Blk.new _ _
  have b0 := kb.at_ 0 rfl
  have hx0 : Ext w (w.alloc (.cells #[.slice Ac n cc] 111)) := (Ext.refl _).alloc _
  go_enter Try.func93, Try.ntmps93
  go_wp2
  generalize (w.alloc (.cells #[.slice Ac n cc] 111)) = w0 at *
  have B0 := Lib.hid b0
  have Hx0 := Lib.hid hx0
  clear b0 hx0 kb
  go_loopw [13, 7] (fun i v wr => ∃ (k : Nat) (ins : List Int), k ≤ n ∧ i = .int .i64 k ∧ Own w0 wr 3 1 v k (ins.map vint) ∧ ins.length = k ∧ ∀ j, j < k → inAt c other j (ins.getD j 0)) (fun i _ _ => n - (intOf i).toNat)
  case atStart => exact ⟨0, [], by omega, rfl, Own.nil _ _ _, rfl, fun j h => absurd h (by omega)⟩
  case round =>
    obtain ⟨k, ins, hk, rfl, hown, hil, hin⟩ := hrel
    obtain ⟨Av, cv, rfl⟩ := hown.form
    have hex := hown.ext
    have Hin := Lib.hid hin
    clear hin
    by_cases hlt : k < n
    · obtain ⟨ad, rfl, r0, r1, r2⟩ := Hat.out k hlt
      have hxr := Hx0.out.trans hex
      have c0 : ∀ w', Ext wr w' → _ := fun w' he => r0 w' (hxr.trans he)
      have c1 : ∀ w', Ext wr w' → _ := fun w' he => r1 w' (hxr.trans he)
      have c2 : ∀ w', Ext wr w' → _ := fun w' he => r2 w' (hxr.trans he)
      have hx2 : Ext wr ((wr.alloc (.cells #[.int .i64 k] 3)).alloc (.cells #[.int .i64 (cAt c k).at_.x, .int .i64 (cAt c k).at_.y, .int .i64 (cAt c k).d] 114)) := ((Ext.refl _).alloc _).alloc _
      have ka : Blk ((wr.alloc (.cells #[.int .i64 k] 3)).alloc (.cells #[.int .i64 (cAt c k).at_.x, .int .i64 (cAt c k).at_.y, .int .i64 (cAt c k).d] 114)) (wr.heap.size + 1) [.int .i64 (cAt c k).at_.x, .int .i64 (cAt c k).at_.y, .int .i64 (cAt c k).d] := Blk.new' (cs := #[.int .i64 (cAt c k).at_.x, .int .i64 (cAt c k).at_.y, .int .i64 (cAt c k).d]) (by simp)
      have k8 : Blk ((wr.alloc (.cells #[.int .i64 k] 3)).alloc (.cells #[.int .i64 (cAt c k).at_.x, .int .i64 (cAt c k).at_.y, .int .i64 (cAt c k).d] 114)) wr.heap.size [.int .i64 k] := (Blk.new _ _).ext ((Ext.refl _).alloc _)
      have hE : InE ((wr.alloc (.cells #[.int .i64 k] 3)).alloc (.cells #[.int .i64 (cAt c k).at_.x, .int .i64 (cAt c k).at_.y, .int .i64 (cAt c k).d] 114)) (wr.heap.size + 1) w.heap.size wr.heap.size c n k (some ad) cc :=
        ⟨ka.at_ 0 rfl, ka.at_ 1 rfl, ka.at_ 2 rfl, fun w' he => B0.out w' (hex.trans (hx2.trans he)), k8.at_ 0 rfl, Hrw.out _ (hxr.trans hx2), Hn.out.symm, hlt, hn8⟩
      have hix := Hix.out _ _ _ _ _ (hxr.trans hx2) hE
      have q8 := k8.at_ 0 rfl
      have Hix' := Lib.hid hix
      have Hx2 := Lib.hid hx2
      have Hk8 := Lib.hid q8
      have Hown := Lib.hid hown
      have hkn : (k : Int) < (n : Int) := by omega
      have hib := idxC_lt (c := c) (other := other) (i := k)
      have hyes := Hyes.out k
      have hno := Hno.out k
      have Hyes' := Lib.hid hyes
      have Hno' := Lib.hid hno
      have Hhib := Lib.hid hib
      clear r0 r1 r2 hix hE ka k8 hown hyes hno Hyes Hno Hix Hat Hrw hx2 q8 hib
      generalize idxC c other k = X at *
      generalize cAt c k = s at *
      by_cases hX : X < 0
      · have he := Hno'.out hX
        have Hedge := Lib.hid he
        have d1 : decide (X < 0) = true := by simpa using hX
        clear he Hyes' Hno' hX
        go_wp2_with (go_at_call 110; refine Hix'.out.mono ?_; rintro e w5 ⟨rfl, hx5⟩; have p8 : ∀ w', Ext w5 w' → _ := fun w' he => Hk8.out w' (hx5.trans he))
        refine wp_region_calm 4 (fun _ _ _ _ => True) (fun _ _ _ _ _ _ h => h) (by kernel_rfl) (by kernel_rfl) ?_
        simp only [List.take_succ_cons, List.take_zero, List.drop_succ_cons, List.drop_zero]
        refine calm_quiet calm_mono_final 4 (by kernel_rfl) ?_
        simp only [List.take_succ_cons, List.take_zero, List.drop_succ_cons, List.drop_zero]
        repeat (go_big_quiet_step (fail))
        refine wpQuiet_nil ?_
        refine calm_nil fun w3 he3 _ => ?_
        go_wp2
        go_ret3
        refine ⟨_, _, _, rfl, Hres.out _ _ _ _ ⟨((hxr.trans Hx2.out).trans hx5).trans he3, .inl ⟨rfl, rfl, k, rfl, hlt, Hedge.out⟩⟩⟩
      · have he := Hyes'.out (by omega)
        have Hin2 := Lib.hid he
        have d1 : decide (X < 0) = false := by simpa using hX
        clear he Hyes' Hno' hX
        go_wp2_with (first
          | (go_at_call 110; refine Hix'.out.mono ?_; rintro e w5 ⟨rfl, hx5⟩; have ho5 := (Hown.out.later Hx2.out).later hx5)
          | (at_builtin; refine own_append_int (w1 := w0) rfl _ _ rfl _ k _ rfl ho5 X rfl (by omega) ?_; intro v' w7 h7))
        go_roundw
        case rel =>
          refine ⟨k + 1, ins ++ [X], by omega, by go_num, by simpa using h7, by simp [hil], fun j hj => ?_⟩
          by_cases e : j = k
          · subst e
            rw [getD_snoc_last hil]
            exact Hin2.out
          · rw [getD_snoc_lt (by omega)]
            exact Hin.out j (by omega)
        case measure => simp [intOf]; omega
    · obtain rfl : n = k := by omega
      have Hown := Lib.hid hown
      clear hown Hat Hix Hrw Hyes Hno
      go_wp2
      go_ret3
      exact ⟨_, _, _, rfl, Hres.out _ _ _ _ ⟨Hx0.out.trans hex, .inr ⟨rfl, rfl, ins, Hown.out.since Hx0.out, hil, Hin.out⟩⟩⟩
end Go.Proofs.Yteilglljigjefaa

/- Panels that clash: by the reference. -/
namespace Go.Proofs.Yteilglljigjefaa
open Go.RowKit
/-- Places with one number that divides them. -/
def cnL (l : List Sp) (d : Int) : List Cn := l.map fun s => ⟨s, d⟩
theorem cnL_len (l : List Sp) (d : Int) : (cnL l d).length = l.length := by simp [cnL]
theorem cnL_at {l : List Sp} {d : Int} {k : Nat} (h : k < l.length) : cAt (cnL l d) k = ⟨ptA l k, d⟩ := by
  rw [cAt_at (by rw [cnL_len]; exact h), ptA_at h]; simp [cnL]
theorem cnL_crn (p : Ps) (l : List Sp) : cnL (crnS p l) p.d = crn p l := by simp [cnL, crnS, crn]
theorem eside_cnL {l o : List Sp} {d e : Int} {i j : Nat} (hi : i < l.length) (hj : j < o.length) : eside (cnL l d) i (cAt (cnL o e) j) = sideS (ptA l i) (ptA l ((i + 1) % l.length)) d (ptA o j) e := by
  have h1 : (i + 1) % l.length < l.length := Nat.mod_lt _ (by omega)
  unfold eside sideC
  rw [cnL_len, cnL_at hi, cnL_at h1, cnL_at hj]
theorem edgeOut_at {c other : List Cn} {i : Nat} : edgeOut c other i ↔ ∀ j, j < other.length → eside c i (cAt other j) ≤ 0 := by
  constructor
  · exact fun h j hj => h _ (cAt_mem hj)
  · intro h o ho
    obtain ⟨j, hj, rfl⟩ := List.getElem_of_mem ho
    have := h j hj
    rwa [cAt_at hj] at this
set_option maxRecDepth 100000 in
set_option maxHeartbeats 8000000 in
theorem parted_any (A : Option Addr) (ca : Nat) (l : List Sp) (d : Int) (B : Option Addr) (cb : Nat) (o : List Sp) (e : Int) (w : World) (hA : SRow w A l) (hB : SRow w B o) (hc : CnsOk (cnL l d)) (ho : CnsOk (cnL o e)) :
    Calls Try.prog 92 #[.slice A l.length ca, .int .i64 d, .slice B o.length cb, .int .i64 e] w fun en w' => en = .returned (.bool (partB (cnL l d) (cnL o e))) ∧ Ext w w' := by
  have hat := fun k (hk : k < l.length) => hA.at_ hk
  have hbt := fun k (hk : k < o.length) => hB.at_ hk
  have hl8 := hc.len
  have ho8 := ho.len
  rw [cnL_len] at hl8 ho8
  have hsd : ∀ i, i < l.length → ∀ j, j < o.length → ∀ w' : World, Calls Try.prog 102 #[(ptA l i).val, (ptA l ((i + 1) % l.length)).val, .int .i64 d, (ptA o j).val, .int .i64 e] w' fun en w'' => en = .returned (.int .i64 (eside (cnL l d) i (cAt (cnL o e) j))) ∧ Ext w' w'' := fun i hi j hj w' => by
    have h1 := hc.edge (i := i) (by rw [cnL_len]; exact hi)
    have h2 := ho.at_ (k := j) (by rw [cnL_len]; exact hj)
    rw [cnL_len, cnL_at hi, cnL_at (Nat.mod_lt _ (by omega))] at h1
    rw [cnL_at hj] at h2
    rw [eside_cnL hi hj]
    exact beside_any _ _ d _ e w' h1 h2
  have hyes : ∀ i, i < l.length → (∀ j, j < o.length → eside (cnL l d) i (cAt (cnL o e) j) ≤ 0) → true = partB (cnL l d) (cnL o e) := fun i hi h => (decide_eq_true (show partP _ _ from ⟨i, by rw [cnL_len]; exact hi, edgeOut_at.2 fun j hj => h j (by rw [cnL_len] at hj; exact hj)⟩)).symm
  have hno : (∀ i, i < l.length → ¬ ∀ j, j < o.length → eside (cnL l d) i (cAt (cnL o e) j) ≤ 0) → false = partB (cnL l d) (cnL o e) := fun h => (decide_eq_false (show ¬ partP _ _ from fun ⟨i, hi, h2⟩ => h i (by rw [cnL_len] at hi; exact hi) fun j hj => edgeOut_at.1 h2 j (by rw [cnL_len]; exact hj))).symm
  have Hat := Lib.hid hat
  have Hbt := Lib.hid hbt
  have Hsd := Lib.hid hsd
  have Hyes := Lib.hid hyes
  have Hno := Lib.hid hno
  clear hat hbt hsd hyes hno hA hB hc ho
  generalize partB (cnL l d) (cnL o e) = R at *
  generalize l.length = n at *
  generalize o.length = m at *
  generalize hES : (fun i j => eside (cnL l d) i (cAt (cnL o e) j)) = ES at *
  have hes : ∀ i j, eside (cnL l d) i (cAt (cnL o e) j) = ES i j := fun i j => by rw [← hES]
  simp only [hes] at Hsd Hyes Hno
  clear hes hES
  go_enter Try.func92, Try.ntmps92
  go_wp2
  go_loopw [9] (fun i wr => ∃ k : Nat, k ≤ n ∧ i = .int .i64 k ∧ Ext w wr ∧ Hid (∀ i, i < k → ¬ ∀ j, j < m → ES i j ≤ 0)) (fun i _ => n - (intOf i).toNat)
  case atStart => exact ⟨0, by omega, rfl, Ext.refl _, Lib.hid fun i h => absurd h (by omega)⟩
  case round =>
    obtain ⟨i, hi, rfl, hex, Hall⟩ := hrel
    by_cases hlt : i < n
    · have hi1 := Nat.mod_lt (i + 1) (show 0 < n by omega)
      have e2 : ((i : Int) + 1).tmod (n : Int) = (((i + 1) % n : Nat) : Int) := by
        rw [Int.tmod_eq_emod_of_nonneg (by omega)]; exact (by push_cast; rfl)
      have e3 : ((n : Int) = 0) = False := by simp; omega
      have hsd := Hsd.out i hlt
      have hy := Hyes.out i hlt
      have Hsd' := Lib.hid hsd
      have Hy := Lib.hid hy
      clear hsd hy Hsd Hyes
      generalize (i + 1) % n = i1 at *
      have b1 : (i1 : Int) < (n : Int) := by omega
      have b2 : (i : Int) < (n : Int) := by omega
      go_wp2
      obtain ⟨wo, rfl⟩ : ∃ wo : World, wo = wr := ⟨_, rfl⟩
      go_loopw [11, 10] (fun i' v wr => ∃ (k : Nat) (b : Bool), k ≤ m ∧ i' = .int .i64 k ∧ v = .bool b ∧ Ext w wr ∧ Hid (b = true ↔ ∀ j, j < k → ES i j ≤ 0)) (fun i' _ _ => m - (intOf i').toNat)
      case atStart => exact ⟨0, true, by omega, rfl, rfl, hex, Lib.hid (by simp)⟩
      case round =>
        obtain ⟨k, b, hk, rfl, rfl, hex, Hb⟩ := hrel
        by_cases hlt2 : k < m
        · have b3 : (k : Int) < (m : Int) := by omega
          cases b
          · have hb := Hb.out
            have hnx : (false = true ↔ ∀ j, j < k + 1 → ES i j ≤ 0) := by
              constructor
              · intro h; cases h
              · intro h; exact hb.2 fun j hj => h j (by omega)
            have Hnx := Lib.hid hnx
            clear hb hnx Hb Hat Hbt Hsd' Hy Hno Hall
            go_wp2
            refine wp_region_calm 24 (fun _ _ _ _ => True) (fun _ _ _ _ _ _ h => h) (by kernel_rfl) (by kernel_rfl) ?_
            simp only [List.take_succ_cons, List.take_zero, List.drop_succ_cons, List.drop_zero]
            refine calm_quiet calm_mono_final 20 (by kernel_rfl) ?_
            simp only [List.take_succ_cons, List.take_zero, List.drop_succ_cons, List.drop_zero]
            repeat (go_big_quiet_step (fail))
            refine wpQuiet_nil ?_
            refine calm_skip (by kernel_rfl) ?_
            simp only [Act.put, List.setIfInBounds_toArray, List.set_cons_succ, List.set_cons_zero]
            refine calm_quiet calm_mono_final 3 (by kernel_rfl) ?_
            simp only [List.take_succ_cons, List.take_zero, List.drop_succ_cons, List.drop_zero]
            repeat (go_big_quiet_step (fail))
            refine wpQuiet_nil ?_
            refine calm_nil fun w3 he3 _ => ?_
            go_wp2
            go_roundw
            case rel => exact ⟨k + 1, false, by omega, by go_num, rfl, hex.trans he3, Hnx⟩
            case measure => simp [intOf]; omega
          · obtain ⟨ad, rfl, p0, p1⟩ := Hat.out i hlt
            obtain ⟨_, ee, q0, q1⟩ := Hat.out i1 hi1
            cases ee
            obtain ⟨bd, rfl, r0, r1⟩ := Hbt.out k hlt2
            have u0 : ∀ w', Ext wr w' → _ := fun w' he => p0 w' (hex.trans he)
            have u1 : ∀ w', Ext wr w' → _ := fun w' he => p1 w' (hex.trans he)
            have v0 : ∀ w', Ext wr w' → _ := fun w' he => q0 w' (hex.trans he)
            have v1 : ∀ w', Ext wr w' → _ := fun w' he => q1 w' (hex.trans he)
            have z0 : ∀ w', Ext wr w' → _ := fun w' he => r0 w' (hex.trans he)
            have z1 : ∀ w', Ext wr w' → _ := fun w' he => r1 w' (hex.trans he)
            have hs := Hsd'.out k hlt2
            have hb := Hb.out.1 rfl
            have hnx : ∀ c : Bool, (c = true ↔ ES i k ≤ 0) → (c = true ↔ ∀ j, j < k + 1 → ES i j ≤ 0) := fun c hc => by
              rw [hc]
              constructor
              · intro h j hj
                by_cases e : j = k
                · subst e; exact h
                · exact hb j (by omega)
              · intro h; exact h k (by omega)
            have Hs := Lib.hid hs
            have Hnx := Lib.hid hnx
            clear p0 p1 q0 q1 r0 r1 hs hb hnx Hb Hat Hbt Hsd' Hy Hno Hall
            generalize ES i k = D at *
            generalize ptA l i = u at *
            generalize ptA l i1 = v at *
            generalize ptA o k = z at *
            go_wp2
            refine wp_region_calm 24 (fun j _ v _ => j = 20 → v = .int .i64 D) (fun _ _ _ _ _ _ h => h) (by kernel_rfl) (by kernel_rfl) ?_
            simp only [List.take_succ_cons, List.take_zero, List.drop_succ_cons, List.drop_zero]
            refine calm_quiet calm_mono_final 20 (by kernel_rfl) ?_
            simp only [List.take_succ_cons, List.take_zero, List.drop_succ_cons, List.drop_zero]
            repeat (go_big_quiet_step (fail))
            refine wpQuiet_nil ?_
            refine calm_call calm_mono_final 102 #[u.val, v.val, .int .i64 d, z.val, .int .i64 e] rfl (fun w => ?_) (fun w he hF => ?_) ?_
            · go_simp
            · exact (Hs.out w).mono fun e w'' ⟨he', hx⟩ => ⟨_, he', hx, fun _ => rfl⟩
            rintro _ _ _ h
            cases h rfl
            simp only [Act.put, List.setIfInBounds_toArray, List.set_cons_succ, List.set_cons_zero]
            refine calm_quiet calm_mono_final 3 (by kernel_rfl) ?_
            simp only [List.take_succ_cons, List.take_zero, List.drop_succ_cons, List.drop_zero]
            repeat (go_big_quiet_step (fail))
            refine wpQuiet_nil ?_
            refine calm_nil fun w3 he3 _ => ?_
            go_wp2
            go_roundw
            case rel => exact ⟨k + 1, decide (D ≤ 0), by omega, by go_num, by simp, hex.trans he3, Lib.hid (Hnx.out _ (by simp))⟩
            case measure => simp [intOf]; omega
        · obtain rfl : m = k := by omega
          cases b
          · have hnx : ∀ i', i' < i + 1 → ¬ ∀ j, j < m → ES i' j ≤ 0 := fun i' h => by
              by_cases e : i' = i
              · subst e; intro h2; have := Hb.out.2 h2; cases this
              · exact Hall.out i' (by omega)
            have Hnx := Lib.hid hnx
            clear hnx Hb Hat Hbt Hsd' Hy Hno Hall
            go_wp2
            go_roundw
            case rel => exact ⟨i + 1, by omega, by go_num, hex, Hnx⟩
            case measure => simp [intOf]; omega
          · have hy := Hy.out (Hb.out.1 rfl)
            have Hy' := Lib.hid hy
            clear hy Hb Hat Hbt Hsd' Hy Hno Hall
            go_wp2
            go_ret
            exact ⟨ret_b Hy'.out, hex⟩
    · obtain rfl : n = i := by omega
      have hn := Hno.out Hall.out
      have Hn := Lib.hid hn
      clear hn Hno Hall Hat Hbt Hsd Hyes
      go_wp2
      go_ret
      exact ⟨ret_b Hn.out, hex⟩
theorem pcrn_cnL (ps : List (List Sp)) (hs : List Hg) (k : Nat) : cnL (crnS (posF hs k) (pnA ps k)) (posF hs k).d = pcrn ps hs k := cnL_crn _ _
set_option maxRecDepth 100000 in
set_option maxHeartbeats 4000000 in
theorem clashing_any (A : Option Addr) (c : Nat) (ps : List (List Sp)) (B : Option Addr) (d : Nat) (hs : List Hg) (i k : Nat) (w : World) (hL : Lk w A ps B hs) (hl : linkP ps hs) (hi : i < ps.length) (hk : k < ps.length) :
    Calls Try.prog 72 #[.agg #[.slice A ps.length c, .slice B hs.length d], .int .i64 i, .int .i64 k] w fun e w' => e = .returned (.bool (clashB (pcrn ps hs i) (pcrn ps hs k))) ∧ Ext w w' := by
  have hc1 := fun w' (he : Ext w w') => cornered_any A c ps B d hs i w' (hL.ext he) hl hi
  have hc2 := fun w' (he : Ext w w') => cornered_any A c ps B d hs k w' (hL.ext he) hl hk
  have ok1 := pcrn_ok hl hi
  have ok2 := pcrn_ok hl hk
  rw [← pcrn_cnL] at ok1 ok2
  have hp1 := fun (X Y : Option Addr) (x y : Nat) (w' : World) (hX : SRow w' X (crnS (posF hs i) (pnA ps i))) (hY : SRow w' Y (crnS (posF hs k) (pnA ps k))) => parted_any X x _ (posF hs i).d Y y _ (posF hs k).d w' hX hY ok1 ok2
  have hp2 := fun (X Y : Option Addr) (x y : Nat) (w' : World) (hX : SRow w' X (crnS (posF hs k) (pnA ps k))) (hY : SRow w' Y (crnS (posF hs i) (pnA ps i))) => parted_any X x _ (posF hs k).d Y y _ (posF hs i).d w' hX hY ok2 ok1
  rw [pcrn_cnL, pcrn_cnL] at hp1 hp2
  unfold clashB
  have Hc1 := Lib.hid hc1
  have Hc2 := Lib.hid hc2
  have Hp1 := Lib.hid hp1
  have Hp2 := Lib.hid hp2
  clear hc1 hc2 hp1 hp2 ok1 ok2 hL hl
  generalize partB (pcrn ps hs i) (pcrn ps hs k) = R1 at *
  generalize partB (pcrn ps hs k) (pcrn ps hs i) = R2 at *
  generalize crnS (posF hs i) (pnA ps i) = L1 at *
  generalize crnS (posF hs k) (pnA ps k) = L2 at *
  generalize (posF hs i).d = d1 at *
  generalize (posF hs k).d = d2 at *
  generalize ps.length = np at *
  generalize hs.length = nh at *
  have kb : Blk (w.alloc (.cells #[.slice A np c, .slice B nh d] 25)) w.heap.size [.slice A np c, .slice B nh d] := Blk.new _ _
  have b0 := kb.at_ 0 rfl
  have b1 := kb.at_ 1 rfl
  have hx0 : Ext w (w.alloc (.cells #[.slice A np c, .slice B nh d] 25)) := (Ext.refl _).alloc _
  have Hx0 := Lib.hid hx0
  clear kb hx0
  cases R1
  all_goals
    go_enter Try.func72, Try.ntmps72
    go_wp2_with (first
      | (go_at_call 67; ((with_reducible refine (Hc1.out _ Hx0.out).mono ?_); rintro e w1 ⟨v1, rfl, ho1⟩); have hx1 := ho1.ext; have hxx := Hx0.out.trans hx1; obtain ⟨X1, x1, rfl⟩ := ho1.form; replace b0 : ∀ w', Ext w1 w' → _ := fun w' he => b0 w' (hx1.trans he); replace b1 : ∀ w', Ext w1 w' → _ := fun w' he => b1 w' (hx1.trans he))
      | (go_at_call 67; ((with_reducible refine (Hc2.out _ hxx).mono ?_); rintro e w2 ⟨v2, rfl, ho2⟩); have hx2 := ho2.ext; obtain ⟨X2, x2, rfl⟩ := ho2.form)
      | (go_at_call 92; ((with_reducible refine (Hp1.out X1 X2 x1 x2 _ (ho1.row.ext hx2) ho2.row).mono ?_); rintro e w3 ⟨rfl, hx3⟩))
      | (go_at_call 92; ((with_reducible refine (Hp2.out X2 X1 x2 x1 _ (ho2.row.ext hx3) ((ho1.row.ext hx2).ext hx3)).mono ?_); rintro e w4 ⟨rfl, hx4⟩)))
    go_ret
    first
      | exact ⟨ret_b (by simp), ((hxx.trans hx2).trans hx3).trans hx4⟩
      | exact ⟨ret_b (by simp), (hxx.trans hx2).trans hx3⟩
def clashE (ps : List (List Sp)) (hs : List Hg) (i k : Int) : Int := if twoE ps hs i k = 0 then (if clashB (pcrn ps hs i.toNat) (pcrn ps hs k.toNat) = true then 51 else 0) else twoE ps hs i k
theorem clashE_nat {ps : List (List Sp)} {hs : List Hg} {i k : Nat} (h : twoE ps hs i k = 0) : clashE ps hs i k = if clashB (pcrn ps hs i) (pcrn ps hs k) = true then 51 else 0 := by rw [clashE, if_pos h]; simp
set_option maxRecDepth 100000 in
set_option maxHeartbeats 4000000 in
theorem clash_ref (A : Option Addr) (c : Nat) (ps : List (List Sp)) (B : Option Addr) (d : Nat) (hs : List Hg) (i k : Int) (w : World) (hL : Lk w A ps B hs) :
    Calls Try.prog 43 #[.agg #[.slice A ps.length c, .slice B hs.length d], .int .i64 i, .int .i64 k] w fun e w' => e = .returned (.int .i64 (clashE ps hs i k)) ∧ Ext w w' := by
  have ht := fun w' (he : Ext w w') => two_ref A c ps B d hs i k w' (hL.ext he)
  rcases two_cases ps hs i k with ⟨h1, ⟨a, b, rfl, rfl, ha, hb, hne⟩, h2⟩ | ⟨h2, _⟩
  · have hcg := fun w' (he : Ext w w') => clashing_any A c ps B d hs a b w' (hL.ext he) h1 ha hb
    rw [clashE_nat h2]
    rw [h2] at ht
    have Ht := Lib.hid ht
    have Hcg := Lib.hid hcg
    clear ht hcg hL h1 h2 ha hb hne
    generalize clashB (pcrn ps hs a) (pcrn ps hs b) = R at *
    generalize ps.length = np at *
    generalize hs.length = nh at *
    have kb : Blk (w.alloc (.cells #[.slice A np c, .slice B nh d] 25)) w.heap.size [.slice A np c, .slice B nh d] := Blk.new _ _
    have b0 := kb.at_ 0 rfl
    have b1 := kb.at_ 1 rfl
    have hx0 : Ext w (w.alloc (.cells #[.slice A np c, .slice B nh d] 25)) := (Ext.refl _).alloc _
    have Hx0 := Lib.hid hx0
    clear kb hx0
    cases R
    all_goals
      go_enter Try.func43, Try.ntmps43
      go_wp2_with (first
        | (go_at_call 75; refine (Ht.out _ Hx0.out).mono ?_; rintro e w1 ⟨rfl, hx1⟩; have hxx := Hx0.out.trans hx1)
        | (go_at_call 72; refine (Hcg.out _ hxx).mono ?_; rintro e w2 ⟨rfl, hx2⟩))
      go_ret
      exact ⟨rfl, hxx.trans hx2⟩
  · have hne : ¬ twoE ps hs i k = 0 := by omega
    rw [clashE, if_neg hne]
    have d1 : (twoE ps hs i k != 0) = true := by simpa using hne
    have Ht := Lib.hid ht
    clear ht hL h2 hne
    generalize twoE ps hs i k = E at *
    generalize ps.length = np at *
    generalize hs.length = nh at *
    have kb : Blk (w.alloc (.cells #[.slice A np c, .slice B nh d] 25)) w.heap.size [.slice A np c, .slice B nh d] := Blk.new _ _
    have b0 := kb.at_ 0 rfl
    have b1 := kb.at_ 1 rfl
    have hx0 : Ext w (w.alloc (.cells #[.slice A np c, .slice B nh d] 25)) := (Ext.refl _).alloc _
    have Hx0 := Lib.hid hx0
    clear kb hx0
    go_enter Try.func43, Try.ntmps43
    go_wp2_with (go_at_call 75; refine (Ht.out _ Hx0.out).mono ?_; rintro e w1 ⟨rfl, hx1⟩; have hxx := Hx0.out.trans hx1)
    go_ret
    exact ⟨rfl, hxx⟩
end Go.Proofs.Yteilglljigjefaa

/- Lines between: by the reference. -/
namespace Go.Proofs.Yteilglljigjefaa
open Go.RowKit
def btwB (r : Apr) (a b : List Cn) : Bool := decide (btwP r a b)
def headP (r : Apr) : Prop := r.ins.length = 0 ∧ (-10000000 ≤ r.A ∧ r.A ≤ 10000000) ∧ (-10000000 ≤ r.B ∧ r.B ≤ 10000000) ∧ ¬ (r.A = 0 ∧ r.B = 0) ∧ (-100000000000000 ≤ r.C ∧ r.C ≤ 100000000000000) ∧ (1 ≤ r.E ∧ r.E ≤ 20000)
instance (r : Apr) : Decidable (headP r) := by unfold headP; infer_instance
theorem btwP_iff {r : Apr} {a b : List Cn} : btwP r a b ↔ headP r ∧ (∀ k, k < a.length → lineN r (cAt a k) ≤ r.C * (cAt a k).d) ∧ ∀ k, k < b.length → r.C * (cAt b k).d ≤ lineN r (cAt b k) := by
  unfold btwP headP
  constructor
  · rintro ⟨h1, h2, h3, h4, h5, h6, h7, h8⟩
    exact ⟨⟨h1, h2, h3, h4, h5, h6⟩, fun k hk => h7 _ (cAt_mem hk), fun k hk => h8 _ (cAt_mem hk)⟩
  · rintro ⟨⟨h1, h2, h3, h4, h5, h6⟩, h7, h8⟩
    refine ⟨h1, h2, h3, h4, h5, h6, fun c hc => ?_, fun c hc => ?_⟩
    · obtain ⟨k, hk, rfl⟩ := List.getElem_of_mem hc
      have := h7 k hk
      rwa [cAt_at hk] at this
    · obtain ⟨k, hk, rfl⟩ := List.getElem_of_mem hc
      have := h8 k hk
      rwa [cAt_at hk] at this
theorem btwB_yes {r : Apr} {a b : List Cn} (h : btwP r a b) : true = btwB r a b := (decide_eq_true h).symm
theorem btwB_no {r : Apr} {a b : List Cn} (h : ¬ btwP r a b) : false = btwB r a b := (decide_eq_false h).symm
/-- The numbers of a line. -/
theorem line_fit {A B C E x y d : Int} (hA : -10000000 ≤ A ∧ A ≤ 10000000) (hB : -10000000 ≤ B ∧ B ≤ 10000000) (hC : -100000000000000 ≤ C ∧ C ≤ 100000000000000) (hE : 1 ≤ E ∧ E ≤ 20000) (hx : -10937500 ≤ x ∧ x ≤ 10937500) (hy : -10937500 ≤ y ∧ y ≤ 10937500) (hd : 1 ≤ d ∧ d ≤ 15625) :
    (-109375000000000 ≤ A * x ∧ A * x ≤ 109375000000000) ∧ (-109375000000000 ≤ B * y ∧ B * y ≤ 109375000000000) ∧ (-4375000000000000000 ≤ E * (A * x + B * y) ∧ E * (A * x + B * y) ≤ 4375000000000000000) ∧ (-1562500000000000000 ≤ C * d ∧ C * d ≤ 1562500000000000000) := by
  have e1 := prod_le hA.1 hA.2 hx.1 hx.2
  have e2 := prod_le hB.1 hB.2 hy.1 hy.2
  simp only [Int.reduceMul] at e1 e2
  have e3 := prod_le (a := E) (d := 20000) (s := A * x + B * y) (m := 218750000000000) (by omega) (by omega) (by omega) (by omega)
  have e4 := prod_le (a := C) (d := 100000000000000) (s := d) (m := 15625) (by omega) (by omega) (by omega) (by omega)
  simp only [Int.reduceMul] at e3 e4
  exact ⟨e1, e2, e3, e4⟩
set_option maxRecDepth 100000 in
set_option maxHeartbeats 8000000 in
theorem between_head (rc : Bool) (rA rB rC rE : Int) (I : Option Addr) (q ic : Nat) (A : Option Addr) (n ca : Nat) (d : Int) (B : Option Addr) (m cb : Nat) (e : Int) (w : World) (hq : q ≤ 9223372036854775807)
    (hbad : ¬ (q = 0 ∧ (-10000000 ≤ rA ∧ rA ≤ 10000000) ∧ (-10000000 ≤ rB ∧ rB ≤ 10000000) ∧ ¬ (rA = 0 ∧ rB = 0) ∧ (-100000000000000 ≤ rC ∧ rC ≤ 100000000000000) ∧ (1 ≤ rE ∧ rE ≤ 20000))) :
    Calls Try.prog 101 #[.agg #[.bool rc, vint rA, vint rB, vint rC, vint rE, .slice I q ic], .slice A n ca, .int .i64 d, .slice B m cb, .int .i64 e] w fun en w' => en = .returned (.bool false) ∧ Ext w w' := by
  have hwi := fun (n lo hi : Int) (w' : World) => within_any n lo hi w'
  have hA := hwi rA (-10000000) 10000000
  have hB := hwi rB (-10000000) 10000000
  have hC := hwi rC (-100000000000000) 100000000000000
  have hE := hwi rE 1 20000
  have HwA := Lib.hid hA
  have HwB := Lib.hid hB
  have HwC := Lib.hid hC
  have HwE := Lib.hid hE
  clear hwi hA hB hC hE
  have hx0 : Ext w (w.alloc (.cells #[.bool rc, vint rA, vint rB, vint rC, vint rE, .slice I q ic] 67)) := (Ext.refl _).alloc _
  by_cases h1 : 0 < q
  · have d1 : decide ((0 : Int) < (q : Int)) = true := by simp; omega
    clear hbad
    go_enter Try.func101, Try.ntmps101
    go_wp2_with (first | (go_at_call 58; ((with_reducible refine (HwA.out _).mono ?_); rintro e w2 ⟨rfl, rfl⟩)) | (go_at_call 58; ((with_reducible refine (HwB.out _).mono ?_); rintro e w2 ⟨rfl, rfl⟩)) | (go_at_call 58; ((with_reducible refine (HwC.out _).mono ?_); rintro e w2 ⟨rfl, rfl⟩)) | (go_at_call 58; ((with_reducible refine (HwE.out _).mono ?_); rintro e w2 ⟨rfl, rfl⟩)))
    go_ret
    exact ⟨rfl, hx0⟩
  · have d1 : decide ((0 : Int) < (q : Int)) = false := by simp; omega
    cases h2 : withinB rA (-10000000) 10000000
    · rw [h2] at HwA
      clear hbad h2
      go_enter Try.func101, Try.ntmps101
      go_wp2_with (first | (go_at_call 58; ((with_reducible refine (HwA.out _).mono ?_); rintro e w2 ⟨rfl, rfl⟩)) | (go_at_call 58; ((with_reducible refine (HwB.out _).mono ?_); rintro e w2 ⟨rfl, rfl⟩)) | (go_at_call 58; ((with_reducible refine (HwC.out _).mono ?_); rintro e w2 ⟨rfl, rfl⟩)) | (go_at_call 58; ((with_reducible refine (HwE.out _).mono ?_); rintro e w2 ⟨rfl, rfl⟩)))
      go_ret
      exact ⟨rfl, hx0⟩
    · rw [h2] at HwA
      cases h3 : withinB rB (-10000000) 10000000
      · rw [h3] at HwB
        clear hbad h2 h3
        go_enter Try.func101, Try.ntmps101
        go_wp2_with (first | (go_at_call 58; ((with_reducible refine (HwA.out _).mono ?_); rintro e w2 ⟨rfl, rfl⟩)) | (go_at_call 58; ((with_reducible refine (HwB.out _).mono ?_); rintro e w2 ⟨rfl, rfl⟩)) | (go_at_call 58; ((with_reducible refine (HwC.out _).mono ?_); rintro e w2 ⟨rfl, rfl⟩)) | (go_at_call 58; ((with_reducible refine (HwE.out _).mono ?_); rintro e w2 ⟨rfl, rfl⟩)))
        go_ret
        exact ⟨rfl, hx0⟩
      · rw [h3] at HwB
        by_cases h4 : rA = 0 ∧ rB = 0
        · have d2 : (rA == 0) = true := by simpa using h4.1
          have d3 : (rB == 0) = true := by simpa using h4.2
          clear hbad h2 h3 h4
          go_enter Try.func101, Try.ntmps101
          go_wp2_with (first | (go_at_call 58; ((with_reducible refine (HwA.out _).mono ?_); rintro e w2 ⟨rfl, rfl⟩)) | (go_at_call 58; ((with_reducible refine (HwB.out _).mono ?_); rintro e w2 ⟨rfl, rfl⟩)) | (go_at_call 58; ((with_reducible refine (HwC.out _).mono ?_); rintro e w2 ⟨rfl, rfl⟩)) | (go_at_call 58; ((with_reducible refine (HwE.out _).mono ?_); rintro e w2 ⟨rfl, rfl⟩)))
          go_ret
          exact ⟨rfl, hx0⟩
        · cases h5 : withinB rC (-100000000000000) 100000000000000
          · rw [h5] at HwC
            by_cases h7 : rA = 0
            · have d2 : (rA == 0) = true := by simpa using h7
              have d3 : (rB == 0) = false := by simpa using fun h => h4 ⟨h7, h⟩
              clear hbad h2 h3 h4 h5 h7
              go_enter Try.func101, Try.ntmps101
              go_wp2_with (first | (go_at_call 58; ((with_reducible refine (HwA.out _).mono ?_); rintro e w2 ⟨rfl, rfl⟩)) | (go_at_call 58; ((with_reducible refine (HwB.out _).mono ?_); rintro e w2 ⟨rfl, rfl⟩)) | (go_at_call 58; ((with_reducible refine (HwC.out _).mono ?_); rintro e w2 ⟨rfl, rfl⟩)) | (go_at_call 58; ((with_reducible refine (HwE.out _).mono ?_); rintro e w2 ⟨rfl, rfl⟩)))
              go_ret
              exact ⟨rfl, hx0⟩
            · have d2 : (rA == 0) = false := by simpa using h7
              clear hbad h2 h3 h4 h5 h7
              go_enter Try.func101, Try.ntmps101
              go_wp2_with (first | (go_at_call 58; ((with_reducible refine (HwA.out _).mono ?_); rintro e w2 ⟨rfl, rfl⟩)) | (go_at_call 58; ((with_reducible refine (HwB.out _).mono ?_); rintro e w2 ⟨rfl, rfl⟩)) | (go_at_call 58; ((with_reducible refine (HwC.out _).mono ?_); rintro e w2 ⟨rfl, rfl⟩)) | (go_at_call 58; ((with_reducible refine (HwE.out _).mono ?_); rintro e w2 ⟨rfl, rfl⟩)))
              go_ret
              exact ⟨rfl, hx0⟩
          · rw [h5] at HwC
            have h6 : withinB rE 1 20000 = false := withinB_false.2 fun h => hbad ⟨by omega, withinB_true.1 h2, withinB_true.1 h3, h4, withinB_true.1 h5, h⟩
            rw [h6] at HwE
            by_cases h7 : rA = 0
            · have d2 : (rA == 0) = true := by simpa using h7
              have d3 : (rB == 0) = false := by simpa using fun h => h4 ⟨h7, h⟩
              clear hbad h2 h3 h4 h5 h7 h6
              go_enter Try.func101, Try.ntmps101
              go_wp2_with (first | (go_at_call 58; ((with_reducible refine (HwA.out _).mono ?_); rintro e w2 ⟨rfl, rfl⟩)) | (go_at_call 58; ((with_reducible refine (HwB.out _).mono ?_); rintro e w2 ⟨rfl, rfl⟩)) | (go_at_call 58; ((with_reducible refine (HwC.out _).mono ?_); rintro e w2 ⟨rfl, rfl⟩)) | (go_at_call 58; ((with_reducible refine (HwE.out _).mono ?_); rintro e w2 ⟨rfl, rfl⟩)))
              go_ret
              exact ⟨rfl, hx0⟩
            · have d2 : (rA == 0) = false := by simpa using h7
              clear hbad h2 h3 h4 h5 h7 h6
              go_enter Try.func101, Try.ntmps101
              go_wp2_with (first | (go_at_call 58; ((with_reducible refine (HwA.out _).mono ?_); rintro e w2 ⟨rfl, rfl⟩)) | (go_at_call 58; ((with_reducible refine (HwB.out _).mono ?_); rintro e w2 ⟨rfl, rfl⟩)) | (go_at_call 58; ((with_reducible refine (HwC.out _).mono ?_); rintro e w2 ⟨rfl, rfl⟩)) | (go_at_call 58; ((with_reducible refine (HwE.out _).mono ?_); rintro e w2 ⟨rfl, rfl⟩)))
              go_ret
              exact ⟨rfl, hx0⟩
set_option maxRecDepth 100000 in
set_option maxHeartbeats 8000000 in
theorem between_loops (rc : Bool) (rA rB rC rE : Int) (I : Option Addr) (ic : Nat) (A : Option Addr) (ca : Nat) (l : List Sp) (d : Int) (B : Option Addr) (cb : Nat) (o : List Sp) (e : Int) (w : World) (R : Bool) (hlA : SRow w A l) (hlB : SRow w B o) (hc : CnsOk (cnL l d)) (ho : CnsOk (cnL o e))
    (hA : -10000000 ≤ rA ∧ rA ≤ 10000000) (hB : -10000000 ≤ rB ∧ rB ≤ 10000000) (h0 : ¬ (rA = 0 ∧ rB = 0)) (hC : -100000000000000 ≤ rC ∧ rC ≤ 100000000000000) (hE : 1 ≤ rE ∧ rE ≤ 20000)
    (hyes : (∀ k, k < l.length → rE * (rA * (ptA l k).x + rB * (ptA l k).y) ≤ rC * d) → (∀ k, k < o.length → rC * e ≤ rE * (rA * (ptA o k).x + rB * (ptA o k).y)) → true = R)
    (hno1 : ∀ k, k < l.length → ¬ rE * (rA * (ptA l k).x + rB * (ptA l k).y) ≤ rC * d → false = R) (hno2 : ∀ k, k < o.length → ¬ rC * e ≤ rE * (rA * (ptA o k).x + rB * (ptA o k).y) → false = R) :
    Calls Try.prog 101 #[.agg #[.bool rc, vint rA, vint rB, vint rC, vint rE, .slice I 0 ic], .slice A l.length ca, .int .i64 d, .slice B o.length cb, .int .i64 e] w fun en w' => en = .returned (.bool R) ∧ Ext w w' := by
  have hwi := fun (n lo hi : Int) (w' : World) => within_any n lo hi w'
  have hA' := hwi rA (-10000000) 10000000
  have hB' := hwi rB (-10000000) 10000000
  have hC' := hwi rC (-100000000000000) 100000000000000
  have hE' := hwi rE 1 20000
  rw [withinB_true.2 hA] at hA'
  rw [withinB_true.2 hB] at hB'
  rw [withinB_true.2 hC] at hC'
  rw [withinB_true.2 hE] at hE'
  have HwA := Lib.hid hA'
  have HwB := Lib.hid hB'
  have HwC := Lib.hid hC'
  have HwE := Lib.hid hE'
  clear hwi hA' hB' hC' hE'
  have hat := fun k (hk : k < l.length) => hlA.at_ hk
  have hbt := fun k (hk : k < o.length) => hlB.at_ hk
  have hl8 := hc.len
  have ho8 := ho.len
  rw [cnL_len] at hl8 ho8
  have hok1 : ∀ k, k < l.length → CnOk ⟨ptA l k, d⟩ := fun k hk => by have := hc.at_ (k := k) (by rw [cnL_len]; exact hk); rwa [cnL_at hk] at this
  have hok2 : ∀ k, k < o.length → CnOk ⟨ptA o k, e⟩ := fun k hk => by have := ho.at_ (k := k) (by rw [cnL_len]; exact hk); rwa [cnL_at hk] at this
  have Hat := Lib.hid hat
  have Hbt := Lib.hid hbt
  have Hok1 := Lib.hid hok1
  have Hok2 := Lib.hid hok2
  have Hyes := Lib.hid hyes
  have Hno1 := Lib.hid hno1
  have Hno2 := Lib.hid hno2
  clear hat hbt hok1 hok2 hyes hno1 hno2 hlA hlB hc ho
  generalize l.length = n at *
  generalize o.length = m at *
  have kb : Blk (w.alloc (.cells #[.bool rc, vint rA, vint rB, vint rC, vint rE, .slice I 0 ic] 67)) w.heap.size [.bool rc, vint rA, vint rB, vint rC, vint rE, .slice I 0 ic] := Blk.new _ _
  have hx0 : Ext w (w.alloc (.cells #[.bool rc, vint rA, vint rB, vint rC, vint rE, .slice I 0 ic] 67)) := (Ext.refl _).alloc _
  have b1 := kb.at_ 1 rfl
  have b2 := kb.at_ 2 rfl
  have b3 := kb.at_ 3 rfl
  have b4 := kb.at_ 4 rfl
  have B1 := Lib.hid b1
  have B2 := Lib.hid b2
  have B3 := Lib.hid b3
  have B4 := Lib.hid b4
  have Hx0 := Lib.hid hx0
  clear hx0 kb
  have d1 : decide ((0 : Int) < ((0 : Nat) : Int)) = false := by simp
  have h7 : (rA == 0) = true ∧ (rB == 0) = false ∨ (rA == 0) = false := by
    by_cases h : rA = 0
    · exact .inl ⟨by simpa using h, by simpa using fun h' => h0 ⟨h, h'⟩⟩
    · exact .inr (by simpa using h)
  rcases h7 with ⟨d2, d3⟩ | d2
  all_goals
    go_enter Try.func101, Try.ntmps101
    go_wp2_with (first | (go_at_call 58; ((with_reducible refine (HwA.out _).mono ?_); rintro e w2 ⟨rfl, rfl⟩)) | (go_at_call 58; ((with_reducible refine (HwB.out _).mono ?_); rintro e w2 ⟨rfl, rfl⟩)) | (go_at_call 58; ((with_reducible refine (HwC.out _).mono ?_); rintro e w2 ⟨rfl, rfl⟩)) | (go_at_call 58; ((with_reducible refine (HwE.out _).mono ?_); rintro e w2 ⟨rfl, rfl⟩)))

    generalize (w.alloc (.cells #[.bool rc, vint rA, vint rB, vint rC, vint rE, .slice I 0 ic] 67)) = w0 at *
    clear b1 b2 b3 b4 d1 d2
    go_loopw [11] (fun i wr => ∃ k : Nat, k ≤ n ∧ i = .int .i64 k ∧ Ext w0 wr ∧ ∀ j, j < k → rE * (rA * (ptA l j).x + rB * (ptA l j).y) ≤ rC * d) (fun i _ => n - (intOf i).toNat)
    case atStart => exact ⟨0, by omega, rfl, Ext.refl _, fun j h => absurd h (by omega)⟩
    case round =>
      obtain ⟨k, hk, rfl, hex, hall⟩ := hrel
      have Hall := Lib.hid hall
      clear hall
      by_cases hlt : k < n
      · obtain ⟨ad, rfl, p0, p1⟩ := Hat.out k hlt
        have hxr := Hx0.out.trans hex
        have u0 : ∀ w', Ext wr w' → _ := fun w' he => p0 w' (hxr.trans he)
        have u1 : ∀ w', Ext wr w' → _ := fun w' he => p1 w' (hxr.trans he)
        have c1 : ∀ w', Ext wr w' → _ := fun w' he => B1.out w' (hex.trans he)
        have c2 : ∀ w', Ext wr w' → _ := fun w' he => B2.out w' (hex.trans he)
        have c3 : ∀ w', Ext wr w' → _ := fun w' he => B3.out w' (hex.trans he)
        have c4 : ∀ w', Ext wr w' → _ := fun w' he => B4.out w' (hex.trans he)
        have hok := Hok1.out k hlt
        have hn := Hno1.out k hlt
        have hnx : rE * (rA * (ptA l k).x + rB * (ptA l k).y) ≤ rC * d → ∀ j, j < k + 1 → rE * (rA * (ptA l j).x + rB * (ptA l j).y) ≤ rC * d := fun h j hj => by
          by_cases e : j = k
          · subst e; exact h
          · exact Hall.out j (by omega)
        have Hn := Lib.hid hn
        have Hnx := Lib.hid hnx
        clear p0 p1 hn hnx Hat Hbt Hok1 Hok2 Hyes Hno1 Hno2 Hall
        generalize ptA l k = s at *
        obtain ⟨x, y⟩ := s
        have hokx := hok.x
        have hoky := hok.y
        have hokd := hok.d
        simp only at u0 u1 hokx hoky hokd Hn Hnx
        obtain ⟨f1, f2, f3, f4⟩ := line_fit hA hB hC hE hokx hoky hokd
        clear hok hokx hoky hokd
        have hkn : (k : Int) < (n : Int) := by omega
        by_cases hp : rE * (rA * x + rB * y) ≤ rC * d
        · have hq := Hnx.out hp
          have Hq := Lib.hid hq
          have d9 : decide (rC * d < rE * (rA * x + rB * y)) = false := by simpa using hp
          clear hq Hnx Hn hp
          go_wp2
          refine wp_region_calm 25 (fun _ _ _ _ => True) (fun _ _ _ _ _ _ h => h) (by kernel_rfl) (by kernel_rfl) ?_
          simp only [List.take_succ_cons, List.take_zero, List.drop_succ_cons, List.drop_zero]
          refine calm_quiet calm_mono_final 25 (by kernel_rfl) ?_
          simp only [List.take_succ_cons, List.take_zero, List.drop_succ_cons, List.drop_zero]
          repeat (go_big_quiet_step (fail))
          refine wpQuiet_nil ?_
          refine calm_nil fun w3 he3 _ => ?_
          go_wp2
          go_roundw
          case rel => exact ⟨k + 1, by omega, by go_num, hex.trans he3, Hq.out⟩
          case measure => simp [intOf]; omega
        · have hq := Hn.out (by first | exact hp | omega)
          have Hq := Lib.hid hq
          have d9 : decide (rC * d < rE * (rA * x + rB * y)) = true := by simp; omega
          clear hq Hnx Hn hp
          go_wp2
          refine wp_region_calm 25 (fun _ _ _ _ => True) (fun _ _ _ _ _ _ h => h) (by kernel_rfl) (by kernel_rfl) ?_
          simp only [List.take_succ_cons, List.take_zero, List.drop_succ_cons, List.drop_zero]
          refine calm_quiet calm_mono_final 25 (by kernel_rfl) ?_
          simp only [List.take_succ_cons, List.take_zero, List.drop_succ_cons, List.drop_zero]
          repeat (go_big_quiet_step (fail))
          refine wpQuiet_nil ?_
          refine calm_nil fun w3 he3 _ => ?_
          go_wp2
          go_ret
          exact ⟨ret_b Hq.out, hxr.trans he3⟩
      · obtain rfl : n = k := by omega
        have hy := Hyes.out Hall.out
        have Hy := Lib.hid hy
        clear hy Hyes Hall Hat Hok1 Hno1
        go_wp2
        obtain ⟨wo, rfl⟩ : ∃ wo : World, wo = wr := ⟨_, rfl⟩
        go_loopw [12] (fun i wr => ∃ k : Nat, k ≤ m ∧ i = .int .i64 k ∧ Ext w0 wr ∧ ∀ j, j < k → rC * e ≤ rE * (rA * (ptA o j).x + rB * (ptA o j).y)) (fun i _ => m - (intOf i).toNat)
        case atStart => exact ⟨0, by omega, rfl, hex, fun j h => absurd h (by omega)⟩
        case round =>
          obtain ⟨k, hk, rfl, hex, hall⟩ := hrel
          have Hall := Lib.hid hall
          clear hall
          by_cases hlt : k < m
          · obtain ⟨bd, rfl, p0, p1⟩ := Hbt.out k hlt
            have hxr := Hx0.out.trans hex
            have u0 : ∀ w', Ext wr w' → _ := fun w' he => p0 w' (hxr.trans he)
            have u1 : ∀ w', Ext wr w' → _ := fun w' he => p1 w' (hxr.trans he)
            have c1 : ∀ w', Ext wr w' → _ := fun w' he => B1.out w' (hex.trans he)
            have c2 : ∀ w', Ext wr w' → _ := fun w' he => B2.out w' (hex.trans he)
            have c3 : ∀ w', Ext wr w' → _ := fun w' he => B3.out w' (hex.trans he)
            have c4 : ∀ w', Ext wr w' → _ := fun w' he => B4.out w' (hex.trans he)
            have hok := Hok2.out k hlt
            have hn := Hno2.out k hlt
            have hnx : rC * e ≤ rE * (rA * (ptA o k).x + rB * (ptA o k).y) → ∀ j, j < k + 1 → rC * e ≤ rE * (rA * (ptA o j).x + rB * (ptA o j).y) := fun h j hj => by
              by_cases e : j = k
              · subst e; exact h
              · exact Hall.out j (by omega)
            have Hn := Lib.hid hn
            have Hnx := Lib.hid hnx
            clear p0 p1 hn hnx Hbt Hok2 Hno2 Hall Hy
            generalize ptA o k = s at *
            obtain ⟨x, y⟩ := s
            have hokx := hok.x
            have hoky := hok.y
            have hokd := hok.d
            simp only at u0 u1 hokx hoky hokd Hn Hnx
            obtain ⟨f1, f2, f3, f4⟩ := line_fit hA hB hC hE hokx hoky hokd
            clear hok hokx hoky hokd
            have hkn : (k : Int) < (m : Int) := by omega
            by_cases hp : rC * e ≤ rE * (rA * x + rB * y)
            · have hq := Hnx.out hp
              have Hq := Lib.hid hq
              have d9 : decide (rE * (rA * x + rB * y) < rC * e) = false := by simpa using hp
              clear hq Hnx Hn hp
              go_wp2
              refine wp_region_calm 25 (fun _ _ _ _ => True) (fun _ _ _ _ _ _ h => h) (by kernel_rfl) (by kernel_rfl) ?_
              simp only [List.take_succ_cons, List.take_zero, List.drop_succ_cons, List.drop_zero]
              refine calm_quiet calm_mono_final 25 (by kernel_rfl) ?_
              simp only [List.take_succ_cons, List.take_zero, List.drop_succ_cons, List.drop_zero]
              repeat (go_big_quiet_step (fail))
              refine wpQuiet_nil ?_
              refine calm_nil fun w3 he3 _ => ?_
              go_wp2
              go_roundw
              case rel => exact ⟨k + 1, by omega, by go_num, hex.trans he3, Hq.out⟩
              case measure => simp [intOf]; omega
            · have hq := Hn.out (by first | exact hp | omega)
              have Hq := Lib.hid hq
              have d9 : decide (rE * (rA * x + rB * y) < rC * e) = true := by simp; omega
              clear hq Hnx Hn hp
              go_wp2
              refine wp_region_calm 25 (fun _ _ _ _ => True) (fun _ _ _ _ _ _ h => h) (by kernel_rfl) (by kernel_rfl) ?_
              simp only [List.take_succ_cons, List.take_zero, List.drop_succ_cons, List.drop_zero]
              refine calm_quiet calm_mono_final 25 (by kernel_rfl) ?_
              simp only [List.take_succ_cons, List.take_zero, List.drop_succ_cons, List.drop_zero]
              repeat (go_big_quiet_step (fail))
              refine wpQuiet_nil ?_
              refine calm_nil fun w3 he3 _ => ?_
              go_wp2
              go_ret
              exact ⟨ret_b Hq.out, hxr.trans he3⟩
          · obtain rfl : m = k := by omega
            have hy := Hy.out Hall.out
            have Hy' := Lib.hid hy
            clear hy Hall Hbt Hok2 Hno2 Hy
            go_wp2
            go_ret
            exact ⟨ret_b Hy'.out, Hx0.out.trans hex⟩
theorem between_any (r : Apr) (I : Option Addr) (ic : Nat) (A : Option Addr) (ca : Nat) (l : List Sp) (d : Int) (B : Option Addr) (cb : Nat) (o : List Sp) (e : Int) (w : World) (hq : r.ins.length ≤ 9223372036854775807) (hA : SRow w A l) (hB : SRow w B o) (hc : CnsOk (cnL l d)) (ho : CnsOk (cnL o e)) :
    Calls Try.prog 101 #[r.val I ic, .slice A l.length ca, .int .i64 d, .slice B o.length cb, .int .i64 e] w fun en w' => en = .returned (.bool (btwB r (cnL l d) (cnL o e))) ∧ Ext w w' := by
  obtain ⟨rc, rA, rB, rC, rE, ins⟩ := r
  by_cases hh : headP ⟨rc, rA, rB, rC, rE, ins⟩
  · obtain ⟨h1, h2, h3, h4, h5, h6⟩ := id hh
    have hl : ∀ k (hk : k < l.length), cAt (cnL l d) k = ⟨ptA l k, d⟩ := fun k hk => cnL_at hk
    have hm : ∀ k (hk : k < o.length), cAt (cnL o e) k = ⟨ptA o k, e⟩ := fun k hk => cnL_at hk
    have key := between_loops rc rA rB rC rE I ic A ca l d B cb o e w (btwB ⟨rc, rA, rB, rC, rE, ins⟩ (cnL l d) (cnL o e)) hA hB hc ho h2 h3 h4 h5 h6
      (fun g1 g2 => btwB_yes (btwP_iff.2 ⟨hh, fun k hk => by rw [cnL_len] at hk; rw [hl k hk]; exact g1 k hk, fun k hk => by rw [cnL_len] at hk; rw [hm k hk]; exact g2 k hk⟩))
      (fun k hk g => btwB_no fun h => g (by have := (btwP_iff.1 h).2.1 k (by rw [cnL_len]; exact hk); rw [hl k hk] at this; exact this))
      (fun k hk g => btwB_no fun h => g (by have := (btwP_iff.1 h).2.2 k (by rw [cnL_len]; exact hk); rw [hm k hk] at this; exact this))
    have h1 : ins.length = 0 := h1
    show Calls Try.prog 101 #[.agg #[.bool rc, vint rA, vint rB, vint rC, vint rE, .slice I ins.length ic], .slice A l.length ca, .int .i64 d, .slice B o.length cb, .int .i64 e] w _
    rw [h1]
    exact key
  · rw [← btwB_no fun h => hh (btwP_iff.1 h).1]
    exact between_head rc rA rB rC rE I ins.length ic A _ ca d B _ cb e w hq hh
end Go.Proofs.Yteilglljigjefaa

/- Which proofs are right: the closures of the code. -/
namespace Go.Proofs.Yteilglljigjefaa
open Go.RowKit
theorem cmpI_pos {a b : Int} : 0 < cmpI a b ↔ b < a := by unfold cmpI; split <;> (try split) <;> omega
theorem cmpI_neg {a b : Int} : cmpI a b < 0 ↔ a < b := by unfold cmpI; split <;> (try split) <;> omega
/-- The numbers of a line, in a block. -/
structure LineIn (w : World) (g : Nat) (rA rB rC rE : Int) : Prop where
  a : ∀ w', Ext w w' → w'.cell? ⟨g, 1, none⟩ = some (.int .i64 rA)
  b : ∀ w', Ext w w' → w'.cell? ⟨g, 2, none⟩ = some (.int .i64 rB)
  c : ∀ w', Ext w w' → w'.cell? ⟨g, 3, none⟩ = some (.int .i64 rC)
  e : ∀ w', Ext w w' → w'.cell? ⟨g, 4, none⟩ = some (.int .i64 rE)
  hA : -10000000 ≤ rA ∧ rA ≤ 10000000
  hB : -10000000 ≤ rB ∧ rB ≤ 10000000
  hC : -100000000000000 ≤ rC ∧ rC ≤ 100000000000000
  hE : 1 ≤ rE ∧ rE ≤ 20000
theorem LineIn.ext {w w' : World} {g : Nat} {rA rB rC rE : Int} (h : LineIn w g rA rB rC rE) (he : Ext w w') : LineIn w' g rA rB rC rE :=
  ⟨fun w2 h2 => h.a w2 (he.trans h2), fun w2 h2 => h.b w2 (he.trans h2), fun w2 h2 => h.c w2 (he.trans h2), fun w2 h2 => h.e w2 (he.trans h2), h.hA, h.hB, h.hC, h.hE⟩
def ovr (rA rB rC rE : Int) (c : Cn) : Int := cmpI (rE * (rA * c.at_.x + rB * c.at_.y)) (rC * c.d)
set_option maxRecDepth 100000 in
set_option maxHeartbeats 4000000 in
theorem right1_any (g : Nat) (rA rB rC rE : Int) (c : Cn) (w : World) (hl : LineIn w g rA rB rC rE) (hc : CnOk c) :
    Calls Try.prog 95 #[c.val, .pointer (some ⟨g, 0, none⟩)] w fun e w' => e = .returned (.int .i64 (ovr rA rB rC rE c)) ∧ Ext w w' := by
  obtain ⟨a, b, cc, ee, hA, hB, hC, hE⟩ := hl
  obtain ⟨f1, f2, f3, f4⟩ := line_fit hA hB hC hE hc.x hc.y hc.d
  have hcm := fun (w' : World) => cmp_any (rE * (rA * c.at_.x + rB * c.at_.y)) (rC * c.d) w'
  have ho : ovr rA rB rC rE c = cmpI (rE * (rA * c.at_.x + rB * c.at_.y)) (rC * c.d) := rfl
  rw [ho]
  have Hcm := Lib.hid hcm
  clear hcm ho hc hA hB hC hE
  obtain ⟨⟨x, y⟩, z⟩ := c
  simp only at f1 f2 f3 f4 Hcm ⊢
  generalize cmpI (rE * (rA * x + rB * y)) (rC * z) = R at *
  have hx0 : Ext w (w.alloc (.cells #[vint x, vint y, vint z] 114)) := (Ext.refl _).alloc _
  replace a : ∀ w', Ext (w.alloc (.cells #[vint x, vint y, vint z] 114)) w' → _ := fun w' he => a w' (hx0.trans he)
  replace b : ∀ w', Ext (w.alloc (.cells #[vint x, vint y, vint z] 114)) w' → _ := fun w' he => b w' (hx0.trans he)
  replace cc : ∀ w', Ext (w.alloc (.cells #[vint x, vint y, vint z] 114)) w' → _ := fun w' he => cc w' (hx0.trans he)
  replace ee : ∀ w', Ext (w.alloc (.cells #[vint x, vint y, vint z] 114)) w' → _ := fun w' he => ee w' (hx0.trans he)
  go_enter Try.func95, Try.ntmps95
  go_wp2_with (go_at_call 96; refine (Hcm.out _).mono ?_; rintro e w1 ⟨rfl, rfl⟩)
  go_ret
  exact ⟨rfl, hx0⟩
/-- The closure 'over' in a block. -/
structure OverIn (w : World) (g7 g : Nat) (rA rB rC rE : Int) : Prop where
  f : ∀ w', Ext w w' → w'.cell? ⟨g7, 0, none⟩ = some (.func (.func 95) #[] #[.pointer (some ⟨g, 0, none⟩)])
  l : LineIn w g rA rB rC rE
theorem OverIn.ext {w w' : World} {g7 g : Nat} {rA rB rC rE : Int} (h : OverIn w g7 g rA rB rC rE) (he : Ext w w') : OverIn w' g7 g rA rB rC rE := ⟨fun w2 h2 => h.f w2 (he.trans h2), h.l.ext he⟩
set_option maxRecDepth 100000 in
set_option maxHeartbeats 4000000 in
theorem right2_any (g7 g : Nat) (rA rB rC rE : Int) (c : Cn) (w : World) (hl : OverIn w g7 g rA rB rC rE) (hc : CnOk c) :
    Calls Try.prog 98 #[c.val, .pointer (some ⟨g7, 0, none⟩)] w fun e w' => e = .returned (.bool (decide (0 < ovr rA rB rC rE c))) ∧ Ext w w' := by
  have h1 := fun w' (he : Ext w w') => right1_any g rA rB rC rE c w' (hl.l.ext he) hc
  have hf := hl.f
  have H1 := Lib.hid h1
  clear h1 hl hc
  generalize ovr rA rB rC rE c = R at *
  obtain ⟨⟨x, y⟩, z⟩ := c
  have hx0 : Ext w (w.alloc (.cells #[vint x, vint y, vint z] 114)) := (Ext.refl _).alloc _
  replace hf : ∀ w', Ext (w.alloc (.cells #[vint x, vint y, vint z] 114)) w' → _ := fun w' he => hf w' (hx0.trans he)
  go_enter Try.func98, Try.ntmps98
  go_wp2_with (go_at_call 95; refine (H1.out _ hx0).mono ?_; rintro e w1 ⟨rfl, hx1⟩)
  go_ret
  exact ⟨rfl, hx0.trans hx1⟩
set_option maxRecDepth 100000 in
set_option maxHeartbeats 4000000 in
theorem index2_any (g7 g : Nat) (rA rB rC rE : Int) (A : Option Addr) (ca : Nat) (l : List Cn) (w : World) (hl : OverIn w g7 g rA rB rC rE) (hA : CRow w A l) (hc : CnsOk l) :
    Calls Try.prog 110 #[.slice A l.length ca, .func (.func 98) #[] #[.pointer (some ⟨g7, 0, none⟩)]] w fun e w' => ∃ i : Int, e = .returned (.int .i64 i) ∧ (0 ≤ i ↔ ∃ k, k < l.length ∧ 0 < ovr rA rB rC rE (cAt l k)) ∧ Ext w w' := by
  have hat := fun k (hk : k < l.length) => hA.at_ hk
  have hcl := fun k (hk : k < l.length) w' (he : Ext w w') => right2_any g7 g rA rB rC rE (cAt l k) w' (hl.ext he) (hc.at_ hk)
  have hn8 := hc.len.2
  have Hat := Lib.hid hat
  have Hcl := Lib.hid hcl
  clear hat hcl hl hA hc
  generalize l.length = n at *
  go_enter Try.func110, Try.ntmps110
  go_wp2
  go_loopw [8] (fun i' wr => ∃ k : Nat, k ≤ n ∧ i' = .int .i64 k ∧ Ext w wr ∧ ∀ j, j < k → ovr rA rB rC rE (cAt l j) ≤ 0) (fun i' _ => n - (intOf i').toNat)
  case atStart => exact ⟨0, by omega, rfl, Ext.refl _, fun j h => absurd h (by omega)⟩
  case round =>
    obtain ⟨k, hk, rfl, hex, hall⟩ := hrel
    have Hall := Lib.hid hall
    clear hall
    by_cases hlt : k < n
    · obtain ⟨ad, rfl, r0, r1, r2⟩ := Hat.out k hlt
      have c0 : ∀ w', Ext wr w' → _ := fun w' he => r0 w' (hex.trans he)
      have c1 : ∀ w', Ext wr w' → _ := fun w' he => r1 w' (hex.trans he)
      have c2 : ∀ w', Ext wr w' → _ := fun w' he => r2 w' (hex.trans he)
      have hcc := fun w' (he : Ext wr w') => Hcl.out k hlt w' (hex.trans he)
      have hnx : ovr rA rB rC rE (cAt l k) ≤ 0 → ∀ j, j < k + 1 → ovr rA rB rC rE (cAt l j) ≤ 0 := fun h j hj => by
        by_cases e : j = k
        · subst e; exact h
        · exact Hall.out j (by omega)
      have hy : 0 < ovr rA rB rC rE (cAt l k) → ∃ k, k < n ∧ 0 < ovr rA rB rC rE (cAt l k) := fun h => ⟨k, hlt, h⟩
      have Hnx := Lib.hid hnx
      have Hy := Lib.hid hy
      clear r0 r1 r2 Hat Hcl hnx hy Hall
      by_cases hp : 0 < ovr rA rB rC rE (cAt l k)
      · have hq := Hy.out hp
        have Hq := Lib.hid hq
        rw [decide_eq_true hp] at hcc
        have Hcc := Lib.hid hcc
        clear hq hcc hp Hnx Hy
        generalize cAt l k = o at c0 c1 c2 Hcc
        go_wp2_with (go_at_call 98; refine (Hcc.out _ (Ext.refl _)).mono ?_; rintro e w5 ⟨rfl, hx5⟩)
        go_ret
        exact ⟨k, rfl, ⟨fun _ => Hq.out, fun _ => by omega⟩, hex.trans hx5⟩
      · have hq := Hnx.out (by omega)
        have Hq := Lib.hid hq
        rw [decide_eq_false hp] at hcc
        have Hcc := Lib.hid hcc
        clear hq hcc hp Hnx Hy
        generalize cAt l k = o at c0 c1 c2 Hcc
        go_wp2_with (go_at_call 98; refine (Hcc.out _ (Ext.refl _)).mono ?_; rintro e w5 ⟨rfl, hx5⟩)
        go_roundw
        case rel => exact ⟨k + 1, by omega, by go_num, hex.trans hx5, Hq.out⟩
        case measure => simp [intOf]; omega
    · obtain rfl : n = k := by omega
      go_wp2
      go_ret
      exact ⟨-1, rfl, ⟨fun h => absurd h (by omega), fun ⟨j, h1, h2⟩ => by have := Hall.out j h1; omega⟩, hex⟩
set_option maxHeartbeats 4000000 in
theorem contains2_any (g7 g : Nat) (rA rB rC rE : Int) (A : Option Addr) (ca : Nat) (l : List Cn) (w : World) (hl : OverIn w g7 g rA rB rC rE) (hA : CRow w A l) (hc : CnsOk l) :
    ∃ S : Bool, (S = true ↔ ∃ k, k < l.length ∧ 0 < ovr rA rB rC rE (cAt l k)) ∧ ∀ w', Ext w w' → Calls Try.prog 97 #[.slice A l.length ca, .func (.func 98) #[] #[.pointer (some ⟨g7, 0, none⟩)]] w' fun e w'' => e = .returned (.bool S) ∧ Ext w' w'' := by
  refine ⟨@decide (∃ k, k < l.length ∧ 0 < ovr rA rB rC rE (cAt l k)) (Classical.propDecidable _), by simp, fun w' he => ?_⟩
  have hix := index2_any g7 g rA rB rC rE A ca l w' (hl.ext he) (hA.ext he) hc
  have hd : ∀ i : Int, (0 ≤ i ↔ ∃ k, k < l.length ∧ 0 < ovr rA rB rC rE (cAt l k)) → decide (0 ≤ i) = @decide (∃ k, k < l.length ∧ 0 < ovr rA rB rC rE (cAt l k)) (Classical.propDecidable _) := fun i h => by
    by_cases hi : 0 ≤ i
    · rw [decide_eq_true hi]; exact (@decide_eq_true _ (Classical.propDecidable _) (h.1 hi)).symm
    · rw [decide_eq_false hi]; exact (@decide_eq_false _ (Classical.propDecidable _) (fun h' => hi (h.2 h'))).symm
  have Hix := Lib.hid hix
  have Hd := Lib.hid hd
  clear hix hd hl hA hc
  generalize @decide (∃ k, k < l.length ∧ 0 < ovr rA rB rC rE (cAt l k)) (Classical.propDecidable _) = S at *
  generalize l.length = n at *
  go_enter Try.func97, Try.ntmps97
  go_wp2_with (go_at_call 110; refine Hix.out.mono ?_; rintro e w1 ⟨i, rfl, hi, h1⟩; have Hi := Lib.hid hi; clear hi)
  go_ret
  exact ⟨ret_b (Hd.out _ Hi.out), h1⟩
set_option maxRecDepth 100000 in
set_option maxHeartbeats 4000000 in
theorem right3_any (g7 g : Nat) (rA rB rC rE : Int) (c : Cn) (w : World) (hl : OverIn w g7 g rA rB rC rE) (hc : CnOk c) :
    Calls Try.prog 99 #[c.val, .pointer (some ⟨g7, 0, none⟩)] w fun e w' => e = .returned (.bool (decide (ovr rA rB rC rE c < 0))) ∧ Ext w w' := by
  have h1 := fun w' (he : Ext w w') => right1_any g rA rB rC rE c w' (hl.l.ext he) hc
  have hf := hl.f
  have H1 := Lib.hid h1
  clear h1 hl hc
  generalize ovr rA rB rC rE c = R at *
  obtain ⟨⟨x, y⟩, z⟩ := c
  have hx0 : Ext w (w.alloc (.cells #[vint x, vint y, vint z] 114)) := (Ext.refl _).alloc _
  replace hf : ∀ w', Ext (w.alloc (.cells #[vint x, vint y, vint z] 114)) w' → _ := fun w' he => hf w' (hx0.trans he)
  go_enter Try.func99, Try.ntmps99
  go_wp2_with (go_at_call 95; refine (H1.out _ hx0).mono ?_; rintro e w1 ⟨rfl, hx1⟩)
  go_ret
  exact ⟨rfl, hx0.trans hx1⟩
set_option maxRecDepth 100000 in
set_option maxHeartbeats 4000000 in
theorem index3_any (g7 g : Nat) (rA rB rC rE : Int) (A : Option Addr) (ca : Nat) (l : List Cn) (w : World) (hl : OverIn w g7 g rA rB rC rE) (hA : CRow w A l) (hc : CnsOk l) :
    Calls Try.prog 110 #[.slice A l.length ca, .func (.func 99) #[] #[.pointer (some ⟨g7, 0, none⟩)]] w fun e w' => ∃ i : Int, e = .returned (.int .i64 i) ∧ (0 ≤ i ↔ ∃ k, k < l.length ∧ ovr rA rB rC rE (cAt l k) < 0) ∧ Ext w w' := by
  have hat := fun k (hk : k < l.length) => hA.at_ hk
  have hcl := fun k (hk : k < l.length) w' (he : Ext w w') => right3_any g7 g rA rB rC rE (cAt l k) w' (hl.ext he) (hc.at_ hk)
  have hn8 := hc.len.2
  have Hat := Lib.hid hat
  have Hcl := Lib.hid hcl
  clear hat hcl hl hA hc
  generalize l.length = n at *
  go_enter Try.func110, Try.ntmps110
  go_wp2
  go_loopw [8] (fun i' wr => ∃ k : Nat, k ≤ n ∧ i' = .int .i64 k ∧ Ext w wr ∧ ∀ j, j < k → 0 ≤ ovr rA rB rC rE (cAt l j)) (fun i' _ => n - (intOf i').toNat)
  case atStart => exact ⟨0, by omega, rfl, Ext.refl _, fun j h => absurd h (by omega)⟩
  case round =>
    obtain ⟨k, hk, rfl, hex, hall⟩ := hrel
    have Hall := Lib.hid hall
    clear hall
    by_cases hlt : k < n
    · obtain ⟨ad, rfl, r0, r1, r2⟩ := Hat.out k hlt
      have c0 : ∀ w', Ext wr w' → _ := fun w' he => r0 w' (hex.trans he)
      have c1 : ∀ w', Ext wr w' → _ := fun w' he => r1 w' (hex.trans he)
      have c2 : ∀ w', Ext wr w' → _ := fun w' he => r2 w' (hex.trans he)
      have hcc := fun w' (he : Ext wr w') => Hcl.out k hlt w' (hex.trans he)
      have hnx : 0 ≤ ovr rA rB rC rE (cAt l k) → ∀ j, j < k + 1 → 0 ≤ ovr rA rB rC rE (cAt l j) := fun h j hj => by
        by_cases e : j = k
        · subst e; exact h
        · exact Hall.out j (by omega)
      have hy : ovr rA rB rC rE (cAt l k) < 0 → ∃ k, k < n ∧ ovr rA rB rC rE (cAt l k) < 0 := fun h => ⟨k, hlt, h⟩
      have Hnx := Lib.hid hnx
      have Hy := Lib.hid hy
      clear r0 r1 r2 Hat Hcl hnx hy Hall
      by_cases hp : ovr rA rB rC rE (cAt l k) < 0
      · have hq := Hy.out hp
        have Hq := Lib.hid hq
        rw [decide_eq_true hp] at hcc
        have Hcc := Lib.hid hcc
        clear hq hcc hp Hnx Hy
        generalize cAt l k = o at c0 c1 c2 Hcc
        go_wp2_with (go_at_call 99; refine (Hcc.out _ (Ext.refl _)).mono ?_; rintro e w5 ⟨rfl, hx5⟩)
        go_ret
        exact ⟨k, rfl, ⟨fun _ => Hq.out, fun _ => by omega⟩, hex.trans hx5⟩
      · have hq := Hnx.out (by omega)
        have Hq := Lib.hid hq
        rw [decide_eq_false hp] at hcc
        have Hcc := Lib.hid hcc
        clear hq hcc hp Hnx Hy
        generalize cAt l k = o at c0 c1 c2 Hcc
        go_wp2_with (go_at_call 99; refine (Hcc.out _ (Ext.refl _)).mono ?_; rintro e w5 ⟨rfl, hx5⟩)
        go_roundw
        case rel => exact ⟨k + 1, by omega, by go_num, hex.trans hx5, Hq.out⟩
        case measure => simp [intOf]; omega
    · obtain rfl : n = k := by omega
      go_wp2
      go_ret
      exact ⟨-1, rfl, ⟨fun h => absurd h (by omega), fun ⟨j, h1, h2⟩ => by have := Hall.out j h1; omega⟩, hex⟩
set_option maxHeartbeats 4000000 in
theorem contains3_any (g7 g : Nat) (rA rB rC rE : Int) (A : Option Addr) (ca : Nat) (l : List Cn) (w : World) (hl : OverIn w g7 g rA rB rC rE) (hA : CRow w A l) (hc : CnsOk l) :
    ∃ S : Bool, (S = true ↔ ∃ k, k < l.length ∧ ovr rA rB rC rE (cAt l k) < 0) ∧ ∀ w', Ext w w' → Calls Try.prog 97 #[.slice A l.length ca, .func (.func 99) #[] #[.pointer (some ⟨g7, 0, none⟩)]] w' fun e w'' => e = .returned (.bool S) ∧ Ext w' w'' := by
  refine ⟨@decide (∃ k, k < l.length ∧ ovr rA rB rC rE (cAt l k) < 0) (Classical.propDecidable _), by simp, fun w' he => ?_⟩
  have hix := index3_any g7 g rA rB rC rE A ca l w' (hl.ext he) (hA.ext he) hc
  have hd : ∀ i : Int, (0 ≤ i ↔ ∃ k, k < l.length ∧ ovr rA rB rC rE (cAt l k) < 0) → decide (0 ≤ i) = @decide (∃ k, k < l.length ∧ ovr rA rB rC rE (cAt l k) < 0) (Classical.propDecidable _) := fun i h => by
    by_cases hi : 0 ≤ i
    · rw [decide_eq_true hi]; exact (@decide_eq_true _ (Classical.propDecidable _) (h.1 hi)).symm
    · rw [decide_eq_false hi]; exact (@decide_eq_false _ (Classical.propDecidable _) (fun h' => hi (h.2 h'))).symm
  have Hix := Lib.hid hix
  have Hd := Lib.hid hd
  clear hix hd hl hA hc
  generalize @decide (∃ k, k < l.length ∧ ovr rA rB rC rE (cAt l k) < 0) (Classical.propDecidable _) = S at *
  generalize l.length = n at *
  go_enter Try.func97, Try.ntmps97
  go_wp2_with (go_at_call 110; refine Hix.out.mono ?_; rintro e w1 ⟨i, rfl, hi, h1⟩; have Hi := Lib.hid hi; clear hi)
  go_ret
  exact ⟨ret_b (Hd.out _ Hi.out), h1⟩
def leftP (c other : List Cn) (all : List Int) : Prop := ∀ j, j < all.length → inAt c other j (getI all j)
instance (c other : List Cn) (all : List Int) : Decidable (leftP c other all) := by unfold leftP; infer_instance
def leftB (c other : List Cn) (all : List Int) : Bool := decide (leftP c other all)
theorem leftB_yes {c other : List Cn} {all : List Int} (h : leftP c other all) : true = leftB c other all := (decide_eq_true h).symm
theorem leftB_no {c other : List Cn} {all : List Int} (h : ¬ leftP c other all) : false = leftB c other all := (decide_eq_false h).symm
set_option maxRecDepth 100000 in
set_option maxHeartbeats 8000000 in
theorem left4_any (A : Option Addr) (ca : Nat) (c : List Cn) (B : Option Addr) (cb : Nat) (other : List Cn) (I : Option Addr) (ic : Nat) (all : List Int) (w : World) (hA : CRow w A c) (hB : CRow w B other) (hI : Ints w I all) (hc : CnsOk c) (ho : CnsOk other) (hq : all.length ≤ c.length) :
    Calls Try.prog 100 #[.slice A c.length ca, .slice B other.length cb, .slice I all.length ic] w fun e w' => e = .returned (.bool (leftB c other all)) ∧ Ext w w' := by
  have hat := fun k (hk : k < c.length) => hA.at_ hk
  have hbt := fun k (hk : k < other.length) => hB.at_ hk
  have hit := fun k (hk : k < all.length) => intsAt hI hk
  have hsd : ∀ i, i < c.length → ∀ j, j < other.length → ∀ w' : World, Calls Try.prog 62 #[(cAt c i).val, (cAt c ((i + 1) % c.length)).val, (cAt other j).val] w' fun e w'' => e = .returned (.int .i64 (eside c i (cAt other j))) ∧ Ext w' w'' := fun i hi j hj w' => side_any _ _ _ w' (hc.edge hi) (ho.at_ hj)
  have hyes : (∀ j, j < all.length → inAt c other j (getI all j)) → true = leftB c other all := fun h => leftB_yes h
  have hno : ∀ j, j < all.length → ¬ inAt c other j (getI all j) → false = leftB c other all := fun j hj h => leftB_no fun h' => h (h' j hj)
  have hin : ∀ j x, inAt c other j x ↔ (0 ≤ x ∧ x < other.length ∧ 0 < eside c j (cAt other x.toNat)) := fun _ _ => Iff.rfl
  have hn8 := hc.len
  have hm8 := ho.len
  have Hat := Lib.hid hat
  have Hbt := Lib.hid hbt
  have Hit := Lib.hid hit
  have Hsd := Lib.hid hsd
  have Hyes := Lib.hid hyes
  have Hno := Lib.hid hno
  have Hin := Lib.hid hin
  clear hat hbt hit hsd hyes hno hin hA hB hI hc ho
  generalize leftB c other all = R at *
  generalize c.length = n at *
  generalize other.length = m at *
  generalize all.length = q at *
  go_enter Try.func100, Try.ntmps100
  go_wp2
  go_loopw [11] (fun i wr => ∃ k : Nat, k ≤ q ∧ i = .int .i64 k ∧ Ext w wr ∧ ∀ j, j < k → inAt c other j (getI all j)) (fun i _ => q - (intOf i).toNat)
  case atStart => exact ⟨0, by omega, rfl, Ext.refl _, fun j h => absurd h (by omega)⟩
  case round =>
    obtain ⟨k, hk, rfl, hex, hall⟩ := hrel
    have Hall := Lib.hid hall
    clear hall
    by_cases hlt : k < q
    · obtain ⟨id, rfl, p0⟩ := Hit.out k hlt
      have u0 : ∀ w', Ext wr w' → _ := fun w' he => p0 w' (hex.trans he)
      have hnx : inAt c other k (getI all k) → ∀ j, j < k + 1 → inAt c other j (getI all j) := fun h j hj => by
        by_cases e : j = k
        · subst e; exact h
        · exact Hall.out j (by omega)
      have hno := Hno.out k hlt
      have hin := Hin.out k (getI all k)
      have Hnx := Lib.hid hnx
      have Hno' := Lib.hid hno
      have Hin' := Lib.hid hin
      have hkq : (k : Int) < (q : Int) := by omega
      clear p0 hnx hno hin Hall Hno Hin Hyes Hit
      have hkn : k < n := by omega
      generalize getI all k = x at *
      by_cases h1 : x < 0
      · have hq' := Hno'.out (fun h => by have := (Hin'.out.1 h).1; omega)
        have Hq := Lib.hid hq'
        have d1 : decide (x < 0) = true := by simpa using h1
        clear hq' Hnx Hno' Hin' Hat Hbt Hsd h1
        go_wp2
        refine wp_region_calm 28 (fun _ _ _ _ => True) (fun _ _ _ _ _ _ h => h) (by kernel_rfl) (by kernel_rfl) ?_
        simp only [List.take_succ_cons, List.take_zero, List.drop_succ_cons, List.drop_zero]
        refine calm_quiet calm_mono_final 25 (by kernel_rfl) ?_
        simp only [List.take_succ_cons, List.take_zero, List.drop_succ_cons, List.drop_zero]
        repeat (go_big_quiet_step (fail))
        refine wpQuiet_nil ?_
        refine calm_skip (by kernel_rfl) ?_
        simp only [Act.put, List.setIfInBounds_toArray, List.set_cons_succ, List.set_cons_zero]
        refine calm_quiet calm_mono_final 2 (by kernel_rfl) ?_
        simp only [List.take_succ_cons, List.take_zero, List.drop_succ_cons, List.drop_zero]
        repeat (go_big_quiet_step (fail))
        refine wpQuiet_nil ?_
        refine calm_nil fun w3 he3 _ => ?_
        go_wp2
        go_ret
        exact ⟨ret_b Hq.out, hex.trans he3⟩
      · have d1 : decide (x < 0) = false := by simpa using h1
        by_cases h2 : (m : Int) ≤ x
        · have hq' := Hno'.out (fun h => by have := (Hin'.out.1 h).2.1; omega)
          have Hq := Lib.hid hq'
          have d2 : decide ((m : Int) ≤ x) = true := by simpa using h2
          clear hq' Hnx Hno' Hin' Hat Hbt Hsd h1 h2
          go_wp2
          refine wp_region_calm 28 (fun _ _ _ _ => True) (fun _ _ _ _ _ _ h => h) (by kernel_rfl) (by kernel_rfl) ?_
          simp only [List.take_succ_cons, List.take_zero, List.drop_succ_cons, List.drop_zero]
          refine calm_quiet calm_mono_final 25 (by kernel_rfl) ?_
          simp only [List.take_succ_cons, List.take_zero, List.drop_succ_cons, List.drop_zero]
          repeat (go_big_quiet_step (fail))
          refine wpQuiet_nil ?_
          refine calm_skip (by kernel_rfl) ?_
          simp only [Act.put, List.setIfInBounds_toArray, List.set_cons_succ, List.set_cons_zero]
          refine calm_quiet calm_mono_final 2 (by kernel_rfl) ?_
          simp only [List.take_succ_cons, List.take_zero, List.drop_succ_cons, List.drop_zero]
          repeat (go_big_quiet_step (fail))
          refine wpQuiet_nil ?_
          refine calm_nil fun w3 he3 _ => ?_
          go_wp2
          go_ret
          exact ⟨ret_b Hq.out, hex.trans he3⟩
        · have d2 : decide ((m : Int) ≤ x) = false := by simpa using h2
          obtain ⟨j, rfl⟩ := Int.eq_ofNat_of_zero_le (show 0 ≤ x by omega)
          have hjm : j < m := by omega
          have d2' : decide (m ≤ j) = false := by simp; omega
          have e2 : ((k : Int) + 1).tmod (n : Int) = (((k + 1) % n : Nat) : Int) := by
            rw [Int.tmod_eq_emod_of_nonneg (by omega)]; exact (by push_cast; rfl)
          have e3 : ((n : Int) = 0) = False := by simp; omega
          have hk1 := Nat.mod_lt (k + 1) (show 0 < n by omega)
          obtain ⟨ad, rfl, a0, a1, a2⟩ := Hat.out k hkn
          obtain ⟨_, ee, b0, b1, b2⟩ := Hat.out _ hk1
          cases ee
          obtain ⟨bd, rfl, z0, z1, z2⟩ := Hbt.out j hjm
          replace a0 : ∀ w', Ext wr w' → _ := fun w' he => a0 w' (hex.trans he)
          replace a1 : ∀ w', Ext wr w' → _ := fun w' he => a1 w' (hex.trans he)
          replace a2 : ∀ w', Ext wr w' → _ := fun w' he => a2 w' (hex.trans he)
          replace b0 : ∀ w', Ext wr w' → _ := fun w' he => b0 w' (hex.trans he)
          replace b1 : ∀ w', Ext wr w' → _ := fun w' he => b1 w' (hex.trans he)
          replace b2 : ∀ w', Ext wr w' → _ := fun w' he => b2 w' (hex.trans he)
          replace z0 : ∀ w', Ext wr w' → _ := fun w' he => z0 w' (hex.trans he)
          replace z1 : ∀ w', Ext wr w' → _ := fun w' he => z1 w' (hex.trans he)
          replace z2 : ∀ w', Ext wr w' → _ := fun w' he => z2 w' (hex.trans he)
          have hs := Hsd.out k hkn j hjm
          have hin := Hin'.out
          simp only [Int.toNat_natCast] at hin
          have Hs := Lib.hid hs
          have Hin := Lib.hid hin
          clear hs hin Hin' Hat Hbt Hsd h1 h2
          generalize (k + 1) % n = k1 at *
          generalize eside c k (cAt other j) = D at *
          generalize cAt c k = a at *
          generalize cAt c k1 = b at *
          generalize cAt other j = z at *
          have hk1n : (k1 : Int) < (n : Int) := by omega
          have hkn' : (k : Int) < (n : Int) := by omega
          have hjm' : (j : Int) < (m : Int) := by omega
          by_cases hD : D ≤ 0
          · have hq' := Hno'.out (fun h => by have := (Hin.out.1 h).2.2; omega)
            have Hq := Lib.hid hq'
            have d5 : decide (D ≤ 0) = true := by simpa using hD
            clear hq' Hnx Hno' Hin hD
            go_wp2
            refine wp_region_calm 28 (fun j _ v _ => j = 25 → v = .int .i64 D) (fun _ _ _ _ _ _ h => h) (by kernel_rfl) (by kernel_rfl) ?_
            simp only [List.take_succ_cons, List.take_zero, List.drop_succ_cons, List.drop_zero]
            refine calm_quiet calm_mono_final 25 (by kernel_rfl) ?_
            simp only [List.take_succ_cons, List.take_zero, List.drop_succ_cons, List.drop_zero]
            repeat (go_big_quiet_step (fail))
            refine wpQuiet_nil ?_
            refine calm_call calm_mono_final 62 #[a.val, b.val, z.val] rfl (fun w => ?_) (fun w he hF => ?_) ?_
            · go_simp
            · exact (Hs.out w).mono fun e w'' ⟨he', hx⟩ => ⟨_, he', hx, fun _ => rfl⟩
            rintro _ _ _ h
            cases h rfl
            simp only [Act.put, List.setIfInBounds_toArray, List.set_cons_succ, List.set_cons_zero]
            refine calm_quiet calm_mono_final 2 (by kernel_rfl) ?_
            simp only [List.take_succ_cons, List.take_zero, List.drop_succ_cons, List.drop_zero]
            repeat (go_big_quiet_step (fail))
            refine wpQuiet_nil ?_
            refine calm_nil fun w3 he3 _ => ?_
            go_wp2
            go_ret
            exact ⟨ret_b Hq.out, hex.trans he3⟩
          · have hq' := Hnx.out (Hin.out.2 ⟨by omega, by omega, by omega⟩)
            have Hq := Lib.hid hq'
            have d5 : decide (D ≤ 0) = false := by simpa using hD
            clear hq' Hnx Hno' Hin hD
            go_wp2
            refine wp_region_calm 28 (fun j _ v _ => j = 25 → v = .int .i64 D) (fun _ _ _ _ _ _ h => h) (by kernel_rfl) (by kernel_rfl) ?_
            simp only [List.take_succ_cons, List.take_zero, List.drop_succ_cons, List.drop_zero]
            refine calm_quiet calm_mono_final 25 (by kernel_rfl) ?_
            simp only [List.take_succ_cons, List.take_zero, List.drop_succ_cons, List.drop_zero]
            repeat (go_big_quiet_step (fail))
            refine wpQuiet_nil ?_
            refine calm_call calm_mono_final 62 #[a.val, b.val, z.val] rfl (fun w => ?_) (fun w he hF => ?_) ?_
            · go_simp
            · exact (Hs.out w).mono fun e w'' ⟨he', hx⟩ => ⟨_, he', hx, fun _ => rfl⟩
            rintro _ _ _ h
            cases h rfl
            simp only [Act.put, List.setIfInBounds_toArray, List.set_cons_succ, List.set_cons_zero]
            refine calm_quiet calm_mono_final 2 (by kernel_rfl) ?_
            simp only [List.take_succ_cons, List.take_zero, List.drop_succ_cons, List.drop_zero]
            repeat (go_big_quiet_step (fail))
            refine wpQuiet_nil ?_
            refine calm_nil fun w3 he3 _ => ?_
            go_wp2
            go_roundw
            case rel => exact ⟨k + 1, by omega, by go_num, hex.trans he3, Hq.out⟩
            case measure => simp [intOf]; omega
    · obtain rfl : q = k := by omega
      have hy := Hyes.out Hall.out
      have Hy := Lib.hid hy
      clear hy Hyes Hno Hin Hall Hat Hbt Hit Hsd
      go_wp2
      go_ret
      exact ⟨ret_b Hy.out, hex⟩
end Go.Proofs.Yteilglljigjefaa

/- Which proofs are right: by the code. -/
namespace Go.Proofs.Yteilglljigjefaa
open Go.RowKit
theorem rightB_yes {r : Apr} {a b : List Cn} (h : rightP r a b) : true = rightB r a b := (decide_eq_true h).symm
theorem rightB_no {r : Apr} {a b : List Cn} (h : ¬ rightP r a b) : false = rightB r a b := (decide_eq_false h).symm
theorem rightB_clear {r : Apr} {a b : List Cn} (h : r.clear = true) : rightB r a b = btwB r a b := by
  unfold rightB btwB rightP
  simp [h]
theorem rightB_ins {r : Apr} {a b : List Cn} (h : r.clear = false) : rightB r a b = decide (insP r a b) := by
  unfold rightB rightP
  simp [h]
set_option maxRecDepth 100000 in
set_option maxHeartbeats 16000000 in
theorem right_head (rA rB rC rE : Int) (I : Option Addr) (q ic : Nat) (A : Option Addr) (n ca : Nat) (B : Option Addr) (m cb : Nat) (w : World)
    (hbad : ¬ (q = 0 ∧ (-10000000 ≤ rA ∧ rA ≤ 10000000) ∧ (-10000000 ≤ rB ∧ rB ≤ 10000000) ∧ ¬ (rA = 0 ∧ rB = 0) ∧ (-100000000000000 ≤ rC ∧ rC ≤ 100000000000000) ∧ (1 ≤ rE ∧ rE ≤ 20000))) :
    Calls Try.prog 76 #[.agg #[.bool true, vint rA, vint rB, vint rC, vint rE, .slice I q ic], .slice A n ca, .slice B m cb] w fun en w' => en = .returned (.bool false) ∧ Ext w w' := by
  have hx0 : Ext w (w.alloc (.cells #[.bool true, vint rA, vint rB, vint rC, vint rE, .slice I q ic] 67)) := (Ext.refl _).alloc _
  have hsf : ∀ (a : Addr) (f : Fn) (x y : Array Value) (w : World), (store a (.func f x y)).run Try.prog w = stored Try.prog w a (.func f x y) .plain := fun a f x y w => run_store Try.prog w a _ .plain rfl
  have Hbad := Lib.hid hbad
  clear hbad
  go_enter Try.func76, Try.ntmps76
  go_wp2_with (go_at_call 97; exfalso; have hb := Hbad.out; simp at *; omega)
  all_goals go_ret
  all_goals exact ⟨rfl, (Ext.refl _).alloc _⟩
end Go.Proofs.Yteilglljigjefaa

/- Which proofs are right: a line. -/
namespace Go.Proofs.Yteilglljigjefaa
open Go.RowKit
theorem zero_or {a b : Int} (h : ¬ (a = 0 ∧ b = 0)) : (a == 0) = true ∧ (b == 0) = false ∨ (a == 0) = false := by
  by_cases h1 : a = 0
  · exact .inl ⟨by simpa using h1, by simpa using fun h' => h ⟨h1, h'⟩⟩
  · exact .inr (by simpa using h1)
set_option maxRecDepth 100000 in
set_option maxHeartbeats 8000000 in
theorem right_line (rA rB rC rE : Int) (I : Option Addr) (ic : Nat) (A : Option Addr) (ca : Nat) (a : List Cn) (B : Option Addr) (cb : Nat) (b : List Cn) (w : World) (hlA : CRow w A a) (hlB : CRow w B b) (hc : CnsOk a) (ho : CnsOk b) (R : Bool)
    (hA : -10000000 ≤ rA ∧ rA ≤ 10000000) (hB : -10000000 ≤ rB ∧ rB ≤ 10000000) (h0 : ¬ (rA = 0 ∧ rB = 0)) (hC : -100000000000000 ≤ rC ∧ rC ≤ 100000000000000) (hE : 1 ≤ rE ∧ rE ≤ 20000)
    (hR : R = true ↔ (¬ ∃ k, k < a.length ∧ 0 < ovr rA rB rC rE (cAt a k)) ∧ ¬ ∃ k, k < b.length ∧ ovr rA rB rC rE (cAt b k) < 0) :
    Calls Try.prog 76 #[.agg #[.bool true, vint rA, vint rB, vint rC, vint rE, .slice I 0 ic], .slice A a.length ca, .slice B b.length cb] w fun en w' => en = .returned (.bool R) ∧ Ext w w' := by
  have kb : Blk (w.alloc (.cells #[.bool true, vint rA, vint rB, vint rC, vint rE, .slice I 0 ic] 67)) w.heap.size [.bool true, vint rA, vint rB, vint rC, vint rE, .slice I 0 ic] := Blk.new _ _
  have hx0 : Ext w (w.alloc (.cells #[.bool true, vint rA, vint rB, vint rC, vint rE, .slice I 0 ic] 67)) := (Ext.refl _).alloc _
  have hli : LineIn (w.alloc (.cells #[.bool true, vint rA, vint rB, vint rC, vint rE, .slice I 0 ic] 67)) w.heap.size rA rB rC rE := ⟨kb.at_ 1 rfl, kb.at_ 2 rfl, kb.at_ 3 rfl, kb.at_ 4 rfl, hA, hB, hC, hE⟩
  have k7 : Whole ((w.alloc (.cells #[.bool true, vint rA, vint rB, vint rC, vint rE, .slice I 0 ic] 67)).alloc (.cells #[.func (.func 95) #[] #[.pointer (some ⟨w.heap.size, 0, none⟩)]] 149)) (w.heap.size + 1) #[.func (.func 95) #[] #[.pointer (some ⟨w.heap.size, 0, none⟩)]] 149 := Whole.new (by simp)
  have hx1 : Ext (w.alloc (.cells #[.bool true, vint rA, vint rB, vint rC, vint rE, .slice I 0 ic] 67)) ((w.alloc (.cells #[.bool true, vint rA, vint rB, vint rC, vint rE, .slice I 0 ic] 67)).alloc (.cells #[.func (.func 95) #[] #[.pointer (some ⟨w.heap.size, 0, none⟩)]] 149)) := (Ext.refl _).alloc _
  have hov : OverIn ((w.alloc (.cells #[.bool true, vint rA, vint rB, vint rC, vint rE, .slice I 0 ic] 67)).alloc (.cells #[.func (.func 95) #[] #[.pointer (some ⟨w.heap.size, 0, none⟩)]] 149)) (w.heap.size + 1) w.heap.size rA rB rC rE := ⟨fun w' he => (Whole.ext k7 he).cell 0 rfl, hli.ext hx1⟩
  obtain ⟨S1, hS1, C1⟩ := contains2_any _ _ _ _ _ _ A ca a _ hov (hlA.ext (hx0.trans hx1)) hc
  obtain ⟨S2, hS2, C2⟩ := contains3_any _ _ _ _ _ _ B cb b _ hov (hlB.ext (hx0.trans hx1)) ho
  have hR' : R = (!S1 && !S2) := by
    rw [Bool.eq_iff_iff, hR, ← hS1, ← hS2]
    clear C1 C2 hR hS1 hS2
    cases S1 <;> cases S2 <;> simp
  have d1 : decide ((0 : Int) < ((0 : Nat) : Int)) = false := by simp
  have d2 : decide (rA < -10000000) = false := by simp; omega
  have d3 : decide (10000000 < rA) = false := by simp; omega
  have d2' : decide (rB < -10000000) = false := by simp; omega
  have d3' : decide (10000000 < rB) = false := by simp; omega
  have d45 := zero_or h0
  have d6 : decide (rC < -100000000000000) = false := by simp; omega
  have d7 : decide (100000000000000 < rC) = false := by simp; omega
  have d8 : decide (rE < 1) = false := by simp; omega
  have d9 : decide (20000 < rE) = false := by simp; omega
  have p1 : -10000000 ≤ rA := hA.1
  have p2 : rA ≤ 10000000 := hA.2
  have p3 : -10000000 ≤ rB := hB.1
  have p4 : rB ≤ 10000000 := hB.2
  have p5 : ¬ rA < -10000000 := by omega
  have p6 : ¬ rB < -10000000 := by omega
  have p7 : ¬ 10000000 < rA := by omega
  have p8 : ¬ 10000000 < rB := by omega
  have HC1 := Lib.hid C1
  have HC2 := Lib.hid C2
  have HR := Lib.hid hR'
  have Hx := Lib.hid (hx0.trans hx1)
  have hsf : ∀ (a : Addr) (f : Fn) (x y : Array Value) (w : World), (store a (.func f x y)).run Try.prog w = stored Try.prog w a (.func f x y) .plain := fun a f x y w => run_store Try.prog w a _ .plain rfl
  clear kb hli k7 hov C1 C2 hR hR' hS1 hS2 hlA hlB hc ho hA hB h0 hC hE hx0 hx1
  generalize a.length = n at *
  generalize b.length = m at *
  rcases d45 with ⟨d4, d5⟩ | d4
  all_goals
    cases S1
    all_goals
      go_enter Try.func76, Try.ntmps76
      go_wp2_with (first
        | (go_at_call 97; ((with_reducible refine (HC1.out _ (Ext.refl _)).mono ?_); rintro e w5 ⟨rfl, hx5⟩))
        | (go_at_call 97; ((with_reducible refine (HC2.out _ hx5).mono ?_); rintro e w6 ⟨rfl, hx6⟩)))
      all_goals go_ret
      all_goals first
        | exact ⟨ret_b (by rw [HR.out]; simp), (Hx.out.trans hx5).trans hx6⟩
        | exact ⟨ret_b (by rw [HR.out]; simp), Hx.out.trans hx5⟩
end Go.Proofs.Yteilglljigjefaa

/- Which proofs are right: no line. -/
namespace Go.Proofs.Yteilglljigjefaa
open Go.RowKit
set_option maxRecDepth 100000 in
set_option maxHeartbeats 16000000 in
theorem right_none (rA rB rC rE : Int) (I : Option Addr) (q ic : Nat) (A : Option Addr) (n ca : Nat) (B : Option Addr) (m cb : Nat) (w : World) (hn : n ≤ 8) (hm : m ≤ 8)
    (hbad : ¬ ((rA = 0 ∧ rB = 0 ∧ rC = 0 ∧ rE = 0) ∧ q = n + m)) :
    Calls Try.prog 76 #[.agg #[.bool false, vint rA, vint rB, vint rC, vint rE, .slice I q ic], .slice A n ca, .slice B m cb] w fun en w' => en = .returned (.bool false) ∧ Ext w w' := by
  have hx0 : Ext w (w.alloc (.cells #[.bool false, vint rA, vint rB, vint rC, vint rE, .slice I q ic] 67)) := (Ext.refl _).alloc _
  by_cases c0 : rA = 0
  · subst c0
    by_cases c1 : rB = 0
    · subst c1
      by_cases c2 : rC = 0
      · subst c2
        by_cases c3 : rE = 0
        · subst c3
          have d5 : ((q : Int) != (n : Int) + (m : Int)) = true := by
            have : ¬ q = n + m := fun h => hbad ⟨⟨rfl, rfl, rfl, rfl⟩, h⟩
            simp; omega
          clear hbad
          go_enter Try.func76, Try.ntmps76
          go_wp2
          go_ret
          exact ⟨rfl, hx0⟩
        · have d4 : (rE != 0) = true := by simpa using c3
          clear hbad
          go_enter Try.func76, Try.ntmps76
          go_wp2
          go_ret
          exact ⟨rfl, hx0⟩
      · have d3 : (rC != 0) = true := by simpa using c2
        clear hbad
        go_enter Try.func76, Try.ntmps76
        go_wp2
        go_ret
        exact ⟨rfl, hx0⟩
    · have d2 : (rB != 0) = true := by simpa using c1
      clear hbad
      go_enter Try.func76, Try.ntmps76
      go_wp2
      go_ret
      exact ⟨rfl, hx0⟩
  · have d1 : (rA != 0) = true := by simpa using c0
    clear hbad
    go_enter Try.func76, Try.ntmps76
    go_wp2
    go_ret
    exact ⟨rfl, hx0⟩
end Go.Proofs.Yteilglljigjefaa

/- Which proofs are right: corners inside. -/
namespace Go.Proofs.Yteilglljigjefaa
open Go.RowKit
theorem ints_drop {w : World} {ad : Addr} {xs : List Int} (h : Ints w (some ad) xs) (n : Nat) : Ints w (some (ad.add n)) (xs.drop n) := fun k hk => by
  rw [List.map_drop, List.length_drop] at hk
  obtain ⟨ad', e, hc⟩ := h (n + k) (by omega)
  cases e
  refine ⟨_, rfl, ?_⟩
  rw [Go.Deep.add_add, hc]
  simp
theorem ints_take {w : World} {A : Option Addr} {xs : List Int} (h : Ints w A xs) (n : Nat) : Ints w A (xs.take n) := fun k hk => by
  rw [List.map_take, List.length_take] at hk
  obtain ⟨ad, e, hc⟩ := h k (by omega)
  refine ⟨ad, e, ?_⟩
  rw [hc, List.map_take, List.getElem?_take_of_lt (by omega)]
theorem insP_iff {r : Apr} {a b : List Cn} (h0 : r.A = 0 ∧ r.B = 0 ∧ r.C = 0 ∧ r.E = 0) (hl : r.ins.length = a.length + b.length) : insP r a b ↔ leftP a b (r.ins.take a.length) ∧ leftP b a (r.ins.drop a.length) := by
  have e1 : ∀ n, n < a.length → getI (r.ins.take a.length) n = r.ins.getD n 0 := fun n hn => by simp [getI, List.getD, List.getElem?_take_of_lt hn]
  have e2 : ∀ n, getI (r.ins.drop a.length) n = r.ins.getD (a.length + n) 0 := fun n => by simp [getI, List.getD]
  have l1 : (r.ins.take a.length).length = a.length := by rw [List.length_take]; omega
  have l2 : (r.ins.drop a.length).length = b.length := by rw [List.length_drop]; omega
  unfold insP leftP
  rw [l1, l2]
  constructor
  · rintro ⟨_, _, h1, h2⟩
    exact ⟨fun j hj => by rw [e1 j hj]; exact h1 j hj, fun j hj => by rw [e2]; exact h2 j hj⟩
  · rintro ⟨h1, h2⟩
    exact ⟨h0, hl, fun j hj => by rw [← e1 j hj]; exact h1 j hj, fun j hj => by rw [← e2]; exact h2 j hj⟩
set_option maxRecDepth 100000 in
set_option maxHeartbeats 8000000 in
theorem right_left (ad : Addr) (ic : Nat) (ins : List Int) (A : Option Addr) (ca : Nat) (a : List Cn) (B : Option Addr) (cb : Nat) (b : List Cn) (w : World) (hlA : CRow w A a) (hlB : CRow w B b) (hc : CnsOk a) (ho : CnsOk b) (hI : Ints w (some ad) ins) (hl : ins.length = a.length + b.length) (hic : ins.length ≤ ic) :
    Calls Try.prog 76 #[.agg #[.bool false, .int .i64 0, .int .i64 0, .int .i64 0, .int .i64 0, .slice (some ad) ins.length ic], .slice A a.length ca, .slice B b.length cb] w fun en w' => en = .returned (.bool (leftB a b (ins.take a.length) && leftB b a (ins.drop a.length))) ∧ Ext w w' := by
  have h1 := fun (x : Nat) (X : Addr) (hX : X = ad) w' (he : Ext w w') => left4_any A ca a B cb b (some X) x (ins.take a.length) w' (hlA.ext he) (hlB.ext he) (by rw [hX]; exact (ints_take hI _).ext he) hc ho (by rw [List.length_take]; omega)
  have h2 := fun (x : Nat) w' (he : Ext w w') => left4_any B cb b A ca a (some (ad.add a.length)) x (ins.drop a.length) w' (hlB.ext he) (hlA.ext he) ((ints_drop hI _).ext he) ho hc (by rw [List.length_drop]; omega)
  rw [show (ins.take a.length).length = a.length by rw [List.length_take]; omega] at h1
  rw [show (ins.drop a.length).length = b.length by rw [List.length_drop]; omega] at h2
  have hn3 := hc.len
  have hm3 := ho.len
  rw [hl] at hic ⊢
  have H1 := Lib.hid h1
  have H2 := Lib.hid h2
  clear h1 h2 hI hl hlA hlB hc ho
  generalize leftB a b (ins.take a.length) = L1 at *
  generalize leftB b a (ins.drop a.length) = L2 at *
  generalize a.length = n at *
  generalize b.length = m at *
  have d5 : (((n + m : Nat) : Int) != (n : Int) + (m : Int)) = false := by simp
  have c1 : (n : Int) ≤ (ic : Int) := by omega
  have c2 : (n : Int) ≤ ((n + m : Nat) : Int) := by omega
  have c3 : ¬ ic = n := by omega
  have kb : Blk (w.alloc (.cells #[.bool false, .int .i64 0, .int .i64 0, .int .i64 0, .int .i64 0, .slice (some ad) (n + m) ic] 67)) w.heap.size [.bool false, .int .i64 0, .int .i64 0, .int .i64 0, .int .i64 0, .slice (some ad) (n + m) ic] := Blk.new _ _
  have hx0 : Ext w (w.alloc (.cells #[.bool false, .int .i64 0, .int .i64 0, .int .i64 0, .int .i64 0, .slice (some ad) (n + m) ic] 67)) := (Ext.refl _).alloc _
  have b5 := kb.at_ 5 rfl
  have Hx0 := Lib.hid hx0
  clear kb hx0
  cases L1
  all_goals
    go_enter Try.func76, Try.ntmps76
    go_wp2_with (first
      | (go_at_call 100; ((with_reducible refine (H1.out _ _ rfl _ Hx0.out).mono ?_); rintro e w5 ⟨rfl, hx5⟩))
      | (go_at_call 100; ((with_reducible refine (H2.out _ _ (Hx0.out.trans hx5)).mono ?_); rintro e w6 ⟨rfl, hx6⟩)))
    go_ret
    first
      | exact ⟨ret_b (by simp), (Hx0.out.trans hx5).trans hx6⟩
      | exact ⟨ret_b (by simp), Hx0.out.trans hx5⟩
end Go.Proofs.Yteilglljigjefaa
