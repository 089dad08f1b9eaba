/- Corners: by both. -/
import Derived.Test.YteilglljigjefaaR13
import Derived.Test.YteilglljigjefaaR09
import Derived.Maps.AppendAt
import Derived.Deep.Upon
import Derived.Laws.StructEq
namespace Go.Proofs.Yteilglljigjefaa
open Go.RowKit
def inP (ps : List (List Sp)) (x : Int) : Prop := 0 ≤ x ∧ x < ps.length
instance (ps : List (List Sp)) (x : Int) : Decidable (inP ps x) := by unfold inP; infer_instance
def cornL (ps : List (List Sp)) (hs : List Hg) (x : Int) : List Sp := if linkP ps hs ∧ inP ps x then crnS (posF hs x.toNat) (pnA ps x.toNat) else []
def cornD (ps : List (List Sp)) (hs : List Hg) (x : Int) : Int := if linkP ps hs ∧ inP ps x then (posF hs x.toNat).d else 0
def cornE (ps : List (List Sp)) (hs : List Hg) (x : Int) : Int := if linkP ps hs then (if inP ps x then 0 else 2) else 50
theorem corn_bad {ps : List (List Sp)} {hs : List Hg} {x : Int} (h : ¬ linkP ps hs) : cornL ps hs x = [] ∧ cornD ps hs x = 0 ∧ cornE ps hs x = 50 := by simp [cornL, cornD, cornE, h]
theorem corn_out {ps : List (List Sp)} {hs : List Hg} {x : Int} (h : linkP ps hs) (h2 : ¬ inP ps x) : cornL ps hs x = [] ∧ cornD ps hs x = 0 ∧ cornE ps hs x = 2 := by simp [cornL, cornD, cornE, h, h2]
theorem corn_good {ps : List (List Sp)} {hs : List Hg} {i : Nat} (h : linkP ps hs) (h2 : i < ps.length) : cornL ps hs i = crnS (posF hs i) (pnA ps i) ∧ cornD ps hs i = (posF hs i).d ∧ cornE ps hs i = 0 := by
  have h3 : inP ps i := ⟨by omega, by omega⟩
  simp [cornL, cornD, cornE, h, h3]
set_option maxRecDepth 100000 in
set_option maxHeartbeats 4000000 in
theorem corners_ref (A : Option Addr) (c : Nat) (ps : List (List Sp)) (B : Option Addr) (d : Nat) (hs : List Hg) (x : Int) (w : World) (hL : Lk w A ps B hs) :
    Calls Try.prog 33 #[.agg #[.slice A ps.length c, .slice B hs.length d], .int .i64 x] w fun e w' => ∃ v, e = .returned (.tuple #[v, .int .i64 (cornD ps hs x), .int .i64 (cornE ps hs x)]) ∧ OwnS w w' v (cornL ps hs x) := by
  have hck := fun w' (he : Ext w w') => (hL.ext he).valid c d
  rcases linkB_eq (ps := ps) (hs := hs) with ⟨h1, h2, h3⟩ | ⟨h1, h2, h3⟩
  · rw [h2] at hck
    have hwi := fun (n lo hi : Int) (w' : World) => within_any n lo hi w'
    by_cases h4 : inP ps x
    · obtain ⟨i, rfl⟩ := Int.eq_ofNat_of_zero_le h4.1
      have hi : i < ps.length := by have := h4.2; omega
      obtain ⟨e1, e2, e3⟩ := corn_good h1 hi
      rw [e1, e2, e3]
      have hcd := fun w' (he : Ext w w') => cornered_any A c ps B d hs i w' (hL.ext he) h1 hi
      have hw0 := h1.1
      have hwt : withinB (i : Int) 0 ((ps.length : Int) - 1) = true := withinB_true.2 (by omega)
      have hwi := hwi i 0 ((ps.length : Int) - 1)
      rw [hwt] at hwi
      have Hck := Lib.hid hck
      have Hcd := Lib.hid hcd
      have Hwi := Lib.hid hwi
      clear hck hcd hwi hL h1 h2 h3 h4 e1 e2 e3 hwt
      generalize crnS (posF hs i) (pnA ps i) = L at *
      generalize (posF hs i).d = D at *
      generalize ps.length = np at *
      generalize hs.length = nh at *
      have kb : Blk (w.alloc (.cells #[.slice A np c, .slice B nh d] 25)) w.heap.size [.slice A np c, .slice B nh d] := Blk.new _ _
      have b0 := kb.at_ 0 rfl
      have b1 := kb.at_ 1 rfl
      have hx0 : Ext w (w.alloc (.cells #[.slice A np c, .slice B nh d] 25)) := (Ext.refl _).alloc _
      have Hx0 := Lib.hid hx0
      clear kb hx0
      go_enter Try.func33, Try.ntmps33
      go_wp2_with (first
        | (go_at_call 65; refine (Hck.out _ Hx0.out).mono ?_; rintro e w1 ⟨rfl, hx1⟩; have hxx := Hx0.out.trans hx1)
        | (go_at_call 58; refine (Hwi.out _).mono ?_; rintro e w2 ⟨rfl, rfl⟩)
        | (go_at_call 67; refine (Hcd.out _ hxx).mono ?_; rintro e w2 ⟨v, rfl, hown⟩))
      go_ret3
      exact ⟨_, rfl, hown.since hxx⟩
    · obtain ⟨e1, e2, e3⟩ := corn_out h1 h4
      rw [e1, e2, e3]
      have hw0 := h1.1
      have hwt : withinB x 0 ((ps.length : Int) - 1) = false := withinB_false.2 (fun h => h4 ⟨by omega, by omega⟩)
      have hwi := hwi x 0 ((ps.length : Int) - 1)
      rw [hwt] at hwi
      have Hck := Lib.hid hck
      have Hwi := Lib.hid hwi
      clear hck hwi hL h1 h2 h3 h4 e1 e2 e3 hwt
      generalize ps.length = np at *
      generalize hs.length = nh at *
      have kb : Blk (w.alloc (.cells #[.slice A np c, .slice B nh d] 25)) w.heap.size [.slice A np c, .slice B nh d] := Blk.new _ _
      have b0 := kb.at_ 0 rfl
      have b1 := kb.at_ 1 rfl
      have hx0 : Ext w (w.alloc (.cells #[.slice A np c, .slice B nh d] 25)) := (Ext.refl _).alloc _
      have Hx0 := Lib.hid hx0
      clear kb hx0
      go_enter Try.func33, Try.ntmps33
      go_wp2_with (first
        | (go_at_call 65; refine (Hck.out _ Hx0.out).mono ?_; rintro e w1 ⟨rfl, hx1⟩; have hxx := Hx0.out.trans hx1)
        | (go_at_call 58; refine (Hwi.out _).mono ?_; rintro e w2 ⟨rfl, rfl⟩))
      go_ret3
      exact ⟨_, rfl, Own.nil' hxx _ _⟩
  · obtain ⟨e1, e2, e3⟩ := corn_bad (x := x) h1
    rw [e1, e2, e3]
    rw [h2] at hck
    have Hck := Lib.hid hck
    clear hck hL h1 h2 h3 e1 e2 e3
    generalize ps.length = np at *
    generalize hs.length = nh at *
    have kb : Blk (w.alloc (.cells #[.slice A np c, .slice B nh d] 25)) w.heap.size [.slice A np c, .slice B nh d] := Blk.new _ _
    have b0 := kb.at_ 0 rfl
    have b1 := kb.at_ 1 rfl
    have hx0 : Ext w (w.alloc (.cells #[.slice A np c, .slice B nh d] 25)) := (Ext.refl _).alloc _
    have Hx0 := Lib.hid hx0
    clear kb hx0
    go_enter Try.func33, Try.ntmps33
    go_wp2_with (go_at_call 65; refine (Hck.out _ Hx0.out).mono ?_; rintro e w1 ⟨rfl, hx1⟩; have hxx := Hx0.out.trans hx1)
    go_ret3
    exact ⟨_, rfl, Own.nil' hxx _ _⟩
set_option maxRecDepth 100000 in
set_option maxHeartbeats 4000000 in
theorem corners_err (A : Option Addr) (c : Nat) (ps : List (List Sp)) (B : Option Addr) (d : Nat) (hs : List Hg) (x : Int) (w : World) (hL : Lk w A ps B hs) (hbad : ¬ (linkP ps hs ∧ inP ps x)) :
    Calls Try.prog 32 #[.agg #[.slice A ps.length c, .slice B hs.length d], .int .i64 x] w fun e w' => ∃ v, e = .returned (.tuple #[v, .int .i64 (cornD ps hs x), .int .i64 (cornE ps hs x)]) ∧ OwnS w w' v (cornL ps hs x) := by
  have hck := fun w' (he : Ext w w') => (hL.ext he).check c d
  rcases linkB_eq (ps := ps) (hs := hs) with ⟨h1, h2, h3⟩ | ⟨h1, h2, h3⟩
  · rw [h3] at hck
    have h4 : ¬ inP ps x := fun h => hbad ⟨h1, h⟩
    obtain ⟨e1, e2, e3⟩ := corn_out h1 h4
    rw [e1, e2, e3]
    have Hck := Lib.hid hck
    have h5 : x < 0 ∨ (¬ x < 0 ∧ ps.length ≤ x) := by
      by_cases h : x < 0
      · exact .inl h
      · exact .inr ⟨h, by have : ¬ (x < ps.length) := fun h' => h4 ⟨by omega, h'⟩; omega⟩
    clear hck hL h1 h2 h3 h4 e1 e2 e3 hbad
    generalize ps.length = np at *
    generalize hs.length = nh at *
    have kb : Blk (w.alloc (.cells #[.slice A np c, .slice B nh d] 25)) w.heap.size [.slice A np c, .slice B nh d] := Blk.new _ _
    have b0 := kb.at_ 0 rfl
    have b1 := kb.at_ 1 rfl
    have hx0 : Ext w (w.alloc (.cells #[.slice A np c, .slice B nh d] 25)) := (Ext.refl _).alloc _
    have Hx0 := Lib.hid hx0
    clear kb hx0
    rcases h5 with h5 | ⟨h5, h6⟩
    · have d5 : decide (x < 0) = true := by simpa using h5
      go_enter Try.func32, Try.ntmps32
      go_wp2_with (go_at_call 30; refine (Hck.out _ Hx0.out).mono ?_; rintro e w1 ⟨rfl, hx1⟩; have hxx := Hx0.out.trans hx1)
      go_ret3
      exact ⟨_, rfl, Own.nil' hxx _ _⟩
    · have d5 : decide (x < 0) = false := by simpa using h5
      have d6 : decide ((np : Int) ≤ x) = true := by simpa using h6
      go_enter Try.func32, Try.ntmps32
      go_wp2_with (go_at_call 30; refine (Hck.out _ Hx0.out).mono ?_; rintro e w1 ⟨rfl, hx1⟩; have hxx := Hx0.out.trans hx1)
      go_ret3
      exact ⟨_, rfl, Own.nil' hxx _ _⟩
  · obtain ⟨e1, e2, e3⟩ := corn_bad (x := x) h1
    rw [e1, e2, e3]
    rw [h3] at hck
    have Hck := Lib.hid hck
    clear hck hL h1 h2 h3 e1 e2 e3 hbad
    generalize ps.length = np at *
    generalize hs.length = nh at *
    have kb : Blk (w.alloc (.cells #[.slice A np c, .slice B nh d] 25)) w.heap.size [.slice A np c, .slice B nh d] := Blk.new _ _
    have b0 := kb.at_ 0 rfl
    have b1 := kb.at_ 1 rfl
    have hx0 : Ext w (w.alloc (.cells #[.slice A np c, .slice B nh d] 25)) := (Ext.refl _).alloc _
    have Hx0 := Lib.hid hx0
    clear kb hx0
    go_enter Try.func32, Try.ntmps32
    go_wp2_with (go_at_call 30; refine (Hck.out _ Hx0.out).mono ?_; rintro e w1 ⟨rfl, hx1⟩; have hxx := Hx0.out.trans hx1)
    go_ret3
    exact ⟨_, rfl, Own.nil' hxx _ _⟩
set_option maxRecDepth 100000 in
set_option maxHeartbeats 8000000 in
theorem corners_in (A : Option Addr) (c : Nat) (ps : List (List Sp)) (B : Option Addr) (d : Nat) (hs : List Hg) (i : Nat) (w : World) (hL : Lk w A ps B hs) (hl : linkP ps hs) (hi : i < ps.length) :
    Calls Try.prog 32 #[.agg #[.slice A ps.length c, .slice B hs.length d], .int .i64 i] w fun e w' => ∃ v, e = .returned (.tuple #[v, .int .i64 (posF hs i).d, .int .i64 0]) ∧ OwnS w w' v (crnS (posF hs i) (pnA ps i)) := by
  have hck := fun w' (he : Ext w w') => (hL.ext he).check c d
  rw [← checkE_good hl] at hck
  have hpl := fun w' (he : Ext w w') => poses_any A ps.length c B d hs w' (hL.hB.ext he) hl.nh hl.hinges
  have hok := link_pose hl hi
  have hps := hl.2.1
  have hpn := (linkP_iff.1 hl).2.2.1 i hi
  obtain ⟨ad, B', c', rfl, r0, hrow⟩ := hL.hA.at_ hi
  have hcs := fun w' (he : Ext w w') => corners_any (posF hs i) B' c' (pnA ps i) w' (hrow.ext he) (by have := hpn.1.2; omega) (psOk hok) hpn.2.1
  have htk := fun k (hk : k < (pnA ps i).length) => crnS_take (p := posF hs i) hk
  have hcc := fun k (hk : k < (pnA ps i).length) => crn_crnS (p := posF hs i) hk
  have hln := crnS_len (posF hs i) (pnA ps i)
  have hcl := crn_len (posF hs i) (pnA ps i)
  have hpA := posesL_psA (hs := hs) (k := i) (by omega)
  have hpl2 := posesL_len hs
  have hn8 := hpn.1.2
  have Hck := Lib.hid hck
  have Hpl := Lib.hid hpl
  have Hcs := Lib.hid hcs
  have Htk := Lib.hid htk
  have Hcc := Lib.hid hcc
  have HpA := Lib.hid hpA
  have Hpl2 := Lib.hid hpl2
  have Hcl := Lib.hid hcl
  clear hck hpl hok hcs htk hcc hpA hpl2 hL hl hpn hrow hcl
  generalize posesL hs = PL at *
  generalize crnS (posF hs i) (pnA ps i) = L at *
  generalize crn (posF hs i) (pnA ps i) = C at *
  generalize posF hs i = p at *
  generalize ptA (pnA ps i) = P at *
  generalize (pnA ps i).length = m at *
  generalize ps.length = np at *
  generalize hs.length = nh at *
  have kb : Blk (w.alloc (.cells #[.slice (some ad) np c, .slice B nh d] 25)) w.heap.size [.slice (some ad) np c, .slice B nh d] := Blk.new _ _
  have b0 := kb.at_ 0 rfl
  have b1 := kb.at_ 1 rfl
  have hx0 : Ext w (w.alloc (.cells #[.slice (some ad) np c, .slice B nh d] 25)) := (Ext.refl _).alloc _
  have Hx0 := Lib.hid hx0
  clear kb hx0
  have B0 := Lib.hid b0
  have hi2 : (i : Int) < ((nh + 1 : Nat) : Int) := by omega
  have d5 : decide ((i : Int) < 0) = false := by simp
  have d6 : decide ((np : Int) ≤ (i : Int)) = false := by simp; omega
  go_enter Try.func32, Try.ntmps32
  go_wp2_with (first
    | (go_at_call 30; refine (Hck.out _ Hx0.out).mono ?_; rintro e w0 ⟨rfl, hx1⟩; have hxx := Hx0.out.trans hx1)
    | (go_at_call 64; refine (Hpl.out _ hxx).mono ?_; rintro e w1 ⟨v, rfl, hown0⟩; unfold OwnP at hown0; rw [Hpl2.out] at hown0; obtain ⟨g, cg, rfl, _, _⟩ := hown0.at_ (by omega); have hrow1 : PRow w1 (some ⟨g, 0, none⟩) PL := Own.row hown0; have hxy := hxx.trans hown0.ext; obtain ⟨_, ee, p0, p1, p2, p3, p4⟩ := hrow1.at_ (k := i) (by rw [Hpl2.out]; omega); cases ee; simp only [HpA.out, add_zero'] at p0 p1 p2 p3 p4))
  have k2 : Blk (w1.alloc (.cells #[vint p.p, vint p.q, vint p.x, vint p.y, vint p.d] 82)) w1.heap.size [vint p.p, vint p.q, vint p.x, vint p.y, vint p.d] := Blk.new _ _
  have hx2 : Ext w (w1.alloc (.cells #[vint p.p, vint p.q, vint p.x, vint p.y, vint p.d] 82)) := hxy.alloc _
  have hx3 : Ext (w.alloc (.cells #[.slice (some ad) np c, .slice B nh d] 25)) (w1.alloc (.cells #[vint p.p, vint p.q, vint p.x, vint p.y, vint p.d] 82)) := (hx1.trans hown0.ext).alloc _
  generalize (w1.alloc (.cells #[vint p.p, vint p.q, vint p.x, vint p.y, vint p.d] 82)) = w2 at k2 hx2 hx3 ⊢
  have c0 : ∀ w', Ext w2 w' → _ := fun w' he => B0.out w' (hx3.trans he)
  have r1 : ∀ w', Ext w2 w' → _ := fun w' he => r0 w' (hx2.trans he)
  have q0 := k2.at_ 0 rfl
  have q1 := k2.at_ 1 rfl
  have q2 := k2.at_ 2 rfl
  have q3 := k2.at_ 3 rfl
  have q4 := k2.at_ 4 rfl
  have Hx2 := Lib.hid hx2
  have hcs := fun w' (he : Ext w2 w') => Hcs.out w' (hx2.trans he)
  have Hcs' := Lib.hid hcs
  clear p0 p1 p2 p3 p4 b0 b1 hrow1 hown0 hx1 hx3 k2 r0 B0 Hx0 Hpl HpA hx2 Hpl2 hxx hxy hcs Hcs Hck
  generalize w1.heap.size = g2 at *
  have hip : (i : Int) < (np : Int) := by omega
  refine wp_region_calm 9 (fun j _ v w' => j = 6 → ∃ A c, v = .slice A m c ∧ CRow w' A C) (fun _ _ _ _ _ he h hj => let ⟨A, c, e, hr⟩ := h hj; ⟨A, c, e, hr.ext he⟩) (by kernel_rfl) (by kernel_rfl) ?_
  simp only [List.take_succ_cons, List.take_zero, List.drop_succ_cons, List.drop_zero]
  refine calm_quiet calm_mono_final 6 (by kernel_rfl) ?_
  simp only [List.take_succ_cons, List.take_zero, List.drop_succ_cons, List.drop_zero]
  repeat (go_big_quiet_step (fail))
  refine wpQuiet_nil ?_
  refine calm_call calm_mono_final 61 #[p.val, .slice B' m c'] rfl (fun w => ?_) (fun w he hF => ?_) ?_
  · go_simp
  · exact (Hcs'.out w he).mono fun e w'' ⟨v, e', ho⟩ => by
      obtain ⟨A, c, rfl⟩ := ho.form
      exact ⟨_, e', ho.ext, fun _ => ⟨A, c, by rw [Hcl.out], Own.row ho⟩⟩
  intro v _ _ h
  obtain ⟨A5, c5, rfl, _⟩ := h rfl
  clear h
  simp only [Act.put, List.setIfInBounds_toArray, List.set_cons_succ, List.set_cons_zero]
  refine calm_quiet calm_mono_final 2 (by kernel_rfl) ?_
  simp only [List.take_succ_cons, List.take_zero, List.drop_succ_cons, List.drop_zero]
  repeat (go_big_quiet_step (fail))
  refine wpQuiet_nil ?_
  refine calm_nil fun w3 he3 hF => ?_
  obtain ⟨A6, c6, ee, hrow3⟩ := (hF 6).2 rfl rfl
  clear hF
  injection ee with ee _ _
  subst ee
  have Hat := Lib.hid (fun k (hk : k < m) => hrow3.at_ (k := k) (by rw [Hcl.out]; exact hk))
  have s4 : ∀ w', Ext w3 w' → _ := fun w' he => q4 w' (he3.trans he)
  have S4 := Lib.hid s4
  have Hx3 := Lib.hid (Hx2.out.trans he3)
  clear hrow3 s4 q0 q1 q2 q3 q4 c0 r1 he3 Hx2 Hcs'
  go_wp2
  go_loopw [39, 9] (fun i v wr => ∃ k : Nat, k ≤ m ∧ i = .int .i64 k ∧ Own w3 wr 27 2 v k ((L.take k).map Sp.cells).flatten) (fun i _ _ => m - (intOf i).toNat)
  case atStart => exact ⟨0, by omega, rfl, Own.nil _ _ _⟩
  case round =>
    obtain ⟨k, hk, rfl, hown⟩ := hrel
    obtain ⟨A4, c4, rfl⟩ := hown.form
    have hex := hown.ext
    by_cases hlt : k < m
    · obtain ⟨ad', rfl, s0, s1, s2⟩ := Hat.out k hlt
      have htk := Htk.out k hlt
      have hcc := Hcc.out k hlt
      rw [hcc] at s0 s1 s2
      generalize plc p (P k) = z at *
      have t0 : ∀ w', Ext wr w' → w'.cell? _ = some (.int .i64 z.x) := fun w' he => s0 w' (hex.trans he)
      have t1 : ∀ w', Ext wr w' → w'.cell? _ = some (.int .i64 z.y) := fun w' he => s1 w' (hex.trans he)
      have t2 : ∀ w', Ext wr w' → w'.cell? _ = some (.int .i64 p.d) := fun w' he => s2 w' (hex.trans he)
      have Htk' := Lib.hid htk
      clear s0 s1 s2 htk hcc Hat Htk Hcc S4
      have hkm : (k : Int) < (m : Int) := by omega
      have hov := hown.alloc (.cells #[vint z.x, vint z.y, vint p.d] 114)
      have Hfl := Lib.hid (show ((L.take (k + 1)).map Sp.cells).flatten = ((L.take k).map Sp.cells).flatten ++ z.cells by rw [Htk'.out]; simp)
      go_wp2_with (at_builtin; refine own_append (w1 := w3) spot_elem rfl _ _ 39 rfl Try.underlying39 _ k _ rfl hov #[vint z.x, vint z.y] 1 (by show Value.slice (some ⟨wr.heap.size + 1, 0, none⟩) 1 1 = _; simp) rfl (by intro u hu; simp at hu; rcases hu with rfl | rfl <;> rfl) (by omega) (by unfold maxLen; omega) ?_; intro v' w' ho _)
      go_roundw
      case rel => exact ⟨k + 1, by omega, by go_num, by rw [Hfl.out]; exact ho⟩
      case measure => simp [intOf]; omega
    · obtain rfl : m = k := by omega
      have u4 : ∀ w', Ext wr w' → _ := fun w' he => S4.out w' (hex.trans he)
      have Hown := Lib.hid hown
      clear hown Hat Hcc Htk
      go_wp2
      refine wp_region_calm 6 (fun _ _ _ _ => True) (fun _ _ _ _ _ _ h => h) (by kernel_rfl) (by kernel_rfl) ?_
      simp only [List.take_succ_cons, List.take_zero, List.drop_succ_cons, List.drop_zero]
      refine calm_quiet calm_mono_final 6 (by kernel_rfl) ?_
      simp only [List.take_succ_cons, List.take_zero, List.drop_succ_cons, List.drop_zero]
      repeat (go_big_quiet_step (fail))
      refine wpQuiet_nil ?_
      refine calm_nil fun w5 he5 _ => ?_
      go_wp2
      go_ret3
      refine ⟨.slice A4 m c4, rfl, ?_⟩
      have ho := Hown.out.later he5
      rw [List.take_of_length_le (by omega)] at ho
      show Own w w5 _ 2 _ L.length _
      rw [hln]
      exact ho.since Hx3.out
theorem corners_all (A : Option Addr) (c : Nat) (ps : List (List Sp)) (B : Option Addr) (d : Nat) (hs : List Hg) (x : Int) (w : World) (hL : Lk w A ps B hs) :
    Calls Try.prog 32 #[.agg #[.slice A ps.length c, .slice B hs.length d], .int .i64 x] w fun e w' => ∃ v, e = .returned (.tuple #[v, .int .i64 (cornD ps hs x), .int .i64 (cornE ps hs x)]) ∧ OwnS w w' v (cornL ps hs x) := by
  by_cases h : linkP ps hs ∧ inP ps x
  · obtain ⟨h1, h4⟩ := h
    obtain ⟨i, rfl⟩ := Int.eq_ofNat_of_zero_le h4.1
    have hi : i < ps.length := by have := h4.2; omega
    obtain ⟨e1, e2, e3⟩ := corn_good h1 hi
    rw [e1, e2, e3]
    exact corners_in A c ps B d hs i w hL h1 hi
  · exact corners_err A c ps B d hs x w hL h
end Go.Proofs.Yteilglljigjefaa

/- Gaps: by both. -/
namespace Go.Proofs.Yteilglljigjefaa
open Go.RowKit
def askE (ps : List (List Sp)) (hs : List Hg) (a b : Sp) : Int := if linkP ps hs then (if spotB a ∧ spotB b then 0 else 2) else 50
theorem ask_bad {ps : List (List Sp)} {hs : List Hg} {a b : Sp} (h : ¬ linkP ps hs) : askE ps hs a b = 50 := if_neg h
theorem ask_far {ps : List (List Sp)} {hs : List Hg} {a b : Sp} (h : linkP ps hs) (h2 : ¬ (spotB a ∧ spotB b)) : askE ps hs a b = 2 := by rw [askE, if_pos h, if_neg h2]
theorem ask_good {ps : List (List Sp)} {hs : List Hg} {a b : Sp} (h : linkP ps hs) (h2 : spotB a ∧ spotB b) : askE ps hs a b = 0 := by rw [askE, if_pos h, if_pos h2]
theorem small_two (a b : Sp) (w : World) (g : Nat) (hb : Blk w g [vint a.x, vint a.y, vint b.x, vint b.y]) : Calls Try.prog 60 #[.slice (some ⟨g, 0, none⟩) 2 2] w fun e w' => e = .returned (.bool (smallB [a, b])) ∧ Ext w w' :=
  small_any (some ⟨g, 0, none⟩) 2 [a, b] w (fun j hj => by
    refine ⟨_, rfl, ?_⟩
    rw [add_zero']
    rcases (by simp [Sp.cells] at hj; omega : j = 0 ∨ j = 1 ∨ j = 2 ∨ j = 3) with rfl | rfl | rfl | rfl
    · exact hb.c 0 _ rfl
    · exact hb.c 1 _ rfl
    · exact hb.c 2 _ rfl
    · exact hb.c 3 _ rfl) (by simp)
theorem small_pair {a b : Sp} : smallB [a, b] = decide (spotB a ∧ spotB b) := by
  by_cases h : spotB a ∧ spotB b
  · rw [decide_eq_true h, smallB_spec]
    simp [h.1, h.2]
  · rw [decide_eq_false h]
    cases e : smallB [a, b]
    · rfl
    · rw [smallB_spec] at e
      exact absurd ⟨e a (by simp), e b (by simp)⟩ h
set_option maxRecDepth 100000 in
set_option maxHeartbeats 4000000 in
theorem asked_any (A : Option Addr) (c : Nat) (ps : List (List Sp)) (B : Option Addr) (d : Nat) (hs : List Hg) (a b : Sp) (w : World) (hL : Lk w A ps B hs) :
    Calls Try.prog 51 #[.agg #[.slice A ps.length c, .slice B hs.length d], a.val, b.val] w fun e w' => e = .returned (.int .i64 (askE ps hs a b)) ∧ Ext w w' := by
  have hck := fun w' (he : Ext w w') => (hL.ext he).check c d
  have hsm := fun w' g h => small_two a b w' g h
  rcases linkB_eq (ps := ps) (hs := hs) with ⟨h1, h2, h3⟩ | ⟨h1, h2, h3⟩
  · rw [h3] at hck
    by_cases h4 : spotB a ∧ spotB b
    all_goals
      simp only [small_pair, h4, decide_false] at hsm
      first | rw [ask_good h1 h4] | rw [ask_far h1 h4]
      have Hck := Lib.hid hck
      have Hsm := Lib.hid hsm
      clear hck hsm hL h1 h2 h3 h4
      generalize ps.length = np at *
      generalize hs.length = nh at *
      obtain ⟨ax, ay⟩ := a
      obtain ⟨bx, bY⟩ := b
      have kl : Blk (((w.alloc (.cells #[.slice A np c, .slice B nh d] 25)).alloc (.cells #[vint ax, vint ay] 27)).alloc (.cells #[vint bx, vint bY] 27)) w.heap.size [.slice A np c, .slice B nh d] := (Blk.new _ _).ext (((Ext.refl _).alloc _).alloc _)
      have ka : Blk (((w.alloc (.cells #[.slice A np c, .slice B nh d] 25)).alloc (.cells #[vint ax, vint ay] 27)).alloc (.cells #[vint bx, vint bY] 27)) (w.heap.size + 1) [vint ax, vint ay] := (Blk.new' (cs := #[vint ax, vint ay]) (by simp)).ext ((Ext.refl _).alloc _)
      have kb : Blk (((w.alloc (.cells #[.slice A np c, .slice B nh d] 25)).alloc (.cells #[vint ax, vint ay] 27)).alloc (.cells #[vint bx, vint bY] 27)) (w.heap.size + 1 + 1) [vint bx, vint bY] := Blk.new' (cs := #[vint bx, vint bY]) (by simp)
      have l0 := kl.at_ 0 rfl
      have l1 := kl.at_ 1 rfl
      have a0 := ka.at_ 0 rfl
      have a1 := ka.at_ 1 rfl
      have b0 := kb.at_ 0 rfl
      have b1 := kb.at_ 1 rfl
      have hx0 : Ext w (((w.alloc (.cells #[.slice A np c, .slice B nh d] 25)).alloc (.cells #[vint ax, vint ay] 27)).alloc (.cells #[vint bx, vint bY] 27)) := (((Ext.refl _).alloc _).alloc _).alloc _
      have Hx0 := Lib.hid hx0
      clear kl ka kb hx0
      go_enter Try.func51, Try.ntmps51
      go_wp2_with (first
        | (go_at_call 30; refine (Hck.out _ Hx0.out).mono ?_; rintro e w1 ⟨rfl, hx1⟩; have hxx := Hx0.out.trans hx1)
        | (go_at_call 60; refine (Hsm.out _ _ (Blk.new' (cs := #[vint ax, vint ay, vint bx, vint bY]) (by simp))).mono ?_; rintro e w2 ⟨rfl, hx2⟩))
      go_ret
      exact ⟨rfl, (hxx.alloc _).trans hx2⟩
  · rw [h3] at hck
    rw [ask_bad h1]
    have Hck := Lib.hid hck
    clear hck hL h1 h2 h3 hsm
    generalize ps.length = np at *
    generalize hs.length = nh at *
    obtain ⟨ax, ay⟩ := a
    obtain ⟨bx, bY⟩ := b
    have kl : Blk (((w.alloc (.cells #[.slice A np c, .slice B nh d] 25)).alloc (.cells #[vint ax, vint ay] 27)).alloc (.cells #[vint bx, vint bY] 27)) w.heap.size [.slice A np c, .slice B nh d] := (Blk.new _ _).ext (((Ext.refl _).alloc _).alloc _)
    have ka : Blk (((w.alloc (.cells #[.slice A np c, .slice B nh d] 25)).alloc (.cells #[vint ax, vint ay] 27)).alloc (.cells #[vint bx, vint bY] 27)) (w.heap.size + 1) [vint ax, vint ay] := (Blk.new' (cs := #[vint ax, vint ay]) (by simp)).ext ((Ext.refl _).alloc _)
    have kb : Blk (((w.alloc (.cells #[.slice A np c, .slice B nh d] 25)).alloc (.cells #[vint ax, vint ay] 27)).alloc (.cells #[vint bx, vint bY] 27)) (w.heap.size + 1 + 1) [vint bx, vint bY] := Blk.new' (cs := #[vint bx, vint bY]) (by simp)
    have l0 := kl.at_ 0 rfl
    have l1 := kl.at_ 1 rfl
    have a0 := ka.at_ 0 rfl
    have a1 := ka.at_ 1 rfl
    have b0 := kb.at_ 0 rfl
    have b1 := kb.at_ 1 rfl
    have hx0 : Ext w (((w.alloc (.cells #[.slice A np c, .slice B nh d] 25)).alloc (.cells #[vint ax, vint ay] 27)).alloc (.cells #[vint bx, vint bY] 27)) := (((Ext.refl _).alloc _).alloc _).alloc _
    have Hx0 := Lib.hid hx0
    clear kl ka kb hx0
    go_enter Try.func51, Try.ntmps51
    go_wp2_with (go_at_call 30; refine (Hck.out _ Hx0.out).mono ?_; rintro e w1 ⟨rfl, hx1⟩; have hxx := Hx0.out.trans hx1)
    go_ret
    exact ⟨rfl, hxx⟩
set_option maxRecDepth 100000 in
set_option maxHeartbeats 4000000 in
theorem asked_ref (A : Option Addr) (c : Nat) (ps : List (List Sp)) (B : Option Addr) (d : Nat) (hs : List Hg) (a b : Sp) (w : World) (hL : Lk w A ps B hs) :
    Calls Try.prog 56 #[.agg #[.slice A ps.length c, .slice B hs.length d], a.val, b.val] w fun e w' => e = .returned (.int .i64 (askE ps hs a b)) ∧ Ext w w' := by
  have hck := fun w' (he : Ext w w') => (hL.ext he).valid c d
  have hsa := fun w' => spot_any a w'
  have hsb := fun w' => spot_any b w'
  rcases linkB_eq (ps := ps) (hs := hs) with ⟨h1, h2, h3⟩ | ⟨h1, h2, h3⟩
  · rw [h2] at hck
    by_cases h4 : spotB a
    · have e4 : spotD a = true := decide_eq_true h4
      rw [e4] at hsa
      by_cases h5 : spotB b
      all_goals
        simp only [spotD, h5, decide_true, decide_false] at hsb
        first | rw [ask_good h1 ⟨h4, h5⟩] | rw [ask_far h1 fun h => h5 h.2]
        have Hck := Lib.hid hck
        have Hsa := Lib.hid hsa
        have Hsb := Lib.hid hsb
        clear hck hsa hsb hL h1 h2 h3 h4 h5 e4
        generalize ps.length = np at *
        generalize hs.length = nh at *
        obtain ⟨ax, ay⟩ := a
        obtain ⟨bx, bY⟩ := b
        have kl : Blk (((w.alloc (.cells #[.slice A np c, .slice B nh d] 25)).alloc (.cells #[vint ax, vint ay] 27)).alloc (.cells #[vint bx, vint bY] 27)) w.heap.size [.slice A np c, .slice B nh d] := (Blk.new _ _).ext (((Ext.refl _).alloc _).alloc _)
        have ka : Blk (((w.alloc (.cells #[.slice A np c, .slice B nh d] 25)).alloc (.cells #[vint ax, vint ay] 27)).alloc (.cells #[vint bx, vint bY] 27)) (w.heap.size + 1) [vint ax, vint ay] := (Blk.new' (cs := #[vint ax, vint ay]) (by simp)).ext ((Ext.refl _).alloc _)
        have kb : Blk (((w.alloc (.cells #[.slice A np c, .slice B nh d] 25)).alloc (.cells #[vint ax, vint ay] 27)).alloc (.cells #[vint bx, vint bY] 27)) (w.heap.size + 1 + 1) [vint bx, vint bY] := Blk.new' (cs := #[vint bx, vint bY]) (by simp)
        have l0 := kl.at_ 0 rfl
        have l1 := kl.at_ 1 rfl
        have a0 := ka.at_ 0 rfl
        have a1 := ka.at_ 1 rfl
        have b0 := kb.at_ 0 rfl
        have b1 := kb.at_ 1 rfl
        have hx0 : Ext w (((w.alloc (.cells #[.slice A np c, .slice B nh d] 25)).alloc (.cells #[vint ax, vint ay] 27)).alloc (.cells #[vint bx, vint bY] 27)) := (((Ext.refl _).alloc _).alloc _).alloc _
        have Hx0 := Lib.hid hx0
        clear kl ka kb hx0
        go_enter Try.func56, Try.ntmps56
        go_wp2_with (first
          | (go_at_call 65; refine (Hck.out _ Hx0.out).mono ?_; rintro e w1 ⟨rfl, hx1⟩; have hxx := Hx0.out.trans hx1; have b0' : ∀ w', Ext w1 w' → _ := fun w' he => b0 w' (hx1.trans he); have b1' : ∀ w', Ext w1 w' → _ := fun w' he => b1 w' (hx1.trans he))
          | (go_at_call 83; ((with_reducible refine (Hsa.out _).mono ?_); rintro e w2 ⟨rfl, hx2⟩))
          | (go_at_call 83; ((with_reducible refine (Hsb.out _).mono ?_); rintro e w3 ⟨rfl, hx3⟩)))
        go_ret
        exact ⟨rfl, (hxx.trans hx2).trans hx3⟩
    · have e4 : spotD a = false := decide_eq_false h4
      rw [e4] at hsa
      rw [ask_far h1 fun h => h4 h.1]
      have Hck := Lib.hid hck
      have Hsa := Lib.hid hsa
      clear hck hsa hsb hL h1 h2 h3 h4 e4
      generalize ps.length = np at *
      generalize hs.length = nh at *
      obtain ⟨ax, ay⟩ := a
      obtain ⟨bx, bY⟩ := b
      have kl : Blk (((w.alloc (.cells #[.slice A np c, .slice B nh d] 25)).alloc (.cells #[vint ax, vint ay] 27)).alloc (.cells #[vint bx, vint bY] 27)) w.heap.size [.slice A np c, .slice B nh d] := (Blk.new _ _).ext (((Ext.refl _).alloc _).alloc _)
      have ka : Blk (((w.alloc (.cells #[.slice A np c, .slice B nh d] 25)).alloc (.cells #[vint ax, vint ay] 27)).alloc (.cells #[vint bx, vint bY] 27)) (w.heap.size + 1) [vint ax, vint ay] := (Blk.new' (cs := #[vint ax, vint ay]) (by simp)).ext ((Ext.refl _).alloc _)
      have kb : Blk (((w.alloc (.cells #[.slice A np c, .slice B nh d] 25)).alloc (.cells #[vint ax, vint ay] 27)).alloc (.cells #[vint bx, vint bY] 27)) (w.heap.size + 1 + 1) [vint bx, vint bY] := Blk.new' (cs := #[vint bx, vint bY]) (by simp)
      have l0 := kl.at_ 0 rfl
      have l1 := kl.at_ 1 rfl
      have a0 := ka.at_ 0 rfl
      have a1 := ka.at_ 1 rfl
      have b0 := kb.at_ 0 rfl
      have b1 := kb.at_ 1 rfl
      have hx0 : Ext w (((w.alloc (.cells #[.slice A np c, .slice B nh d] 25)).alloc (.cells #[vint ax, vint ay] 27)).alloc (.cells #[vint bx, vint bY] 27)) := (((Ext.refl _).alloc _).alloc _).alloc _
      have Hx0 := Lib.hid hx0
      clear kl ka kb hx0
      go_enter Try.func56, Try.ntmps56
      go_wp2_with (first
        | (go_at_call 65; refine (Hck.out _ Hx0.out).mono ?_; rintro e w1 ⟨rfl, hx1⟩; have hxx := Hx0.out.trans hx1)
        | (go_at_call 83; ((with_reducible refine (Hsa.out _).mono ?_); rintro e w2 ⟨rfl, hx2⟩)))
      go_ret
      exact ⟨rfl, hxx.trans hx2⟩
  · rw [h2] at hck
    rw [ask_bad h1]
    have Hck := Lib.hid hck
    clear hck hL h1 h2 h3 hsa hsb
    generalize ps.length = np at *
    generalize hs.length = nh at *
    obtain ⟨ax, ay⟩ := a
    obtain ⟨bx, bY⟩ := b
    have kl : Blk (((w.alloc (.cells #[.slice A np c, .slice B nh d] 25)).alloc (.cells #[vint ax, vint ay] 27)).alloc (.cells #[vint bx, vint bY] 27)) w.heap.size [.slice A np c, .slice B nh d] := (Blk.new _ _).ext (((Ext.refl _).alloc _).alloc _)
    have ka : Blk (((w.alloc (.cells #[.slice A np c, .slice B nh d] 25)).alloc (.cells #[vint ax, vint ay] 27)).alloc (.cells #[vint bx, vint bY] 27)) (w.heap.size + 1) [vint ax, vint ay] := (Blk.new' (cs := #[vint ax, vint ay]) (by simp)).ext ((Ext.refl _).alloc _)
    have kb : Blk (((w.alloc (.cells #[.slice A np c, .slice B nh d] 25)).alloc (.cells #[vint ax, vint ay] 27)).alloc (.cells #[vint bx, vint bY] 27)) (w.heap.size + 1 + 1) [vint bx, vint bY] := Blk.new' (cs := #[vint bx, vint bY]) (by simp)
    have l0 := kl.at_ 0 rfl
    have l1 := kl.at_ 1 rfl
    have a0 := ka.at_ 0 rfl
    have a1 := ka.at_ 1 rfl
    have b0 := kb.at_ 0 rfl
    have b1 := kb.at_ 1 rfl
    have hx0 : Ext w (((w.alloc (.cells #[.slice A np c, .slice B nh d] 25)).alloc (.cells #[vint ax, vint ay] 27)).alloc (.cells #[vint bx, vint bY] 27)) := (((Ext.refl _).alloc _).alloc _).alloc _
    have Hx0 := Lib.hid hx0
    clear kl ka kb hx0
    go_enter Try.func56, Try.ntmps56
    go_wp2_with (go_at_call 65; refine (Hck.out _ Hx0.out).mono ?_; rintro e w1 ⟨rfl, hx1⟩; have hxx := Hx0.out.trans hx1)
    go_ret
    exact ⟨rfl, hxx⟩
/-- The last pose. -/
def lastP (hs : List Hg) : Ps := posF hs hs.length
theorem lastP_ok {ps : List (List Sp)} {hs : List Hg} (h : linkP ps hs) : PoseOk (lastP hs) 3 := link_pose h (k := hs.length) (by have := h.2.1; omega)
theorem lastP_at (hs : List Hg) : psA (posesL hs) hs.length = lastP hs := posesL_psA (Nat.le_refl _)
theorem gap_small {p : Ps} {a : Sp} (hp : PsOk p) (ha : spotB a) : (-11000000 ≤ (plc p a).x ∧ (plc p a).x ≤ 11000000) ∧ (-11000000 ≤ (plc p a).y ∧ (plc p a).y ≤ 11000000) := by
  have e1 := prod_le hp.bp.1 hp.bp.2 ha.1.1 ha.1.2
  have e2 := prod_le hp.bq.1 hp.bq.2 ha.2.1 ha.2.2
  have e3 := prod_le hp.bq.1 hp.bq.2 ha.1.1 ha.1.2
  have e4 := prod_le hp.bp.1 hp.bp.2 ha.2.1 ha.2.2
  have := hp.bx
  have := hp.bz
  unfold plc
  simp only
  omega
set_option maxRecDepth 100000 in
set_option maxHeartbeats 4000000 in
theorem off_any (A : Option Addr) (c : Nat) (ps : List (List Sp)) (B : Option Addr) (d : Nat) (hs : List Hg) (a b : Sp) (w : World) (hL : Lk w A ps B hs) (hl : linkP ps hs) (ha : spotB a) (hb : spotB b) :
    Calls Try.prog 68 #[.agg #[.slice A ps.length c, .slice B hs.length d], a.val, b.val] w fun e w' => e = .returned (.tuple #[.int .i64 (gapS (lastP hs) a b).x, .int .i64 (gapS (lastP hs) a b).y, .int .i64 (lastP hs).d]) ∧ Ext w w' := by
  have hpl := fun w' (he : Ext w w') => placed_any A ps.length c B d hs w' (hL.hB.ext he) hl.nh hl.hinges
  have hok := psOk (lastP_ok hl)
  have hat := fun w' => at_any (lastP hs) a w' hok ha
  have hsm := gap_small hok ha
  have hgp : gapS (lastP hs) a b = ⟨(plc (lastP hs) a).x - b.x * (lastP hs).d, (plc (lastP hs) a).y - b.y * (lastP hs).d⟩ := rfl
  have hpA := lastP_at hs
  have hpl2 := posesL_len hs
  have hd := hok.bd
  have hn3 := hl.nh
  rw [hgp]
  simp only
  have e1 := prod_le hb.1.1 hb.1.2 (s := (lastP hs).d) (m := 15625) (by omega) (by omega)
  have e2 := prod_le hb.2.1 hb.2.2 (s := (lastP hs).d) (m := 15625) (by omega) (by omega)
  simp only [Int.reduceMul] at e1 e2
  have Hpl := Lib.hid hpl
  have Hat := Lib.hid hat
  have HpA := Lib.hid hpA
  have Hpl2 := Lib.hid hpl2
  clear hpl hat hpA hpl2 hL hl hok hgp hd ha hb
  generalize posesL hs = PL at *
  generalize hz : plc (lastP hs) a = z at *
  clear hz
  generalize lastP hs = p at *
  generalize ps.length = np at *
  generalize hs.length = nh at *
  obtain ⟨zx, zy⟩ := z
  obtain ⟨ax, ay⟩ := a
  obtain ⟨bx, bY⟩ := b
  have kl : Blk (((w.alloc (.cells #[.slice A np c, .slice B nh d] 25)).alloc (.cells #[vint ax, vint ay] 27)).alloc (.cells #[vint bx, vint bY] 27)) w.heap.size [.slice A np c, .slice B nh d] := (Blk.new _ _).ext (((Ext.refl _).alloc _).alloc _)
  have ka : Blk (((w.alloc (.cells #[.slice A np c, .slice B nh d] 25)).alloc (.cells #[vint ax, vint ay] 27)).alloc (.cells #[vint bx, vint bY] 27)) (w.heap.size + 1) [vint ax, vint ay] := (Blk.new' (cs := #[vint ax, vint ay]) (by simp)).ext ((Ext.refl _).alloc _)
  have kb : Blk (((w.alloc (.cells #[.slice A np c, .slice B nh d] 25)).alloc (.cells #[vint ax, vint ay] 27)).alloc (.cells #[vint bx, vint bY] 27)) (w.heap.size + 1 + 1) [vint bx, vint bY] := Blk.new' (cs := #[vint bx, vint bY]) (by simp)
  have l0 := kl.at_ 0 rfl
  have l1 := kl.at_ 1 rfl
  have a0 := ka.at_ 0 rfl
  have a1 := ka.at_ 1 rfl
  have b0 := kb.at_ 0 rfl
  have b1 := kb.at_ 1 rfl
  have hx0 : Ext w (((w.alloc (.cells #[.slice A np c, .slice B nh d] 25)).alloc (.cells #[vint ax, vint ay] 27)).alloc (.cells #[vint bx, vint bY] 27)) := (((Ext.refl _).alloc _).alloc _).alloc _
  have Hx0 := Lib.hid hx0
  clear kl ka kb hx0
  simp only at hsm e1 e2 ⊢
  go_enter Try.func68, Try.ntmps68
  go_wp2_with (first
    | (go_at_call 66; refine (Hpl.out _ Hx0.out).mono ?_; rintro e w2 ⟨v, rfl, hown0⟩; unfold OwnP at hown0; rw [Hpl2.out] at hown0; obtain ⟨g, cg, rfl, _, _⟩ := hown0.at_ (by omega); have hrow1 : PRow w2 (some ⟨g, 0, none⟩) PL := Own.row hown0; obtain ⟨_, ee, p0, p1, p2, p3, p4⟩ := hrow1.at_ (k := nh) (by rw [Hpl2.out]; omega); cases ee; simp only [HpA.out, add_zero'] at p0 p1 p2 p3 p4; have hxy := Hx0.out.trans hown0.ext; clear hrow1; have a0' : ∀ w', Ext w2 w' → _ := fun w' he => a0 w' (hown0.ext.trans he); have a1' : ∀ w', Ext w2 w' → _ := fun w' he => a1 w' (hown0.ext.trans he); have b0' : ∀ w', Ext w2 w' → _ := fun w' he => b0 w' (hown0.ext.trans he); have b1' : ∀ w', Ext w2 w' → _ := fun w' he => b1 w' (hown0.ext.trans he); clear hown0 a0 a1 b0 b1 l0 l1)
    | (go_at_call 47; refine (Hat.out _).mono ?_; rintro e w4 ⟨rfl, hx4⟩; have hq := ((Blk.new (W := w2) #[vint p.p, vint p.q, vint p.x, vint p.y, vint p.d] 82).ext hx4).at_ 4 rfl))
  have k5 := (Blk.new (W := w4) #[vint zx, vint zy] 27)
  have hx5 : Ext w4 (w4.alloc (.cells #[vint zx, vint zy] 27)) := (Ext.refl _).alloc _
  generalize (w4.alloc (.cells #[vint zx, vint zy] 27)) = w5 at *
  have z0 := k5.at_ 0 rfl
  have z1 := k5.at_ 1 rfl
  have y0 : ∀ w', Ext w5 w' → _ := fun w' he => b0' w' ((((Ext.refl _).alloc _).trans hx4).trans (hx5.trans he))
  have y1 : ∀ w', Ext w5 w' → _ := fun w' he => b1' w' ((((Ext.refl _).alloc _).trans hx4).trans (hx5.trans he))
  have y4 : ∀ w', Ext w5 w' → _ := fun w' he => hq w' (hx5.trans he)
  have hx6 := ((hxy.alloc (.cells #[vint p.p, vint p.q, vint p.x, vint p.y, vint p.d] 82)).trans hx4).trans hx5
  clear hq a0' a1' b0' b1' p0 p1 p2 p3 p4 hx4 hx5 k5
  refine wp_region_calm 21 (fun _ _ _ _ => True) (fun _ _ _ _ _ _ h => h) (by kernel_rfl) (by kernel_rfl) ?_
  simp only [List.take_succ_cons, List.take_zero, List.drop_succ_cons, List.drop_zero]
  refine calm_quiet calm_mono_final 21 (by kernel_rfl) ?_
  simp only [List.take_succ_cons, List.take_zero, List.drop_succ_cons, List.drop_zero]
  repeat (go_big_quiet_step (fail))
  refine wpQuiet_nil ?_
  refine calm_nil fun w7 he7 _ => ?_
  go_wp2
  go_ret3
  exact ⟨rfl, hx6.trans he7⟩
def gapE (ps : List (List Sp)) (hs : List Hg) (a b : Sp) : Value :=
  if askE ps hs a b = 0 then .tuple #[.int .i64 (gapS (lastP hs) a b).x, .int .i64 (gapS (lastP hs) a b).y, .int .i64 (lastP hs).d, .int .i64 0] else .tuple #[.int .i64 0, .int .i64 0, .int .i64 0, .int .i64 (askE ps hs a b)]
theorem ask_cases (ps : List (List Sp)) (hs : List Hg) (a b : Sp) : (linkP ps hs ∧ spotB a ∧ spotB b ∧ askE ps hs a b = 0) ∨ ((askE ps hs a b = 2 ∨ askE ps hs a b = 50) ∧ ¬ (linkP ps hs ∧ spotB a ∧ spotB b)) := by
  by_cases h1 : linkP ps hs
  · by_cases h2 : spotB a ∧ spotB b
    · exact .inl ⟨h1, h2.1, h2.2, ask_good h1 h2⟩
    · exact .inr ⟨.inl (ask_far h1 h2), fun h => h2 h.2⟩
  · exact .inr ⟨.inr (ask_bad h1), fun h => h1 h.1⟩
set_option maxRecDepth 100000 in
set_option maxHeartbeats 4000000 in
theorem gap_ref (A : Option Addr) (c : Nat) (ps : List (List Sp)) (B : Option Addr) (d : Nat) (hs : List Hg) (a b : Sp) (w : World) (hL : Lk w A ps B hs) :
    Calls Try.prog 36 #[.agg #[.slice A ps.length c, .slice B hs.length d], a.val, b.val] w fun e w' => e = .returned (gapE ps hs a b) ∧ Ext w w' := by
  have hak := fun w' (he : Ext w w') => asked_ref A c ps B d hs a b w' (hL.ext he)
  rcases ask_cases ps hs a b with ⟨h1, h2, h3, h4⟩ | ⟨h4, _⟩
  · have hof := fun w' (he : Ext w w') => off_any A c ps B d hs a b w' (hL.ext he) h1 h2 h3
    rw [gapE, if_pos h4]
    rw [h4] at hak
    have Hak := Lib.hid hak
    have Hof := Lib.hid hof
    clear hak hof hL h1 h2 h3 h4
    generalize (gapS (lastP hs) a b).x = X at *
    generalize (gapS (lastP hs) a b).y = Y at *
    generalize (lastP hs).d = D at *
    generalize ps.length = np at *
    generalize hs.length = nh at *
    obtain ⟨ax, ay⟩ := a
    obtain ⟨bx, bY⟩ := b
    have kl : Blk (((w.alloc (.cells #[.slice A np c, .slice B nh d] 25)).alloc (.cells #[vint ax, vint ay] 27)).alloc (.cells #[vint bx, vint bY] 27)) w.heap.size [.slice A np c, .slice B nh d] := (Blk.new _ _).ext (((Ext.refl _).alloc _).alloc _)
    have ka : Blk (((w.alloc (.cells #[.slice A np c, .slice B nh d] 25)).alloc (.cells #[vint ax, vint ay] 27)).alloc (.cells #[vint bx, vint bY] 27)) (w.heap.size + 1) [vint ax, vint ay] := (Blk.new' (cs := #[vint ax, vint ay]) (by simp)).ext ((Ext.refl _).alloc _)
    have kb : Blk (((w.alloc (.cells #[.slice A np c, .slice B nh d] 25)).alloc (.cells #[vint ax, vint ay] 27)).alloc (.cells #[vint bx, vint bY] 27)) (w.heap.size + 1 + 1) [vint bx, vint bY] := Blk.new' (cs := #[vint bx, vint bY]) (by simp)
    have l0 := kl.at_ 0 rfl
    have l1 := kl.at_ 1 rfl
    have a0 := ka.at_ 0 rfl
    have a1 := ka.at_ 1 rfl
    have b0 := kb.at_ 0 rfl
    have b1 := kb.at_ 1 rfl
    have hx0 : Ext w (((w.alloc (.cells #[.slice A np c, .slice B nh d] 25)).alloc (.cells #[vint ax, vint ay] 27)).alloc (.cells #[vint bx, vint bY] 27)) := (((Ext.refl _).alloc _).alloc _).alloc _
    have Hx0 := Lib.hid hx0
    clear kl ka kb hx0
    go_enter Try.func36, Try.ntmps36
    go_wp2_with (first
      | (go_at_call 56; refine (Hak.out _ Hx0.out).mono ?_; rintro e w1 ⟨rfl, hx1⟩; have hxx := Hx0.out.trans hx1)
      | (go_at_call 68; refine (Hof.out _ hxx).mono ?_; rintro e w2 ⟨rfl, hx2⟩))
    (try simp only [Exit.inBlock, Exit.then])
    refine bodyPost_ret (results_four rfl _ _) rfl ?_
    exact ⟨rfl, hxx.trans hx2⟩
  · rw [gapE, if_neg (by omega)]
    have hne : (askE ps hs a b != 0) = true := by simp; omega
    have Hak := Lib.hid hak
    clear hak hL h4
    generalize askE ps hs a b = E at *
    generalize ps.length = np at *
    generalize hs.length = nh at *
    obtain ⟨ax, ay⟩ := a
    obtain ⟨bx, bY⟩ := b
    have kl : Blk (((w.alloc (.cells #[.slice A np c, .slice B nh d] 25)).alloc (.cells #[vint ax, vint ay] 27)).alloc (.cells #[vint bx, vint bY] 27)) w.heap.size [.slice A np c, .slice B nh d] := (Blk.new _ _).ext (((Ext.refl _).alloc _).alloc _)
    have ka : Blk (((w.alloc (.cells #[.slice A np c, .slice B nh d] 25)).alloc (.cells #[vint ax, vint ay] 27)).alloc (.cells #[vint bx, vint bY] 27)) (w.heap.size + 1) [vint ax, vint ay] := (Blk.new' (cs := #[vint ax, vint ay]) (by simp)).ext ((Ext.refl _).alloc _)
    have kb : Blk (((w.alloc (.cells #[.slice A np c, .slice B nh d] 25)).alloc (.cells #[vint ax, vint ay] 27)).alloc (.cells #[vint bx, vint bY] 27)) (w.heap.size + 1 + 1) [vint bx, vint bY] := Blk.new' (cs := #[vint bx, vint bY]) (by simp)
    have l0 := kl.at_ 0 rfl
    have l1 := kl.at_ 1 rfl
    have a0 := ka.at_ 0 rfl
    have a1 := ka.at_ 1 rfl
    have b0 := kb.at_ 0 rfl
    have b1 := kb.at_ 1 rfl
    have hx0 : Ext w (((w.alloc (.cells #[.slice A np c, .slice B nh d] 25)).alloc (.cells #[vint ax, vint ay] 27)).alloc (.cells #[vint bx, vint bY] 27)) := (((Ext.refl _).alloc _).alloc _).alloc _
    have Hx0 := Lib.hid hx0
    clear kl ka kb hx0
    go_enter Try.func36, Try.ntmps36
    go_wp2_with (go_at_call 56; refine (Hak.out _ Hx0.out).mono ?_; rintro e w1 ⟨rfl, hx1⟩; have hxx := Hx0.out.trans hx1)
    (try simp only [Exit.inBlock, Exit.then])
    refine bodyPost_ret (results_four rfl _ _) rfl ?_
    exact ⟨rfl, hxx⟩
set_option maxRecDepth 100000 in
set_option maxHeartbeats 4000000 in
theorem gap_all (A : Option Addr) (c : Nat) (ps : List (List Sp)) (B : Option Addr) (d : Nat) (hs : List Hg) (a b : Sp) (w : World) (hL : Lk w A ps B hs) :
    Calls Try.prog 35 #[.agg #[.slice A ps.length c, .slice B hs.length d], a.val, b.val] w fun e w' => e = .returned (gapE ps hs a b) ∧ Ext w w' := by
  have hak := fun w' (he : Ext w w') => asked_any A c ps B d hs a b w' (hL.ext he)
  rcases ask_cases ps hs a b with ⟨h1, h2, h3, h4⟩ | ⟨h4, _⟩
  · have hpl := fun w' (he : Ext w w') => poses_any A ps.length c B d hs w' (hL.hB.ext he) h1.nh h1.hinges
    have hok := psOk (lastP_ok h1)
    have hgp := fun w' => gap_any (lastP hs) a b w' hok h2 h3
    have hpA := lastP_at hs
    have hpl2 := posesL_len hs
    have hn3 := h1.nh
    rw [gapE, if_pos h4]
    rw [h4] at hak
    have Hak := Lib.hid hak
    have Hpl := Lib.hid hpl
    have Hgp := Lib.hid hgp
    have HpA := Lib.hid hpA
    have Hpl2 := Lib.hid hpl2
    clear hak hpl hgp hpA hpl2 hL h1 h2 h3 h4 hok
    generalize posesL hs = PL at *
    generalize gapS (lastP hs) a b = z at *
    generalize lastP hs = p at *
    generalize ps.length = np at *
    generalize hs.length = nh at *
    obtain ⟨zx, zy⟩ := z
    obtain ⟨ax, ay⟩ := a
    obtain ⟨bx, bY⟩ := b
    have kl : Blk (((w.alloc (.cells #[.slice A np c, .slice B nh d] 25)).alloc (.cells #[vint ax, vint ay] 27)).alloc (.cells #[vint bx, vint bY] 27)) w.heap.size [.slice A np c, .slice B nh d] := (Blk.new _ _).ext (((Ext.refl _).alloc _).alloc _)
    have ka : Blk (((w.alloc (.cells #[.slice A np c, .slice B nh d] 25)).alloc (.cells #[vint ax, vint ay] 27)).alloc (.cells #[vint bx, vint bY] 27)) (w.heap.size + 1) [vint ax, vint ay] := (Blk.new' (cs := #[vint ax, vint ay]) (by simp)).ext ((Ext.refl _).alloc _)
    have kb : Blk (((w.alloc (.cells #[.slice A np c, .slice B nh d] 25)).alloc (.cells #[vint ax, vint ay] 27)).alloc (.cells #[vint bx, vint bY] 27)) (w.heap.size + 1 + 1) [vint bx, vint bY] := Blk.new' (cs := #[vint bx, vint bY]) (by simp)
    have l0 := kl.at_ 0 rfl
    have l1 := kl.at_ 1 rfl
    have a0 := ka.at_ 0 rfl
    have a1 := ka.at_ 1 rfl
    have b0 := kb.at_ 0 rfl
    have b1 := kb.at_ 1 rfl
    have hx0 : Ext w (((w.alloc (.cells #[.slice A np c, .slice B nh d] 25)).alloc (.cells #[vint ax, vint ay] 27)).alloc (.cells #[vint bx, vint bY] 27)) := (((Ext.refl _).alloc _).alloc _).alloc _
    have Hx0 := Lib.hid hx0
    clear kl ka kb hx0
    simp only at ⊢
    go_enter Try.func35, Try.ntmps35
    go_wp2_with (first
      | (go_at_call 51; refine (Hak.out _ Hx0.out).mono ?_; rintro e w1 ⟨rfl, hx1⟩; have hxx := Hx0.out.trans hx1)
      | (go_at_call 64; refine (Hpl.out _ hxx).mono ?_; rintro e w2 ⟨v, rfl, hown0⟩; unfold OwnP at hown0; rw [Hpl2.out] at hown0; obtain ⟨g, cg, rfl, _, _⟩ := hown0.at_ (by omega); have hrow1 : PRow w2 (some ⟨g, 0, none⟩) PL := Own.row hown0; obtain ⟨_, ee, p0, p1, p2, p3, p4⟩ := hrow1.at_ (k := nh) (by rw [Hpl2.out]; omega); cases ee; simp only [HpA.out, add_zero'] at p0 p1 p2 p3 p4; have hxy := hxx.trans hown0.ext; clear hrow1; have hx2 := hx1.trans hown0.ext; have a0' : ∀ w', Ext w2 w' → _ := fun w' he => a0 w' (hx2.trans he); have a1' : ∀ w', Ext w2 w' → _ := fun w' he => a1 w' (hx2.trans he); have b0' : ∀ w', Ext w2 w' → _ := fun w' he => b0 w' (hx2.trans he); have b1' : ∀ w', Ext w2 w' → _ := fun w' he => b1 w' (hx2.trans he); clear hown0 a0 a1 b0 b1 l0 l1)
      | (go_at_call 54; refine (Hgp.out _).mono ?_; rintro e w4 ⟨rfl, hx4⟩; have hq := ((Blk.new (W := w2) #[vint p.p, vint p.q, vint p.x, vint p.y, vint p.d] 82).ext hx4).at_ 4 rfl))
    have k5 := (Blk.new (W := w4) #[vint zx, vint zy] 27)
    have hx5 : Ext w4 (w4.alloc (.cells #[vint zx, vint zy] 27)) := (Ext.refl _).alloc _
    generalize (w4.alloc (.cells #[vint zx, vint zy] 27)) = w5 at *
    have z0 := k5.at_ 0 rfl
    have z1 := k5.at_ 1 rfl
    have y4 : ∀ w', Ext w5 w' → _ := fun w' he => hq w' (hx5.trans he)
    have hx6 := ((hxy.alloc (.cells #[vint p.p, vint p.q, vint p.x, vint p.y, vint p.d] 82)).trans hx4).trans hx5
    clear hq a0' a1' b0' b1' p0 p1 p2 p3 p4 hx4 hx5 k5
    refine wp_region_calm 10 (fun _ _ _ _ => True) (fun _ _ _ _ _ _ h => h) (by kernel_rfl) (by kernel_rfl) ?_
    simp only [List.take_succ_cons, List.take_zero, List.drop_succ_cons, List.drop_zero]
    refine calm_quiet calm_mono_final 10 (by kernel_rfl) ?_
    simp only [List.take_succ_cons, List.take_zero, List.drop_succ_cons, List.drop_zero]
    repeat (go_big_quiet_step (fail))
    refine wpQuiet_nil ?_
    refine calm_nil fun w7 he7 _ => ?_
    go_wp2
    (try simp only [Exit.inBlock, Exit.then])
    refine bodyPost_ret (results_four rfl _ _) rfl ?_
    exact ⟨rfl, hx6.trans he7⟩
  · rw [gapE, if_neg (by omega)]
    have hne : (askE ps hs a b != 0) = true := by simp; omega
    have Hak := Lib.hid hak
    clear hak hL h4
    generalize askE ps hs a b = E at *
    generalize ps.length = np at *
    generalize hs.length = nh at *
    obtain ⟨ax, ay⟩ := a
    obtain ⟨bx, bY⟩ := b
    have kl : Blk (((w.alloc (.cells #[.slice A np c, .slice B nh d] 25)).alloc (.cells #[vint ax, vint ay] 27)).alloc (.cells #[vint bx, vint bY] 27)) w.heap.size [.slice A np c, .slice B nh d] := (Blk.new _ _).ext (((Ext.refl _).alloc _).alloc _)
    have ka : Blk (((w.alloc (.cells #[.slice A np c, .slice B nh d] 25)).alloc (.cells #[vint ax, vint ay] 27)).alloc (.cells #[vint bx, vint bY] 27)) (w.heap.size + 1) [vint ax, vint ay] := (Blk.new' (cs := #[vint ax, vint ay]) (by simp)).ext ((Ext.refl _).alloc _)
    have kb : Blk (((w.alloc (.cells #[.slice A np c, .slice B nh d] 25)).alloc (.cells #[vint ax, vint ay] 27)).alloc (.cells #[vint bx, vint bY] 27)) (w.heap.size + 1 + 1) [vint bx, vint bY] := Blk.new' (cs := #[vint bx, vint bY]) (by simp)
    have l0 := kl.at_ 0 rfl
    have l1 := kl.at_ 1 rfl
    have a0 := ka.at_ 0 rfl
    have a1 := ka.at_ 1 rfl
    have b0 := kb.at_ 0 rfl
    have b1 := kb.at_ 1 rfl
    have hx0 : Ext w (((w.alloc (.cells #[.slice A np c, .slice B nh d] 25)).alloc (.cells #[vint ax, vint ay] 27)).alloc (.cells #[vint bx, vint bY] 27)) := (((Ext.refl _).alloc _).alloc _).alloc _
    have Hx0 := Lib.hid hx0
    clear kl ka kb hx0
    go_enter Try.func35, Try.ntmps35
    go_wp2_with (go_at_call 51; refine (Hak.out _ Hx0.out).mono ?_; rintro e w1 ⟨rfl, hx1⟩; have hxx := Hx0.out.trans hx1)
    (try simp only [Exit.inBlock, Exit.then])
    refine bodyPost_ret (results_four rfl _ _) rfl ?_
    exact ⟨rfl, hxx⟩
end Go.Proofs.Yteilglljigjefaa

/- Copies by append; lists that are the same. -/
namespace Go.Proofs.Yteilglljigjefaa
open Go.RowKit
theorem exec_append {a : Act} {o : Oper} {w w' : World} {v v' x : Value} (s q : Operand) (t : TypeId) (ho : o.op = .call { callee := .builtin .append, args := #[s, q], argTypes := #[t, t] }) (hs : a.eval s = v) (hx : a.eval q = x) (hr : (Builtin.append_ #[t, t] o.type #[v, x]).run Try.prog w = .ok v' w') :
    (execOp a.eval o).run Try.prog w = .ok (.value v') w' := by
  unfold execOp
  simp only [ho, resolve, invoke, builtin, Sem.run_bind, Sem.run_pure, Result.andThen_ok, List.map_toArray, List.map_cons, List.map_nil, hs, hx, hr]
section
variable {w : World} {base b c n : Nat} {B : Option Addr} {xs : List Value} {e : TypeId} {z : Value} {size bytes : Nat}
theorem src_row {t : TypeId} (ht : Try.prog.underlying t = some (.slice e)) (hlen : xs.length = n * size) (hsz : 0 < size) (hB : Row w B xs) (hone : ∀ u ∈ xs, u.oneCell' = true) : Src Try.prog size t (.slice B n c) n xs w := by
  cases B with
  | none =>
    have h0 : xs.length = 0 := by
      rcases Nat.eq_zero_or_pos xs.length with h | h
      · exact h
      · obtain ⟨_, e, _⟩ := hB 0 h
        cases e
    have hn : n = 0 := by
      rcases Nat.eq_zero_or_pos n with h | h
      · exact h
      · have := Nat.mul_pos h hsz
        omega
    have hx : xs = [] := List.eq_nil_of_length_eq_zero h0
    subst hn hx
    exact Src.ofNil w ht c
  | some a =>
    refine Src.ofSlice w ht a n c xs hlen (fun j u hu => ?_) hone
    obtain ⟨ad, e, hc⟩ := hB j (List.getElem?_eq_some_iff.1 hu).1
    rw [Option.some.inj e, hc]
    exact hu
/-- 'append([]T{}, xs...)': new memory. -/
theorem app_copy {t : TypeId} (hE : ElemInfo e z size bytes) (ht : Try.prog.underlying t = some (.slice e)) (ty : TypeId) (hb : w.heap[b]? = some (.cells #[] e)) (hbb : base ≤ b) (hlen : xs.length = n * size) (hB : Row w B xs) (hone : ∀ u ∈ xs, u.oneCell' = true) (hn : n ≤ 1000) (hby : bytes ≤ 1000) :
    ∃ v' w', (Builtin.append_ #[t, t] ty #[.slice (some ⟨b, 0, none⟩) 0 0, .slice B n c]).run Try.prog w = .ok v' w' ∧ Ext w w' ∧ w'.ownsRow base e size v' n xs ∧ ∃ g, v'.ownBlock = some g ∧ (g = b ∨ w.heap.size ≤ g) := by
  have hblt : b < w.heap.size := (Array.getElem?_eq_some_iff.1 hb).1
  obtain ⟨i, hi, hz0, hz1, hz2⟩ := hE.info
  have hown0 : w.ownsRow base e size (.slice (some ⟨b, 0, none⟩) 0 0) 0 [] := ⟨by simp, .inr ⟨b, 0, #[], rfl, hbb, hb, by omega, by unfold maxLen; omega, by simp, by simp⟩⟩
  by_cases h0 : n = 0
  · subst h0
    have hx : xs = [] := List.eq_nil_of_length_eq_zero (by simpa using hlen)
    subst hx
    exact ⟨_, w, run_append_nothing w t t ty e i ht hi _ 0 0 (Nat.le_refl _) _ (src_row ht (by simp) (by rw [hz1]; exact hE.pos) hB hone), Ext.refl _, hown0, b, rfl, .inl rfl⟩
  · have hpos : 0 < xs.length := by rw [hlen]; exact Nat.mul_pos (by omega) hE.pos
    obtain ⟨ad, rfl, _⟩ := hB 0 hpos
    have hnews : ∀ j u, xs[j]? = some u → w.cell? (ad.add j) = some u := fun j u hu => by
      obtain ⟨ad', e, hc⟩ := hB j (List.getElem?_eq_some_iff.1 hu).1
      cases Option.some.inj e
      exact hc.trans hu
    have hbn : n * bytes ≤ 1000 * 1000 := Nat.mul_le_mul hn hby
    obtain ⟨v', w', hr, o1, o2, _, o4⟩ := run_append_own_at (P := Try.prog) w base t ty e i z size bytes ht hi hz0 hz1 hz2 hE.zs hE.pos _ 0 [] hown0 ad n c xs hlen hnews hone (by unfold maxLen; omega) (by rw [Nat.zero_add]; omega) (by omega)
    rw [Nat.zero_add, List.nil_append] at o1
    have holds : ∀ j u, ([] : List Value)[j]? = some u → w.cell? ((⟨b, 0, none⟩ : Addr).add j) = some u := fun j u hu => by simp at hu
    have hr2 := run_append_grow (P := Try.prog) w t ty e i _ ht hi hz0 ⟨b, 0, none⟩ 0 0 [] (by simp) holds ad n c xs (by rw [hz1]; exact hlen) hnews (by omega) (by omega) (by rw [hz2]; exact growslice_fits (by omega) (by rw [Nat.zero_add]; omega))
    rw [hr] at hr2
    injection hr2 with e1 e2
    subst e2
    exact ⟨v', _, hr, by simp, o1, _, by rw [e1]; rfl, .inr (Nat.le_refl _)⟩
theorem Own.ne_block {w1 : World} {v : Value} {g : Nat} {cs : Array Value} {t : TypeId} {fr : Nat × Nat} (h : Own w1 w e size v n xs) (hg : w.heap[g]? = some (.cells cs t fr)) (ht : t ≠ e) : v.ownBlock ≠ some g := by
  rcases h.2.2 with ⟨rfl, _⟩ | ⟨g', cap, cur, rfl, _, hh, _⟩
  · simp [Value.ownBlock]
  · intro e2
    have e3 : g' = g := by simpa [Value.ownBlock] using e2
    subst e3
    rw [hh] at hg
    simp only [Option.some.injEq, Obj.cells.injEq] at hg
    exact ht hg.2.1.symm
end
theorem ints_cells_one (xs : List Int) : ∀ u ∈ xs.map vint, u.oneCell' = true := by intro u hu; simp at hu; obtain ⟨x, _, rfl⟩ := hu; rfl
theorem Sp.cells_one (l : List Sp) : ∀ u ∈ (l.map Sp.cells).flatten, u.oneCell' = true := by
  intro u hu
  obtain ⟨r, hr, hur⟩ := List.mem_flatten.1 hu
  obtain ⟨x, _, rfl⟩ := List.mem_map.1 hr
  simp [Sp.cells] at hur
  rcases hur with rfl | rfl <;> rfl
theorem Cn.cells_one (l : List Cn) : ∀ u ∈ (l.map Cn.cells).flatten, u.oneCell' = true := by
  intro u hu
  obtain ⟨r, hr, hur⟩ := List.mem_flatten.1 hu
  obtain ⟨x, _, rfl⟩ := List.mem_map.1 hr
  simp [Cn.cells] at hur
  rcases hur with rfl | rfl | rfl <;> rfl
theorem Hg.cells_one (l : List Hg) : ∀ u ∈ (l.map Hg.cells).flatten, u.oneCell' = true := by
  intro u hu
  obtain ⟨r, hr, hur⟩ := List.mem_flatten.1 hu
  obtain ⟨x, _, rfl⟩ := List.mem_map.1 hr
  simp [Hg.cells] at hur
  rcases hur with rfl | rfl | rfl | rfl | rfl <;> rfl
theorem Ps.cells_one (l : List Ps) : ∀ u ∈ (l.map Ps.cells).flatten, u.oneCell' = true := by
  intro u hu
  obtain ⟨r, hr, hur⟩ := List.mem_flatten.1 hu
  obtain ⟨x, _, rfl⟩ := List.mem_map.1 hr
  simp [Ps.cells] at hur
  rcases hur with rfl | rfl | rfl | rfl | rfl <;> rfl
theorem neq_Sp (a0 a1 : Int) (w : World) : (binOp .neq 27 (.agg #[.int .i64 a0, .int .i64 a1]) (.agg #[.int .i64 a0, .int .i64 a1])).run Try.prog w = .ok (.bool false) w := by
  simp [go_sem]
set_option maxRecDepth 100000 in
set_option maxHeartbeats 2000000 in
theorem same_spots (A B : Option Addr) (c d : Nat) (l : List Sp) (w : World) (hA : SRow w A l) (hB : SRow w B l) (hl : l.length ≤ 1000000) :
    Calls Try.prog 34 #[.slice A l.length c, .slice B l.length d] w fun e w' => e = .returned (.bool true) ∧ Ext w w' := by
  have ha := fun k (hk : k < l.length) => hA.at_ hk
  have hb := fun k (hk : k < l.length) => hB.at_ hk
  have Ha := Lib.hid ha
  have Hb := Lib.hid hb
  clear ha hb hA hB
  generalize l.length = n at *
  go_enter Try.func34, Try.ntmps34
  go_wp2
  go_loopw [5] (fun i wr => ∃ k : Nat, k ≤ n ∧ i = .int .i64 k ∧ Ext w wr) (fun i _ => n - (intOf i).toNat)
  case atStart => exact ⟨0, by omega, rfl, Ext.refl _⟩
  case round =>
    obtain ⟨k, hk, rfl, hex⟩ := hrel
    by_cases hlt : k < n
    · obtain ⟨ad, rfl, x0, x1⟩ := Ha.out k hlt
      obtain ⟨bd, rfl, y0, y1⟩ := Hb.out k hlt
      have u0 : ∀ w', Ext wr w' → _ := fun w' he => x0 w' (hex.trans he)
      have v0 : ∀ w', Ext wr w' → _ := fun w' he => y0 w' (hex.trans he)
      have u1 : ∀ w', Ext wr w' → _ := fun w' he => x1 w' (hex.trans he)
      have v1 : ∀ w', Ext wr w' → _ := fun w' he => y1 w' (hex.trans he)
      clear x0 y0 x1 y1 Ha Hb
      generalize ptA l k = s at *
      obtain ⟨a0, a1⟩ := s
      simp only at u0 v0 u1 v1
      have hne := neq_Sp a0 a1
      have hkn : (k : Int) < (n : Int) := by omega
      go_wp2
      refine wp_region_calm 9 (fun _ _ _ _ => True) (fun _ _ _ _ _ _ h => h) (by kernel_rfl) (by kernel_rfl) ?_
      simp only [List.take_succ_cons, List.take_zero, List.drop_succ_cons, List.drop_zero]
      refine calm_quiet calm_mono_final 9 (by kernel_rfl) ?_
      simp only [List.take_succ_cons, List.take_zero, List.drop_succ_cons, List.drop_zero]
      repeat (go_big_quiet_step (fail))
      refine wpQuiet_nil ?_
      refine calm_nil fun w3 he3 _ => ?_
      go_wp2
      go_roundw
      case rel => exact ⟨k + 1, by omega, by go_num, hex.trans he3⟩
      case measure => simp [intOf]; omega
    · obtain rfl : n = k := by omega
      go_wp2
      go_ret
      exact ⟨rfl, hex⟩
theorem neq_Ps (a0 a1 a2 a3 a4 : Int) (w : World) : (binOp .neq 82 (.agg #[.int .i64 a0, .int .i64 a1, .int .i64 a2, .int .i64 a3, .int .i64 a4]) (.agg #[.int .i64 a0, .int .i64 a1, .int .i64 a2, .int .i64 a3, .int .i64 a4])).run Try.prog w = .ok (.bool false) w := by
  simp [go_sem]
set_option maxRecDepth 100000 in
set_option maxHeartbeats 2000000 in
theorem same_poses (A B : Option Addr) (c d : Nat) (l : List Ps) (w : World) (hA : PRow w A l) (hB : PRow w B l) (hl : l.length ≤ 1000000) :
    Calls Try.prog 29 #[.slice A l.length c, .slice B l.length d] w fun e w' => e = .returned (.bool true) ∧ Ext w w' := by
  have ha := fun k (hk : k < l.length) => hA.at_ hk
  have hb := fun k (hk : k < l.length) => hB.at_ hk
  have Ha := Lib.hid ha
  have Hb := Lib.hid hb
  clear ha hb hA hB
  generalize l.length = n at *
  go_enter Try.func29, Try.ntmps29
  go_wp2
  go_loopw [5] (fun i wr => ∃ k : Nat, k ≤ n ∧ i = .int .i64 k ∧ Ext w wr) (fun i _ => n - (intOf i).toNat)
  case atStart => exact ⟨0, by omega, rfl, Ext.refl _⟩
  case round =>
    obtain ⟨k, hk, rfl, hex⟩ := hrel
    by_cases hlt : k < n
    · obtain ⟨ad, rfl, x0, x1, x2, x3, x4⟩ := Ha.out k hlt
      obtain ⟨bd, rfl, y0, y1, y2, y3, y4⟩ := Hb.out k hlt
      have u0 : ∀ w', Ext wr w' → _ := fun w' he => x0 w' (hex.trans he)
      have v0 : ∀ w', Ext wr w' → _ := fun w' he => y0 w' (hex.trans he)
      have u1 : ∀ w', Ext wr w' → _ := fun w' he => x1 w' (hex.trans he)
      have v1 : ∀ w', Ext wr w' → _ := fun w' he => y1 w' (hex.trans he)
      have u2 : ∀ w', Ext wr w' → _ := fun w' he => x2 w' (hex.trans he)
      have v2 : ∀ w', Ext wr w' → _ := fun w' he => y2 w' (hex.trans he)
      have u3 : ∀ w', Ext wr w' → _ := fun w' he => x3 w' (hex.trans he)
      have v3 : ∀ w', Ext wr w' → _ := fun w' he => y3 w' (hex.trans he)
      have u4 : ∀ w', Ext wr w' → _ := fun w' he => x4 w' (hex.trans he)
      have v4 : ∀ w', Ext wr w' → _ := fun w' he => y4 w' (hex.trans he)
      clear x0 y0 x1 y1 x2 y2 x3 y3 x4 y4 Ha Hb
      generalize psA l k = s at *
      obtain ⟨a0, a1, a2, a3, a4⟩ := s
      simp only at u0 v0 u1 v1 u2 v2 u3 v3 u4 v4
      have hne := neq_Ps a0 a1 a2 a3 a4
      have hkn : (k : Int) < (n : Int) := by omega
      go_wp2
      refine wp_region_calm 9 (fun _ _ _ _ => True) (fun _ _ _ _ _ _ h => h) (by kernel_rfl) (by kernel_rfl) ?_
      simp only [List.take_succ_cons, List.take_zero, List.drop_succ_cons, List.drop_zero]
      refine calm_quiet calm_mono_final 9 (by kernel_rfl) ?_
      simp only [List.take_succ_cons, List.take_zero, List.drop_succ_cons, List.drop_zero]
      repeat (go_big_quiet_step (fail))
      refine wpQuiet_nil ?_
      refine calm_nil fun w3 he3 _ => ?_
      go_wp2
      go_roundw
      case rel => exact ⟨k + 1, by omega, by go_num, hex.trans he3⟩
      case measure => simp [intOf]; omega
    · obtain rfl : n = k := by omega
      go_wp2
      go_ret
      exact ⟨rfl, hex⟩
theorem intsAt {w : World} {A : Option Addr} {l : List Int} (h : Ints w A l) {k : Nat} (hk : k < l.length) : ∃ ad, A = some ad ∧ ∀ w', Ext w w' → w'.cell? (ad.add k) = some (.int .i64 (getI l k)) := by
  obtain ⟨ad, ha, hc⟩ := h k (by simpa using hk)
  refine ⟨ad, ha, fun w' he => he.cell (hc.trans ?_)⟩
  simp [getI, hk]
set_option maxRecDepth 100000 in
set_option maxHeartbeats 2000000 in
theorem same_ints (A B : Option Addr) (c d : Nat) (l : List Int) (w : World) (hA : Ints w A l) (hB : Ints w B l) (hl : l.length ≤ 1000000) :
    Calls Try.prog 21 #[.slice A l.length c, .slice B l.length d] w fun e w' => e = .returned (.bool true) ∧ Ext w w' := by
  have ha := fun k (hk : k < l.length) => intsAt hA hk
  have hb := fun k (hk : k < l.length) => intsAt hB hk
  have Ha := Lib.hid ha
  have Hb := Lib.hid hb
  clear ha hb hA hB
  generalize l.length = n at *
  go_enter Try.func21, Try.ntmps21
  go_wp2
  go_loopw [5] (fun i wr => ∃ k : Nat, k ≤ n ∧ i = .int .i64 k ∧ Ext w wr) (fun i _ => n - (intOf i).toNat)
  case atStart => exact ⟨0, by omega, rfl, Ext.refl _⟩
  case round =>
    obtain ⟨k, hk, rfl, hex⟩ := hrel
    by_cases hlt : k < n
    · obtain ⟨ad, rfl, x0⟩ := Ha.out k hlt
      obtain ⟨bd, rfl, y0⟩ := Hb.out k hlt
      have u0 : ∀ w', Ext wr w' → _ := fun w' he => x0 w' (hex.trans he)
      have v0 : ∀ w', Ext wr w' → _ := fun w' he => y0 w' (hex.trans he)
      clear x0 y0 Ha Hb
      generalize getI l k = a0 at u0 v0
      have hne : (a0 != a0) = false := by simp
      have hkn : (k : Int) < (n : Int) := by omega
      go_wp2
      refine wp_region_calm 9 (fun _ _ _ _ => True) (fun _ _ _ _ _ _ h => h) (by kernel_rfl) (by kernel_rfl) ?_
      simp only [List.take_succ_cons, List.take_zero, List.drop_succ_cons, List.drop_zero]
      refine calm_quiet calm_mono_final 9 (by kernel_rfl) ?_
      simp only [List.take_succ_cons, List.take_zero, List.drop_succ_cons, List.drop_zero]
      repeat (go_big_quiet_step (fail))
      refine wpQuiet_nil ?_
      refine calm_nil fun w3 he3 _ => ?_
      go_wp2
      go_roundw
      case rel => exact ⟨k + 1, by omega, by go_num, hex.trans he3⟩
      case measure => simp [intOf]; omega
    · obtain rfl : n = k := by omega
      go_wp2
      go_ret
      exact ⟨rfl, hex⟩
theorem eq_pair (a b c d : Int) (w : World) : (Op.equalIn 10000 91 (.agg #[.int .i64 a, .int .i64 b]) (.agg #[.int .i64 c, .int .i64 d])).run Try.prog w = .ok (a == c && b == d) w := by
  have u3 := Try.underlying3
  have a3 := Try.isAgg3
  have z3 := Try.sizeOf3
  rw [show (10000 : Nat) = 9999 + 1 from rfl, Op.equalIn]
  simp only [Sem.run_bind, run_underlying Try.underlying91, Result.andThen_ok]
  simp only [Std.Legacy.Range.forIn_eq_forIn_range', Std.Legacy.Range.size, Nat.sub_zero, Nat.add_sub_cancel, Nat.div_one, List.range'_succ, List.range'_zero, List.forIn_cons, List.forIn_nil]
  go_simp
  by_cases h1 : a = c <;> by_cases h2 : b = d <;> simp [h1, h2]
theorem neq_pair (a0 a1 : Int) (w : World) : (binOp .neq 91 (.agg #[.int .i64 a0, .int .i64 a1]) (.agg #[.int .i64 a0, .int .i64 a1])).run Try.prog w = .ok (.bool false) w := by
  rw [run_neq_struct, eq_pair]
  simp [Result.andThen]
set_option maxRecDepth 100000 in
set_option maxHeartbeats 2000000 in
theorem same_pairs (A B : Option Addr) (c d : Nat) (l : List (Int × Int)) (w : World) (hA : QRow w A l) (hB : QRow w B l) (hl : l.length ≤ 1000000) :
    Calls Try.prog 41 #[.slice A l.length c, .slice B l.length d] w fun e w' => e = .returned (.bool true) ∧ Ext w w' := by
  have ha := fun k (hk : k < l.length) => hA.at_ hk
  have hb := fun k (hk : k < l.length) => hB.at_ hk
  have Ha := Lib.hid ha
  have Hb := Lib.hid hb
  clear ha hb hA hB
  generalize l.length = n at *
  go_enter Try.func41, Try.ntmps41
  go_wp2
  go_loopw [5] (fun i wr => ∃ k : Nat, k ≤ n ∧ i = .int .i64 k ∧ Ext w wr) (fun i _ => n - (intOf i).toNat)
  case atStart => exact ⟨0, by omega, rfl, Ext.refl _⟩
  case round =>
    obtain ⟨k, hk, rfl, hex⟩ := hrel
    by_cases hlt : k < n
    · obtain ⟨ad, rfl, x0, x1⟩ := Ha.out k hlt
      obtain ⟨bd, rfl, y0, y1⟩ := Hb.out k hlt
      have u0 : ∀ w', Ext wr w' → _ := fun w' he => x0 w' (hex.trans he)
      have v0 : ∀ w', Ext wr w' → _ := fun w' he => y0 w' (hex.trans he)
      have u1 : ∀ w', Ext wr w' → _ := fun w' he => x1 w' (hex.trans he)
      have v1 : ∀ w', Ext wr w' → _ := fun w' he => y1 w' (hex.trans he)
      clear x0 y0 x1 y1 Ha Hb
      generalize pAt l k = s at *
      obtain ⟨a0, a1⟩ := s
      simp only at u0 v0 u1 v1
      have hne := neq_pair a0 a1
      have hkn : (k : Int) < (n : Int) := by omega
      go_wp2
      refine wp_region_calm 9 (fun _ _ _ _ => True) (fun _ _ _ _ _ _ h => h) (by kernel_rfl) (by kernel_rfl) ?_
      simp only [List.take_succ_cons, List.take_zero, List.drop_succ_cons, List.drop_zero]
      refine calm_quiet calm_mono_final 9 (by kernel_rfl) ?_
      simp only [List.take_succ_cons, List.take_zero, List.drop_succ_cons, List.drop_zero]
      repeat (go_big_quiet_step (fail))
      refine wpQuiet_nil ?_
      refine calm_nil fun w3 he3 _ => ?_
      go_wp2
      go_roundw
      case rel => exact ⟨k + 1, by omega, by go_num, hex.trans he3⟩
      case measure => simp [intOf]; omega
    · obtain rfl : n = k := by omega
      go_wp2
      go_ret
      exact ⟨rfl, hex⟩
end Go.Proofs.Yteilglljigjefaa
