/- Corners: by both. -/
import Derived.Test.YtebkhdhhajjhfaaGreatT23
import Derived.Test.YtebkhdhhajjhfaaGreatT21
import Derived.Maps.AppendAt
import Derived.Deep.Upon
import Derived.Laws.StructEq
import Derived.Lib.AppendZeros
namespace Go.Proofs.YtebkhdhhajjhfaaGreat
open Go.RowKit
def inP (ps : List (List Sp)) (x : Int) : Prop := 0 ≤ x ∧ x < ps.length
instance (ps : List (List Sp)) (x : Int) : Decidable (inP ps x) := by unfold inP; infer_instance
def cornL (ps : List (List Sp)) (hs : List Hg) (x : Int) : List Sp := if linkP ps hs ∧ inP ps x then crnS (posF hs x.toNat) (pnA ps x.toNat) else []
def cornD (ps : List (List Sp)) (hs : List Hg) (x : Int) : Int := if linkP ps hs ∧ inP ps x then (posF hs x.toNat).d else 0
def cornE (ps : List (List Sp)) (hs : List Hg) (x : Int) : Int := if linkP ps hs then (if inP ps x then 0 else 2) else 50
theorem corn_bad {ps : List (List Sp)} {hs : List Hg} {x : Int} (h : ¬ linkP ps hs) : cornL ps hs x = [] ∧ cornD ps hs x = 0 ∧ cornE ps hs x = 50 := by simp [cornL, cornD, cornE, h]
theorem corn_out {ps : List (List Sp)} {hs : List Hg} {x : Int} (h : linkP ps hs) (h2 : ¬ inP ps x) : cornL ps hs x = [] ∧ cornD ps hs x = 0 ∧ cornE ps hs x = 2 := by simp [cornL, cornD, cornE, h, h2]
theorem corn_good {ps : List (List Sp)} {hs : List Hg} {i : Nat} (h : linkP ps hs) (h2 : i < ps.length) : cornL ps hs i = crnS (posF hs i) (pnA ps i) ∧ cornD ps hs i = (posF hs i).d ∧ cornE ps hs i = 0 := by
  have h3 : inP ps i := ⟨by omega, by omega⟩
  simp [cornL, cornD, cornE, h, h3]
set_option maxRecDepth 100000 in
set_option maxHeartbeats 4000000 in
theorem corners_err (A : Option Addr) (c : Nat) (ps : List (List Sp)) (B : Option Addr) (d : Nat) (hs : List Hg) (x : Int) (w : World) (hL : Lk w A ps B hs) (hbad : ¬ (linkP ps hs ∧ inP ps x)) :
    Calls Tryz.prog 45 #[.agg #[.slice A ps.length c, .slice B hs.length d], .int .i64 x] w fun e w' => ∃ v, e = .returned (.tuple #[v, .int .i64 (cornD ps hs x), .int .i64 (cornE ps hs x)]) ∧ OwnS w w' v (cornL ps hs x) := by
  have hck := fun w' (he : Ext w w') => (hL.ext he).check c d
  rcases linkB_eq (ps := ps) (hs := hs) with ⟨h1, h2, h3⟩ | ⟨h1, h2, h3⟩
  · rw [h3] at hck
    have h4 : ¬ inP ps x := fun h => hbad ⟨h1, h⟩
    obtain ⟨e1, e2, e3⟩ := corn_out h1 h4
    rw [e1, e2, e3]
    have Hck := Lib.hid hck
    have h5 : x < 0 ∨ (¬ x < 0 ∧ ps.length ≤ x) := by
      by_cases h : x < 0
      · exact .inl h
      · exact .inr ⟨h, by have : ¬ (x < ps.length) := fun h' => h4 ⟨by omega, h'⟩; omega⟩
    clear hck hL h1 h2 h3 h4 e1 e2 e3 hbad
    generalize ps.length = np at *
    generalize hs.length = nh at *
    have kb : Blk (w.alloc (.cells #[.slice A np c, .slice B nh d] 67)) w.heap.size [.slice A np c, .slice B nh d] := Blk.new _ _
    have b0 := kb.at_ 0 rfl
    have b1 := kb.at_ 1 rfl
    have hx0 : Ext w (w.alloc (.cells #[.slice A np c, .slice B nh d] 67)) := (Ext.refl _).alloc _
    have Hx0 := Lib.hid hx0
    clear kb hx0
    rcases h5 with h5 | ⟨h5, h6⟩
    · have d5 : decide (x < 0) = true := by simpa using h5
      go_enter Tryz.func45, Tryz.ntmps45
      go_wp2_with (go_at_call 60; refine (Hck.out _ Hx0.out).mono ?_; rintro e w1 ⟨rfl, hx1⟩; have hxx := Hx0.out.trans hx1)
      go_ret3
      exact ⟨_, rfl, Own.nil' hxx _ _⟩
    · have d5 : decide (x < 0) = false := by simpa using h5
      have d6 : decide ((np : Int) ≤ x) = true := by simpa using h6
      go_enter Tryz.func45, Tryz.ntmps45
      go_wp2_with (go_at_call 60; refine (Hck.out _ Hx0.out).mono ?_; rintro e w1 ⟨rfl, hx1⟩; have hxx := Hx0.out.trans hx1)
      go_ret3
      exact ⟨_, rfl, Own.nil' hxx _ _⟩
  · obtain ⟨e1, e2, e3⟩ := corn_bad (x := x) h1
    rw [e1, e2, e3]
    rw [h3] at hck
    have Hck := Lib.hid hck
    clear hck hL h1 h2 h3 e1 e2 e3 hbad
    generalize ps.length = np at *
    generalize hs.length = nh at *
    have kb : Blk (w.alloc (.cells #[.slice A np c, .slice B nh d] 67)) w.heap.size [.slice A np c, .slice B nh d] := Blk.new _ _
    have b0 := kb.at_ 0 rfl
    have b1 := kb.at_ 1 rfl
    have hx0 : Ext w (w.alloc (.cells #[.slice A np c, .slice B nh d] 67)) := (Ext.refl _).alloc _
    have Hx0 := Lib.hid hx0
    clear kb hx0
    go_enter Tryz.func45, Tryz.ntmps45
    go_wp2_with (go_at_call 60; refine (Hck.out _ Hx0.out).mono ?_; rintro e w1 ⟨rfl, hx1⟩; have hxx := Hx0.out.trans hx1)
    go_ret3
    exact ⟨_, rfl, Own.nil' hxx _ _⟩
set_option maxRecDepth 100000 in
set_option maxHeartbeats 8000000 in
theorem corners_in (A : Option Addr) (c : Nat) (ps : List (List Sp)) (B : Option Addr) (d : Nat) (hs : List Hg) (i : Nat) (w : World) (hL : Lk w A ps B hs) (hl : linkP ps hs) (hi : i < ps.length) :
    Calls Tryz.prog 45 #[.agg #[.slice A ps.length c, .slice B hs.length d], .int .i64 i] w fun e w' => ∃ v, e = .returned (.tuple #[v, .int .i64 (posF hs i).d, .int .i64 0]) ∧ OwnS w w' v (crnS (posF hs i) (pnA ps i)) := by
  have hck := fun w' (he : Ext w w') => (hL.ext he).check c d
  rw [← checkE_good hl] at hck
  have hpl := fun w' (he : Ext w w') => poses_any A ps.length c B d hs w' (hL.hB.ext he) hl.nh hl.hinges
  have hok := link_pose hl hi
  have hps := hl.2.1
  have hpn := (linkP_iff.1 hl).2.2.1 i hi
  obtain ⟨ad, B', c', rfl, r0, hrow⟩ := hL.hA.at_ hi
  have hcs := fun w' (he : Ext w w') => corners_any (posF hs i) B' c' (pnA ps i) w' (hrow.ext he) (by have := hpn.1.2; omega) (psOk hok) hpn.2.1
  have htk := fun k (hk : k < (pnA ps i).length) => crnS_take (p := posF hs i) hk
  have hcc := fun k (hk : k < (pnA ps i).length) => crn_crnS (p := posF hs i) hk
  have hln := crnS_len (posF hs i) (pnA ps i)
  have hcl := crn_len (posF hs i) (pnA ps i)
  have hpA := posesL_psA (hs := hs) (k := i) (by omega)
  have hpl2 := posesL_len hs
  have hn8 := hpn.1.2
  have Hck := Lib.hid hck
  have Hpl := Lib.hid hpl
  have Hcs := Lib.hid hcs
  have Htk := Lib.hid htk
  have Hcc := Lib.hid hcc
  have HpA := Lib.hid hpA
  have Hpl2 := Lib.hid hpl2
  have Hcl := Lib.hid hcl
  clear hck hpl hok hcs htk hcc hpA hpl2 hL hl hpn hrow hcl
  generalize posesL hs = PL at *
  generalize crnS (posF hs i) (pnA ps i) = L at *
  generalize crn (posF hs i) (pnA ps i) = C at *
  generalize posF hs i = p at *
  generalize ptA (pnA ps i) = P at *
  generalize (pnA ps i).length = m at *
  generalize ps.length = np at *
  generalize hs.length = nh at *
  have kb : Blk (w.alloc (.cells #[.slice (some ad) np c, .slice B nh d] 67)) w.heap.size [.slice (some ad) np c, .slice B nh d] := Blk.new _ _
  have b0 := kb.at_ 0 rfl
  have b1 := kb.at_ 1 rfl
  have hx0 : Ext w (w.alloc (.cells #[.slice (some ad) np c, .slice B nh d] 67)) := (Ext.refl _).alloc _
  have Hx0 := Lib.hid hx0
  clear kb hx0
  have B0 := Lib.hid b0
  have hi2 : (i : Int) < ((nh + 1 : Nat) : Int) := by omega
  have d5 : decide ((i : Int) < 0) = false := by simp
  have d6 : decide ((np : Int) ≤ (i : Int)) = false := by simp; omega
  go_enter Tryz.func45, Tryz.ntmps45
  go_wp2_with (first
    | (go_at_call 60; refine (Hck.out _ Hx0.out).mono ?_; rintro e w0 ⟨rfl, hx1⟩; have hxx := Hx0.out.trans hx1)
    | (go_at_call 61; refine (Hpl.out _ hxx).mono ?_; rintro e w1 ⟨v, rfl, hown0⟩; unfold OwnP at hown0; rw [Hpl2.out] at hown0; obtain ⟨g, cg, rfl, _, _⟩ := hown0.at_ (by omega); have hrow1 : PRow w1 (some ⟨g, 0, none⟩) PL := Own.row hown0; have hxy := hxx.trans hown0.ext; obtain ⟨_, ee, p0, p1, p2, p3, p4⟩ := hrow1.at_ (k := i) (by rw [Hpl2.out]; omega); cases ee; simp only [HpA.out, add_zero'] at p0 p1 p2 p3 p4))
  have k2 : Blk (w1.alloc (.cells #[vint p.p, vint p.q, vint p.x, vint p.y, vint p.d] 78)) w1.heap.size [vint p.p, vint p.q, vint p.x, vint p.y, vint p.d] := Blk.new _ _
  have hx2 : Ext w (w1.alloc (.cells #[vint p.p, vint p.q, vint p.x, vint p.y, vint p.d] 78)) := hxy.alloc _
  have hx3 : Ext (w.alloc (.cells #[.slice (some ad) np c, .slice B nh d] 67)) (w1.alloc (.cells #[vint p.p, vint p.q, vint p.x, vint p.y, vint p.d] 78)) := (hx1.trans hown0.ext).alloc _
  generalize (w1.alloc (.cells #[vint p.p, vint p.q, vint p.x, vint p.y, vint p.d] 78)) = w2 at k2 hx2 hx3 ⊢
  have c0 : ∀ w', Ext w2 w' → _ := fun w' he => B0.out w' (hx3.trans he)
  have r1 : ∀ w', Ext w2 w' → _ := fun w' he => r0 w' (hx2.trans he)
  have q0 := k2.at_ 0 rfl
  have q1 := k2.at_ 1 rfl
  have q2 := k2.at_ 2 rfl
  have q3 := k2.at_ 3 rfl
  have q4 := k2.at_ 4 rfl
  have Hx2 := Lib.hid hx2
  have hcs := fun w' (he : Ext w2 w') => Hcs.out w' (hx2.trans he)
  have Hcs' := Lib.hid hcs
  clear p0 p1 p2 p3 p4 b0 b1 hrow1 hown0 hx1 hx3 k2 r0 B0 Hx0 Hpl HpA hx2 Hpl2 hxx hxy hcs Hcs Hck
  generalize w1.heap.size = g2 at *
  have hip : (i : Int) < (np : Int) := by omega
  refine wp_region_calm 9 (fun j _ v w' => j = 6 → ∃ A c, v = .slice A m c ∧ CRow w' A C) (fun _ _ _ _ _ he h hj => let ⟨A, c, e, hr⟩ := h hj; ⟨A, c, e, hr.ext he⟩) (by kernel_rfl) (by kernel_rfl) ?_
  simp only [List.take_succ_cons, List.take_zero, List.drop_succ_cons, List.drop_zero]
  refine calm_quiet calm_mono_final 6 (by kernel_rfl) ?_
  simp only [List.take_succ_cons, List.take_zero, List.drop_succ_cons, List.drop_zero]
  repeat (go_big_quiet_step (fail))
  refine wpQuiet_nil ?_
  refine calm_call calm_mono_final 55 #[p.val, .slice B' m c'] rfl (fun w => ?_) (fun w he hF => ?_) ?_
  · go_simp
  · exact (Hcs'.out w he).mono fun e w'' ⟨v, e', ho⟩ => by
      obtain ⟨A, c, rfl⟩ := ho.form
      exact ⟨_, e', ho.ext, fun _ => ⟨A, c, by rw [Hcl.out], Own.row ho⟩⟩
  intro v _ _ h
  obtain ⟨A5, c5, rfl, _⟩ := h rfl
  clear h
  simp only [Act.put, List.setIfInBounds_toArray, List.set_cons_succ, List.set_cons_zero]
  refine calm_quiet calm_mono_final 2 (by kernel_rfl) ?_
  simp only [List.take_succ_cons, List.take_zero, List.drop_succ_cons, List.drop_zero]
  repeat (go_big_quiet_step (fail))
  refine wpQuiet_nil ?_
  refine calm_nil fun w3 he3 hF => ?_
  obtain ⟨A6, c6, ee, hrow3⟩ := (hF 6).2 rfl rfl
  clear hF
  injection ee with ee _ _
  subst ee
  have Hat := Lib.hid (fun k (hk : k < m) => hrow3.at_ (k := k) (by rw [Hcl.out]; exact hk))
  have s4 : ∀ w', Ext w3 w' → _ := fun w' he => q4 w' (he3.trans he)
  have S4 := Lib.hid s4
  have Hx3 := Lib.hid (Hx2.out.trans he3)
  clear hrow3 s4 q0 q1 q2 q3 q4 c0 r1 he3 Hx2 Hcs'
  go_wp2
  go_loopw [39, 9] (fun i v wr => ∃ k : Nat, k ≤ m ∧ i = .int .i64 k ∧ Own w3 wr 58 2 v k ((L.take k).map Sp.cells).flatten) (fun i _ _ => m - (intOf i).toNat)
  case atStart => exact ⟨0, by omega, rfl, Own.nil _ _ _⟩
  case round =>
    obtain ⟨k, hk, rfl, hown⟩ := hrel
    obtain ⟨A4, c4, rfl⟩ := hown.form
    have hex := hown.ext
    by_cases hlt : k < m
    · obtain ⟨ad', rfl, s0, s1, s2⟩ := Hat.out k hlt
      have htk := Htk.out k hlt
      have hcc := Hcc.out k hlt
      rw [hcc] at s0 s1 s2
      generalize plc p (P k) = z at *
      have t0 : ∀ w', Ext wr w' → w'.cell? _ = some (.int .i64 z.x) := fun w' he => s0 w' (hex.trans he)
      have t1 : ∀ w', Ext wr w' → w'.cell? _ = some (.int .i64 z.y) := fun w' he => s1 w' (hex.trans he)
      have t2 : ∀ w', Ext wr w' → w'.cell? _ = some (.int .i64 p.d) := fun w' he => s2 w' (hex.trans he)
      have Htk' := Lib.hid htk
      clear s0 s1 s2 htk hcc Hat Htk Hcc S4
      have hkm : (k : Int) < (m : Int) := by omega
      have hov := hown.alloc (.cells #[vint z.x, vint z.y, vint p.d] 137)
      have Hfl := Lib.hid (show ((L.take (k + 1)).map Sp.cells).flatten = ((L.take k).map Sp.cells).flatten ++ z.cells by rw [Htk'.out]; simp)
      go_wp2_with (at_builtin; refine own_append (w1 := w3) spot_elem rfl _ _ 47 rfl Tryz.underlying47 _ k _ rfl hov #[vint z.x, vint z.y] 1 (by show Value.slice (some ⟨wr.heap.size + 1, 0, none⟩) 1 1 = _; simp) rfl (by intro u hu; simp at hu; rcases hu with rfl | rfl <;> rfl) (by omega) (by unfold maxLen; omega) ?_; intro v' w' ho _)
      go_roundw
      case rel => exact ⟨k + 1, by omega, by go_num, by rw [Hfl.out]; exact ho⟩
      case measure => simp [intOf]; omega
    · obtain rfl : m = k := by omega
      have u4 : ∀ w', Ext wr w' → _ := fun w' he => S4.out w' (hex.trans he)
      have Hown := Lib.hid hown
      clear hown Hat Hcc Htk
      go_wp2
      refine wp_region_calm 6 (fun _ _ _ _ => True) (fun _ _ _ _ _ _ h => h) (by kernel_rfl) (by kernel_rfl) ?_
      simp only [List.take_succ_cons, List.take_zero, List.drop_succ_cons, List.drop_zero]
      refine calm_quiet calm_mono_final 6 (by kernel_rfl) ?_
      simp only [List.take_succ_cons, List.take_zero, List.drop_succ_cons, List.drop_zero]
      repeat (go_big_quiet_step (fail))
      refine wpQuiet_nil ?_
      refine calm_nil fun w5 he5 _ => ?_
      go_wp2
      go_ret3
      refine ⟨.slice A4 m c4, rfl, ?_⟩
      have ho := Hown.out.later he5
      rw [List.take_of_length_le (by omega)] at ho
      show Own w w5 _ 2 _ L.length _
      rw [hln]
      exact ho.since Hx3.out
theorem corners_all (A : Option Addr) (c : Nat) (ps : List (List Sp)) (B : Option Addr) (d : Nat) (hs : List Hg) (x : Int) (w : World) (hL : Lk w A ps B hs) :
    Calls Tryz.prog 45 #[.agg #[.slice A ps.length c, .slice B hs.length d], .int .i64 x] w fun e w' => ∃ v, e = .returned (.tuple #[v, .int .i64 (cornD ps hs x), .int .i64 (cornE ps hs x)]) ∧ OwnS w w' v (cornL ps hs x) := by
  by_cases h : linkP ps hs ∧ inP ps x
  · obtain ⟨h1, h4⟩ := h
    obtain ⟨i, rfl⟩ := Int.eq_ofNat_of_zero_le h4.1
    have hi : i < ps.length := by have := h4.2; omega
    obtain ⟨e1, e2, e3⟩ := corn_good h1 hi
    rw [e1, e2, e3]
    exact corners_in A c ps B d hs i w hL h1 hi
  · exact corners_err A c ps B d hs x w hL h
end Go.Proofs.YtebkhdhhajjhfaaGreat

/- Gaps: by both. -/
namespace Go.Proofs.YtebkhdhhajjhfaaGreat
open Go.RowKit
def askE (ps : List (List Sp)) (hs : List Hg) (a b : Sp) : Int := if linkP ps hs then (if spotB a ∧ spotB b then 0 else 2) else 50
end Go.Proofs.YtebkhdhhajjhfaaGreat

/- Copies by append; lists that are the same. -/
namespace Go.Proofs.YtebkhdhhajjhfaaGreat
open Go.RowKit
theorem ints_cells_one (xs : List Int) : ∀ u ∈ xs.map vint, u.oneCell' = true := by intro u hu; simp at hu; obtain ⟨x, _, rfl⟩ := hu; rfl
theorem neq_Sp (a0 a1 : Int) (w : World) : (binOp .neq 58 (.agg #[.int .i64 a0, .int .i64 a1]) (.agg #[.int .i64 a0, .int .i64 a1])).run Tryz.prog w = .ok (.bool false) w := by
  simp [go_sem]
set_option maxRecDepth 100000 in
set_option maxHeartbeats 2000000 in
theorem same_spots (A B : Option Addr) (c d : Nat) (l : List Sp) (w : World) (hA : SRow w A l) (hB : SRow w B l) (hl : l.length ≤ 1000000) :
    Calls Tryz.prog 38 #[.slice A l.length c, .slice B l.length d] w fun e w' => e = .returned (.bool true) ∧ Ext w w' := by
  have ha := fun k (hk : k < l.length) => hA.at_ hk
  have hb := fun k (hk : k < l.length) => hB.at_ hk
  have Ha := Lib.hid ha
  have Hb := Lib.hid hb
  clear ha hb hA hB
  generalize l.length = n at *
  go_enter Tryz.func38, Tryz.ntmps38
  go_wp2
  go_loopw [5] (fun i wr => ∃ k : Nat, k ≤ n ∧ i = .int .i64 k ∧ Ext w wr) (fun i _ => n - (intOf i).toNat)
  case atStart => exact ⟨0, by omega, rfl, Ext.refl _⟩
  case round =>
    obtain ⟨k, hk, rfl, hex⟩ := hrel
    by_cases hlt : k < n
    · obtain ⟨ad, rfl, x0, x1⟩ := Ha.out k hlt
      obtain ⟨bd, rfl, y0, y1⟩ := Hb.out k hlt
      have u0 : ∀ w', Ext wr w' → _ := fun w' he => x0 w' (hex.trans he)
      have v0 : ∀ w', Ext wr w' → _ := fun w' he => y0 w' (hex.trans he)
      have u1 : ∀ w', Ext wr w' → _ := fun w' he => x1 w' (hex.trans he)
      have v1 : ∀ w', Ext wr w' → _ := fun w' he => y1 w' (hex.trans he)
      clear x0 y0 x1 y1 Ha Hb
      generalize ptA l k = s at *
      obtain ⟨a0, a1⟩ := s
      simp only at u0 v0 u1 v1
      have hne := neq_Sp a0 a1
      have hkn : (k : Int) < (n : Int) := by omega
      go_wp2
      refine wp_region_calm 9 (fun _ _ _ _ => True) (fun _ _ _ _ _ _ h => h) (by kernel_rfl) (by kernel_rfl) ?_
      simp only [List.take_succ_cons, List.take_zero, List.drop_succ_cons, List.drop_zero]
      refine calm_quiet calm_mono_final 9 (by kernel_rfl) ?_
      simp only [List.take_succ_cons, List.take_zero, List.drop_succ_cons, List.drop_zero]
      repeat (go_big_quiet_step (fail))
      refine wpQuiet_nil ?_
      refine calm_nil fun w3 he3 _ => ?_
      go_wp2
      go_roundw
      case rel => exact ⟨k + 1, by omega, by go_num, hex.trans he3⟩
      case measure => simp [intOf]; omega
    · obtain rfl : n = k := by omega
      go_wp2
      go_ret
      exact ⟨rfl, hex⟩
theorem intsAt {w : World} {A : Option Addr} {l : List Int} (h : Ints w A l) {k : Nat} (hk : k < l.length) : ∃ ad, A = some ad ∧ ∀ w', Ext w w' → w'.cell? (ad.add k) = some (.int .i64 (getI l k)) := by
  obtain ⟨ad, ha, hc⟩ := h k (by simpa using hk)
  refine ⟨ad, ha, fun w' he => he.cell (hc.trans ?_)⟩
  simp [getI, hk]
end Go.Proofs.YtebkhdhhajjhfaaGreat

/- Linkages that are not great; that are the same; in new memory. -/
namespace Go.Proofs.YtebkhdhhajjhfaaGreat
open Go.RowKit
def greatP (ps : List (List Sp)) (hs : List Hg) : Prop := 10 < ps.length ∨ 10 < hs.length ∨ ∃ k, k < ps.length ∧ 20 < (pnA ps k).length
noncomputable def greatB (ps : List (List Sp)) (hs : List Hg) : Bool := @decide (greatP ps hs) (Classical.propDecidable _)
theorem greatB_yes {ps : List (List Sp)} {hs : List Hg} (h : greatP ps hs) : true = greatB ps hs := by simp [greatB, h]
theorem greatB_no {ps : List (List Sp)} {hs : List Hg} (h : ¬ greatP ps hs) : false = greatB ps hs := by simp [greatB, h]
theorem greatB_iff {ps : List (List Sp)} {hs : List Hg} : greatB ps hs = true ↔ greatP ps hs := by simp [greatB]
set_option maxRecDepth 100000 in
set_option maxHeartbeats 4000000 in
theorem great_any (A : Option Addr) (c : Nat) (ps : List (List Sp)) (B : Option Addr) (d : Nat) (hs : List Hg) (w : World) (hA : PnRow w A ps) :
    Calls Tryz.prog 20 #[.agg #[.slice A ps.length c, .slice B hs.length d]] w fun e w' => e = .returned (.bool (greatB ps hs)) ∧ Ext w w' := by
  have yes1 : 10 < ps.length → true = greatB ps hs := fun h => greatB_yes (.inl h)
  have yes2 : 10 < hs.length → true = greatB ps hs := fun h => greatB_yes (.inr (.inl h))
  have yes3 : ∀ k, k < ps.length → 20 < (pnA ps k).length → true = greatB ps hs := fun k hk h => greatB_yes (.inr (.inr ⟨k, hk, h⟩))
  have no : ¬ 10 < ps.length → ¬ 10 < hs.length → (∀ k, k < ps.length → (pnA ps k).length ≤ 20) → false = greatB ps hs := fun h1 h2 h3 => greatB_no fun h => by
    rcases h with h | h | ⟨k, hk, h⟩
    · exact h1 h
    · exact h2 h
    · have := h3 k hk; omega
  have hpa := fun k (hk : k < ps.length) => hA.at_ hk
  have Yes1 := Lib.hid yes1
  have Yes2 := Lib.hid yes2
  have Yes3 := Lib.hid yes3
  have No := Lib.hid no
  have Hpa := Lib.hid hpa
  clear yes1 yes2 yes3 no hpa hA
  generalize greatB ps hs = E at *
  generalize ps.length = np at *
  generalize hs.length = nh at *
  have kb : Blk (w.alloc (.cells #[.slice A np c, .slice B nh d] 67)) w.heap.size [.slice A np c, .slice B nh d] := Blk.new _ _
  have b0 := kb.at_ 0 rfl
  have b1 := kb.at_ 1 rfl
  have hx0 : Ext w (w.alloc (.cells #[.slice A np c, .slice B nh d] 67)) := (Ext.refl _).alloc _
  have B0 := Lib.hid b0
  have Hx0 := Lib.hid hx0
  clear kb hx0
  by_cases h1 : 10 < np
  · have hy := Yes1.out h1
    have Hy := Lib.hid hy
    have d1 : decide ((10 : Int) < (np : Int)) = true := by simp; omega
    clear hy
    go_enter Tryz.func20, Tryz.ntmps20
    go_wp2
    go_ret
    exact ⟨ret_b Hy.out, Hx0.out⟩
  · have d1 : decide ((10 : Int) < (np : Int)) = false := by simp; omega
    by_cases h2 : 10 < nh
    · have hy := Yes2.out h2
      have Hy := Lib.hid hy
      have d2 : decide ((10 : Int) < (nh : Int)) = true := by simp; omega
      clear hy
      go_enter Tryz.func20, Tryz.ntmps20
      go_wp2
      go_ret
      exact ⟨ret_b Hy.out, Hx0.out⟩
    · have hn := No.out h1 h2
      have Hn := Lib.hid hn
      have d2 : decide ((10 : Int) < (nh : Int)) = false := by simp; omega
      clear hn No Yes1 Yes2
      go_enter Tryz.func20, Tryz.ntmps20
      go_wp2
      generalize (w.alloc (.cells #[.slice A np c, .slice B nh d] 67)) = w0 at B0 Hx0 b0 b1 ⊢
      clear b0 b1
      go_loopw [3] (fun i wr => ∃ k : Nat, k ≤ np ∧ i = .int .i64 k ∧ Ext w0 wr ∧ ∀ j, j < k → (pnA ps j).length ≤ 20) (fun i _ => np - (intOf i).toNat)
      case atStart => exact ⟨0, by omega, rfl, Ext.refl _, fun i h => absurd h (by omega)⟩
      case round =>
        obtain ⟨k, hk, rfl, hex, hall⟩ := hrel
        have Hall := Lib.hid hall
        clear hall
        have p0 : ∀ w', Ext wr w' → _ := fun w' he => B0.out w' (hex.trans he)
        by_cases hlt : k < np
        · obtain ⟨ad, B', c', rfl, r0, _⟩ := Hpa.out k hlt
          have hxr := Hx0.out.trans hex
          have q0 : ∀ w', Ext wr w' → _ := fun w' he => r0 w' (hxr.trans he)
          have hy := Yes3.out k hlt
          have hnx : (pnA ps k).length ≤ 20 → ∀ j, j < k + 1 → (pnA ps j).length ≤ 20 := fun h j hj => by
            by_cases e : j = k
            · subst e; exact h
            · exact Hall.out j (by omega)
          have Hy := Lib.hid hy
          have Hnx := Lib.hid hnx
          clear r0 hy hnx Hpa Yes3
          generalize (pnA ps k).length = m at *
          by_cases hm : 20 < m
          · have hy := Hy.out hm
            have Hy' := Lib.hid hy
            have d4 : decide ((20 : Int) < (m : Int)) = true := by simp; omega
            clear hy Hnx Hy
            go_wp2
            go_ret
            exact ⟨ret_b Hy'.out, hxr⟩
          · have hy := Hnx.out (by omega)
            have Hy' := Lib.hid hy
            have d4 : decide ((20 : Int) < (m : Int)) = false := by simp; omega
            clear hy Hnx Hy
            go_wp2
            go_roundw
            case rel => exact ⟨k + 1, by omega, by go_num, hex, Hy'.out⟩
            case measure => simp [intOf]; omega
        · obtain rfl : np = k := by omega
          go_wp2
          go_ret
          exact ⟨ret_b (Hn.out Hall.out), Hx0.out.trans hex⟩
/-- What is not great, in memory. -/
theorem lk_of {w : World} {A : Option Addr} {ps : List (List Sp)} {B : Option Addr} {hs : List Hg} (hA : PnRow w A ps) (hB : HRow w B hs) (h : ¬ greatP ps hs) : Lk w A ps B hs := by
  unfold greatP at h
  refine ⟨hA, hB, by omega, by omega, fun k hk => ?_⟩
  have : ¬ 20 < (pnA ps k).length := fun h' => h (.inr (.inr ⟨k, hk, h'⟩))
  omega
end Go.Proofs.YtebkhdhhajjhfaaGreat

/- A linkage in new memory. -/
namespace Go.Proofs.YtebkhdhhajjhfaaGreat
open Go.RowKit
section
variable {w1 w w' : World} {e : TypeId} {size n : Nat} {v : Value} {xs : List Value}
theorem Own.lt (h : Own w1 w e size v n xs) {g : Nat} (hg : v.ownBlock = some g) : w1.heap.size ≤ g ∧ g < w.heap.size := h.2.lt g hg
end
/-- Panels, each in its own memory. -/
structure Pans (w1 w : World) (vs : List Value) (ps : List (List Sp)) : Prop where
  len : vs.length = ps.length
  own : ∀ k, k < ps.length → Own w1 w 58 2 (vs.getD k undef) (pnA ps k).length ((pnA ps k).map Sp.cells).flatten
  apart : ∀ i k, i < k → k < ps.length → ∀ g, (vs.getD i undef).ownBlock = some g → (vs.getD k undef).ownBlock ≠ some g
section
variable {w1 w w' : World} {vs : List Value} {ps : List (List Sp)}
theorem Pans.later (h : Pans w1 w vs ps) (he : Ext w w') : Pans w1 w' vs ps := ⟨h.len, fun k hk => (h.own k hk).later he, h.apart⟩
theorem Pans.nil (w1 w : World) : Pans w1 w [] [] := ⟨rfl, fun k hk => by simp at hk, fun i k _ hk => by simp at hk⟩
theorem Pans.snoc {wm : World} {x : Value} {p : List Sp} (h : Pans w1 w vs ps) (hm : Pans w1 wm vs ps) (hx : Ext w1 wm) (ho : Own wm w 58 2 x p.length (p.map Sp.cells).flatten) : Pans w1 w (vs ++ [x]) (ps ++ [p]) := by
  have hl := h.len
  have e1 : ∀ k, k < ps.length → (vs ++ [x]).getD k undef = vs.getD k undef := fun k hk => by simp [List.getD, List.getElem?_append_left (show k < vs.length by omega)]
  have e2 : (vs ++ [x]).getD ps.length undef = x := by simp [List.getD, ← hl]
  have e3 : ∀ k, k < ps.length → pnA (ps ++ [p]) k = pnA ps k := fun k hk => by simp [pnA, List.getD, List.getElem?_append_left hk]
  have e4 : pnA (ps ++ [p]) ps.length = p := by simp [pnA]
  refine ⟨by simp [hl], fun k hk => ?_, fun i k hik hk g hg => ?_⟩
  · by_cases hkl : k < ps.length
    · rw [e1 k hkl, e3 k hkl]; exact h.own k hkl
    · have : k = ps.length := by simp at hk; omega
      subst this
      rw [e2, e4]
      exact ho.since hx
  · by_cases hkl : k < ps.length
    · rw [e1 k hkl]
      rw [e1 i (by omega)] at hg
      exact h.apart i k hik hkl g hg
    · have : k = ps.length := by simp at hk; omega
      subst this
      rw [e1 i hik] at hg
      rw [e2]
      intro hxg
      have h1 := ((hm.own i hik).lt hg).2
      have h2 := (ho.lt hxg).1
      omega
theorem Pans.row {A : Option Addr} {c n : Nat} (h : Pans w1 w vs ps) (ho : Own w1 w 48 1 (.slice A n c) ps.length vs) : PnRow w A ps := fun k hk => by
  obtain ⟨B, c', hB⟩ := (h.own k hk).form
  have hrow := h.own k hk
  rw [hB] at hrow
  have hrow := hrow.row
  obtain ⟨A', c2, hv⟩ := ho.form
  injection hv with h1 h2 h3
  subst h2
  have hr := ho.row
  obtain ⟨ad, ha, hc⟩ := hr k (by rw [h.len]; exact hk)
  refine ⟨ad, B, c', ha, fun w2 he => he.cell ?_, by rw [pnA_at hk] at hrow; exact hrow⟩
  rw [hc]
  have e : vs.getD k undef = vs[k]'(by rw [h.len]; exact hk) := by simp [List.getD, h.len, hk]
  rw [e, pnA_at hk] at hB
  rw [List.getElem?_eq_getElem (by rw [h.len]; exact hk), hB]
end
end Go.Proofs.YtebkhdhhajjhfaaGreat

/- HingePoses: the law's own walk. -/
namespace Go.Proofs.YtebkhdhhajjhfaaGreat
open Go.RowKit
end Go.Proofs.YtebkhdhhajjhfaaGreat

/- Two panels: by both. -/
namespace Go.Proofs.YtebkhdhhajjhfaaGreat
open Go.RowKit
def twoP (ps : List (List Sp)) (i k : Int) : Prop := inP ps i ∧ inP ps k ∧ i ≠ k
instance (ps : List (List Sp)) (i k : Int) : Decidable (twoP ps i k) := by unfold twoP; infer_instance
def twoE (ps : List (List Sp)) (hs : List Hg) (i k : Int) : Int := if linkP ps hs then (if twoP ps i k then 0 else 2) else 50
theorem two_bad {ps : List (List Sp)} {hs : List Hg} {i k : Int} (h : ¬ linkP ps hs) : twoE ps hs i k = 50 := if_neg h
theorem two_arg {ps : List (List Sp)} {hs : List Hg} {i k : Int} (h : linkP ps hs) (h2 : ¬ twoP ps i k) : twoE ps hs i k = 2 := by rw [twoE, if_pos h, if_neg h2]
theorem two_good {ps : List (List Sp)} {hs : List Hg} {i k : Int} (h : linkP ps hs) (h2 : twoP ps i k) : twoE ps hs i k = 0 := by rw [twoE, if_pos h, if_pos h2]
theorem two_cases (ps : List (List Sp)) (hs : List Hg) (i k : Int) : (linkP ps hs ∧ (∃ a b : Nat, i = a ∧ k = b ∧ a < ps.length ∧ b < ps.length ∧ a ≠ b) ∧ twoE ps hs i k = 0) ∨ ((twoE ps hs i k = 2 ∨ twoE ps hs i k = 50) ∧ ¬ (linkP ps hs ∧ twoP ps i k)) := by
  by_cases h1 : linkP ps hs
  · by_cases h2 : twoP ps i k
    · refine .inl ⟨h1, ?_, two_good h1 h2⟩
      obtain ⟨⟨a1, a2⟩, ⟨b1, b2⟩, hne⟩ := h2
      obtain ⟨a, rfl⟩ := Int.eq_ofNat_of_zero_le a1
      obtain ⟨b, rfl⟩ := Int.eq_ofNat_of_zero_le b1
      exact ⟨a, b, rfl, rfl, by omega, by omega, by omega⟩
    · exact .inr ⟨.inl (two_arg h1 h2), fun h => h2 h.2⟩
  · exact .inr ⟨.inr (two_bad h1), fun h => h1 h.1⟩
/-- The corners of a panel of a linkage, as they lie. -/
def pcrn (ps : List (List Sp)) (hs : List Hg) (k : Nat) : List Cn := crn (posF hs k) (pnA ps k)
theorem pcrn_ok {ps : List (List Sp)} {hs : List Hg} (h : linkP ps hs) {k : Nat} (hk : k < ps.length) : CnsOk (pcrn ps hs k) := crn_ok (link_pose h hk) ((linkP_iff.1 h).2.2.1 k hk)
theorem pcrn_len (ps : List (List Sp)) (hs : List Hg) (k : Nat) : (pcrn ps hs k).length = (pnA ps k).length := crn_len _ _
set_option maxRecDepth 100000 in
set_option maxHeartbeats 4000000 in
theorem two_err (A : Option Addr) (c : Nat) (ps : List (List Sp)) (B : Option Addr) (d : Nat) (hs : List Hg) (i k : Int) (w : World) (hL : Lk w A ps B hs) (hbad : ¬ (linkP ps hs ∧ twoP ps i k)) :
    Calls Tryz.prog 77 #[.agg #[.slice A ps.length c, .slice B hs.length d], .int .i64 i, .int .i64 k] w fun e w' => e = .returned (.tuple #[.slice none 0 0, .slice none 0 0, .int .i64 (twoE ps hs i k)]) ∧ Ext w w' := by
  have hck := fun w' (he : Ext w w') => (hL.ext he).check c d
  rcases linkB_eq (ps := ps) (hs := hs) with ⟨h1, h2, h3⟩ | ⟨h1, h2, h3⟩
  · rw [h3] at hck
    have h4 : ¬ twoP ps i k := fun h => hbad ⟨h1, h⟩
    rw [two_arg h1 h4]
    have h5 : i < 0 ∨ k < 0 ∨ (ps.length : Int) ≤ i ∨ (ps.length : Int) ≤ k ∨ i = k := by
      by_cases a3 : i = k
      · exact .inr (.inr (.inr (.inr a3)))
      · by_cases a4 : 0 ≤ i ∧ i < ps.length ∧ 0 ≤ k ∧ k < ps.length
        · exact absurd ⟨⟨a4.1, a4.2.1⟩, ⟨a4.2.2.1, a4.2.2.2⟩, a3⟩ h4
        · omega
    have Hck := Lib.hid hck
    clear hck hL h1 h2 h3 h4 hbad
    generalize ps.length = np at *
    generalize hs.length = nh at *
    have kb : Blk (w.alloc (.cells #[.slice A np c, .slice B nh d] 67)) w.heap.size [.slice A np c, .slice B nh d] := Blk.new _ _
    have b0 := kb.at_ 0 rfl
    have b1 := kb.at_ 1 rfl
    have hx0 : Ext w (w.alloc (.cells #[.slice A np c, .slice B nh d] 67)) := (Ext.refl _).alloc _
    have Hx0 := Lib.hid hx0
    clear kb hx0
    have H5 := Lib.hid h5
    clear h5
    go_enter Tryz.func77, Tryz.ntmps77
    go_wp2_with (first
      | (go_at_call 60; refine (Hck.out _ Hx0.out).mono ?_; rintro e w1 ⟨rfl, hx1⟩; have hxx := Hx0.out.trans hx1)
      | (go_at_call 61; exfalso; have h5 := H5.out; simp at *; omega))
    all_goals go_ret3
    all_goals exact ⟨rfl, hxx⟩
  · rw [h3] at hck
    rw [two_bad h1]
    have Hck := Lib.hid hck
    clear hck hL h1 h2 h3 hbad
    generalize ps.length = np at *
    generalize hs.length = nh at *
    have kb : Blk (w.alloc (.cells #[.slice A np c, .slice B nh d] 67)) w.heap.size [.slice A np c, .slice B nh d] := Blk.new _ _
    have b0 := kb.at_ 0 rfl
    have b1 := kb.at_ 1 rfl
    have hx0 : Ext w (w.alloc (.cells #[.slice A np c, .slice B nh d] 67)) := (Ext.refl _).alloc _
    have Hx0 := Lib.hid hx0
    clear kb hx0
    go_enter Tryz.func77, Tryz.ntmps77
    go_wp2_with (go_at_call 60; refine (Hck.out _ Hx0.out).mono ?_; rintro e w1 ⟨rfl, hx1⟩; have hxx := Hx0.out.trans hx1)
    go_ret3
    exact ⟨rfl, hxx⟩
set_option maxRecDepth 100000 in
set_option maxHeartbeats 8000000 in
theorem two_in (A : Option Addr) (c : Nat) (ps : List (List Sp)) (B : Option Addr) (d : Nat) (hs : List Hg) (i k : Nat) (w : World) (hL : Lk w A ps B hs) (hl : linkP ps hs) (hi : i < ps.length) (hk : k < ps.length) (hne : i ≠ k) :
    Calls Tryz.prog 77 #[.agg #[.slice A ps.length c, .slice B hs.length d], .int .i64 i, .int .i64 k] w fun e w' => ∃ X x Y y, e = .returned (.tuple #[.slice X (pcrn ps hs i).length x, .slice Y (pcrn ps hs k).length y, .int .i64 0]) ∧ CRow w' X (pcrn ps hs i) ∧ CRow w' Y (pcrn ps hs k) ∧ Ext w w' := by
  have hck := fun w' (he : Ext w w') => (hL.ext he).check c d
  rw [← checkE_good hl] at hck
  have hpl := fun w' (he : Ext w w') => poses_any A ps.length c B d hs w' (hL.hB.ext he) hl.nh hl.hinges
  have hps := hl.2.1
  obtain ⟨ad, X1, x1, rfl, r0, hr1⟩ := hL.hA.at_ hi
  obtain ⟨_, X2, x2, ee, t0, hr2⟩ := hL.hA.at_ hk
  cases ee
  have hn1 := (linkP_iff.1 hl).2.2.1 i hi
  have hn2 := (linkP_iff.1 hl).2.2.1 k hk
  have hc1 := fun w' (he : Ext w w') => corners_any (posF hs i) X1 x1 (pnA ps i) w' (hr1.ext he) (by have := hn1.1.2; omega) (psOk (link_pose hl hi)) hn1.2.1
  have hc2 := fun w' (he : Ext w w') => corners_any (posF hs k) X2 x2 (pnA ps k) w' (hr2.ext he) (by have := hn2.1.2; omega) (psOk (link_pose hl hk)) hn2.2.1
  have hl1 := pcrn_len ps hs i
  have hl2 := pcrn_len ps hs k
  have hpA1 := posesL_psA (hs := hs) (k := i) (by omega)
  have hpA2 := posesL_psA (hs := hs) (k := k) (by omega)
  have hpl2 := posesL_len hs
  change ∀ w', Ext w w' → Calls Tryz.prog 55 _ w' fun e w'_1 => ∃ v, e = .returned v ∧ OwnC w' w'_1 v (pcrn ps hs i) at hc1
  change ∀ w', Ext w w' → Calls Tryz.prog 55 _ w' fun e w'_1 => ∃ v, e = .returned v ∧ OwnC w' w'_1 v (pcrn ps hs k) at hc2
  have Hck := Lib.hid hck
  have Hpl := Lib.hid hpl
  have Hc1' := Lib.hid hc1
  have Hc2' := Lib.hid hc2
  have HpA1 := Lib.hid hpA1
  have HpA2 := Lib.hid hpA2
  have Hpl2 := Lib.hid hpl2
  have Hl1 := Lib.hid hl1
  have Hl2 := Lib.hid hl2
  clear hck hpl hc1 hc2 hpA1 hpA2 hpl2 hl1 hl2 hn1 hn2 hr1 hr2 hL hl
  generalize posesL hs = PL at *
  generalize pcrn ps hs i = C1 at *
  generalize pcrn ps hs k = C2 at *
  generalize posF hs i = p1 at *
  generalize posF hs k = p2 at *
  generalize (pnA ps i).length = m1 at *
  generalize (pnA ps k).length = m2 at *
  rw [Hl1.out, Hl2.out]
  generalize ps.length = np at *
  generalize hs.length = nh at *
  have d5 : decide ((i : Int) < 0) = false := by simp
  have d6 : decide ((k : Int) < 0) = false := by simp
  have d7 : ((i : Int) == (k : Int)) = false := by simp; omega
  have hip : (i : Int) < (np : Int) := by omega
  have hkp : (k : Int) < (np : Int) := by omega
  have hip2 : (i : Int) < ((nh + 1 : Nat) : Int) := by omega
  have hkp2 : (k : Int) < ((nh + 1 : Nat) : Int) := by omega
  have kb : Blk (w.alloc (.cells #[.slice (some ad) np c, .slice B nh d] 67)) w.heap.size [.slice (some ad) np c, .slice B nh d] := Blk.new _ _
  have b0 := kb.at_ 0 rfl
  have b1 := kb.at_ 1 rfl
  have hx0 : Ext w (w.alloc (.cells #[.slice (some ad) np c, .slice B nh d] 67)) := (Ext.refl _).alloc _
  have Hx0 := Lib.hid hx0
  clear kb hx0
  by_cases hik : k < i
  all_goals
    go_enter Tryz.func77, Tryz.ntmps77
    go_wp2_with (first
      | (go_at_call 60; refine (Hck.out _ Hx0.out).mono ?_; rintro e w1 ⟨rfl, hx1⟩; have hxx := Hx0.out.trans hx1; replace b0 : ∀ w', Ext w1 w' → _ := fun w' he => b0 w' (hx1.trans he); replace b1 : ∀ w', Ext w1 w' → _ := fun w' he => b1 w' (hx1.trans he))
      | (go_at_call 61; refine (Hpl.out _ hxx).mono ?_; rintro e w2 ⟨v, rfl, hown0⟩; unfold OwnP at hown0; rw [Hpl2.out] at hown0; obtain ⟨g, cg, rfl, _, _⟩ := hown0.at_ (by omega); have hrow1 : PRow w2 (some ⟨g, 0, none⟩) PL := Own.row hown0; have hx2 := hown0.ext; replace b0 : ∀ w', Ext w2 w' → _ := fun w' he => b0 w' (hx2.trans he); replace b1 : ∀ w', Ext w2 w' → _ := fun w' he => b1 w' (hx2.trans he)))
    have hxy := hxx.trans hx2
    obtain ⟨_, ee, p0, p1', p2', p3, p4⟩ := hrow1.at_ (k := i) (by rw [Hpl2.out]; omega)
    cases ee
    obtain ⟨_, ee, s0, s1, s2, s3, s4⟩ := hrow1.at_ (k := k) (by rw [Hpl2.out]; omega)
    cases ee
    simp only [HpA1.out, HpA2.out, add_zero'] at p0 p1' p2' p3 p4 s0 s1 s2 s3 s4
    have r1 : ∀ w', Ext w2 w' → _ := fun w' he => r0 w' (hxy.trans he)
    have t1 : ∀ w', Ext w2 w' → _ := fun w' he => t0 w' (hxy.trans he)
    have Hc1 := Lib.hid (fun w' (he : Ext w2 w') => Hc1'.out w' (hxy.trans he))
    have Hc2 := Lib.hid (fun w' (he : Ext w2 w') => Hc2'.out w' (hxy.trans he))
    have Hxy := Lib.hid hxy
    clear r0 t0 hrow1 hown0 hx2 hxx hx1 hxy Hck Hpl Hc1' Hc2' HpA1 HpA2 Hpl2 Hx0
    refine wp_region_calm 23 (fun j _ v w' => (j = 9 → ∃ A c, v = .slice A m1 c ∧ CRow w' A C1) ∧ (j = 19 → ∃ A c, v = .slice A m2 c ∧ CRow w' A C2)) (fun _ _ _ _ _ he h => And.intro (fun hj => let ⟨A, c, e, hr⟩ := h.1 hj; ⟨A, c, e, hr.ext he⟩) (fun hj => let ⟨A, c, e, hr⟩ := h.2 hj; ⟨A, c, e, hr.ext he⟩)) (by kernel_rfl) (by kernel_rfl) ?_
    simp only [List.take_succ_cons, List.take_zero, List.drop_succ_cons, List.drop_zero]
    refine calm_quiet calm_mono_final 9 (by kernel_rfl) ?_
    simp only [List.take_succ_cons, List.take_zero, List.drop_succ_cons, List.drop_zero]
    repeat (go_big_quiet_step (fail))
    refine wpQuiet_nil ?_
    refine calm_call calm_mono_final 55 #[p1.val, .slice X1 m1 x1] rfl (fun w => ?_) (fun w he hF => ?_) ?_
    · go_simp
    · exact (Hc1.out w he).mono fun e w'' ⟨v, e', ho⟩ => by
        obtain ⟨A, c, rfl⟩ := ho.form
        exact ⟨_, e', ho.ext, And.intro (fun _ => ⟨A, c, by rw [Hl1.out], Own.row ho⟩) (fun h => by cases h)⟩
    intro v _ _ h
    obtain ⟨A5, c5, rfl, _⟩ := h.1 rfl
    clear h
    simp only [Act.put, List.setIfInBounds_toArray, List.set_cons_succ, List.set_cons_zero]
    refine calm_quiet calm_mono_final 9 (by kernel_rfl) ?_
    simp only [List.take_succ_cons, List.take_zero, List.drop_succ_cons, List.drop_zero]
    repeat (go_big_quiet_step (fail))
    refine wpQuiet_nil ?_
    refine calm_call calm_mono_final 55 #[p2.val, .slice X2 m2 x2] rfl (fun w => ?_) (fun w he hF => ?_) ?_
    · go_simp
    · exact (Hc2.out w he).mono fun e w'' ⟨v, e', ho⟩ => by
        obtain ⟨A, c, rfl⟩ := ho.form
        exact ⟨_, e', ho.ext, And.intro (fun h => by cases h) (fun _ => ⟨A, c, by rw [Hl2.out], Own.row ho⟩)⟩
    intro v _ _ h
    obtain ⟨A6, c6, rfl, _⟩ := h.2 rfl
    clear h
    simp only [Act.put, List.setIfInBounds_toArray, List.set_cons_succ, List.set_cons_zero]
    refine calm_quiet calm_mono_final 3 (by kernel_rfl) ?_
    simp only [List.take_succ_cons, List.take_zero, List.drop_succ_cons, List.drop_zero]
    repeat (go_big_quiet_step (fail))
    refine wpQuiet_nil ?_
    refine calm_nil fun w3 he3 hF => ?_
    obtain ⟨A8, c8, ee, hrow8⟩ := (hF 19).2 rfl |>.2 rfl
    injection ee with ee _ _
    subst ee
    obtain ⟨A7, c7, ee, hrow7⟩ := (hF 9).1.2 rfl |>.1 rfl
    injection ee with ee _ _
    subst ee
    clear hF
    have Hrow := Lib.hid (And.intro hrow7 hrow8)
    clear hrow7 hrow8 p0 p1' p2' p3 p4 s0 s1 s2 s3 s4 b0 b1 r1 t1
    go_wp2
    go_ret3
    exact ⟨_, _, _, ⟨_, rfl⟩, Hrow.out.1, Hrow.out.2, Hxy.out.trans he3⟩
end Go.Proofs.YtebkhdhhajjhfaaGreat

/- Corners to the left of edges: by the code. -/
namespace Go.Proofs.YtebkhdhhajjhfaaGreat
open Go.RowKit
/-- The first corner to the left of an edge. -/
def idxC (c other : List Cn) (i : Nat) : Int := match other.findIdx? (fun o => decide (0 < eside c i o)) with
  | some k => k
  | none => -1
theorem idxC_at {c other : List Cn} {i k : Nat} (hk : k < other.length) (h : 0 < eside c i (cAt other k)) (hb : ∀ j, j < k → eside c i (cAt other j) ≤ 0) : (k : Int) = idxC c other i := by
  have : other.findIdx? (fun o => decide (0 < eside c i o)) = some k := by
    rw [List.findIdx?_eq_some_iff_getElem]
    refine ⟨hk, ?_, fun j hj => ?_⟩
    · rw [cAt_at hk] at h; simpa using h
    · have := hb j hj
      rw [cAt_at (by omega)] at this
      simpa using this
  rw [idxC, this]
theorem idxC_none {c other : List Cn} {i : Nat} (h : ∀ j, j < other.length → eside c i (cAt other j) ≤ 0) : (-1 : Int) = idxC c other i := by
  have : other.findIdx? (fun o => decide (0 < eside c i o)) = none := by
    rw [List.findIdx?_eq_none_iff]
    intro o ho
    obtain ⟨j, hj, rfl⟩ := List.getElem_of_mem ho
    have := h j hj
    rw [cAt_at hj] at this
    simpa using this
  rw [idxC, this]
theorem idxC_yes {c other : List Cn} {i : Nat} (h : 0 ≤ idxC c other i) : inAt c other i (idxC c other i) := by
  unfold idxC at h ⊢
  cases e : other.findIdx? (fun o => decide (0 < eside c i o)) with
  | none => rw [e] at h; simp at h
  | some k =>
    rw [e] at h
    obtain ⟨hk, hp, _⟩ := List.findIdx?_eq_some_iff_getElem.1 e
    refine ⟨by simp, by simpa using hk, ?_⟩
    simp only [Int.toNat_natCast]
    rw [cAt_at hk]
    simpa using hp
theorem idxC_no {c other : List Cn} {i : Nat} (h : idxC c other i < 0) : edgeOut c other i := by
  unfold idxC at h
  cases e : other.findIdx? (fun o => decide (0 < eside c i o)) with
  | some k => rw [e] at h; simp at h; omega
  | none =>
    intro o ho
    have := List.findIdx?_eq_none_iff.1 e o ho
    simp at this
    omega
theorem idxC_lt {c other : List Cn} {i : Nat} : -1 ≤ idxC c other i ∧ idxC c other i < other.length + 1 := by
  unfold idxC
  cases e : other.findIdx? (fun o => decide (0 < eside c i o)) with
  | none => simp; omega
  | some k =>
    obtain ⟨hk, _⟩ := List.findIdx?_eq_some_iff_getElem.1 e
    simp
    omega
theorem CnsOk.at_ {l : List Cn} (h : CnsOk l) {k : Nat} (hk : k < l.length) : CnOk (cAt l k) := by rw [cAt_at hk]; exact (h.ok k hk k hk).ca
theorem CnsOk.edge {l : List Cn} (h : CnsOk l) {i : Nat} (hi : i < l.length) : EdgeOk (cAt l i) (cAt l ((i + 1) % l.length)) := by
  have h1 : (i + 1) % l.length < l.length := Nat.mod_lt _ (by omega)
  rw [cAt_at hi, cAt_at h1]
  exact h.ok i hi _ h1
/-- What the closure sees. -/
structure InE (w : World) (g9 g2 g8 : Nat) (c : List Cn) (n i : Nat) (Ac : Option Addr) (cc : Nat) : Prop where
  a0 : ∀ w', Ext w w' → w'.cell? ⟨g9, 0, none⟩ = some (.int .i64 (cAt c i).at_.x)
  a1 : ∀ w', Ext w w' → w'.cell? ⟨g9, 1, none⟩ = some (.int .i64 (cAt c i).at_.y)
  a2 : ∀ w', Ext w w' → w'.cell? ⟨g9, 2, none⟩ = some (.int .i64 (cAt c i).d)
  s0 : ∀ w', Ext w w' → w'.cell? ⟨g2, 0, none⟩ = some (.slice Ac n cc)
  k0 : ∀ w', Ext w w' → w'.cell? ⟨g8, 0, none⟩ = some (.int .i64 i)
  row : CRow w Ac c
  len : c.length = n
  lt : i < n
  le : n ≤ 8
theorem InE.ext {w w' : World} {g9 g2 g8 : Nat} {c : List Cn} {n i : Nat} {Ac : Option Addr} {cc : Nat} (h : InE w g9 g2 g8 c n i Ac cc) (he : Ext w w') : InE w' g9 g2 g8 c n i Ac cc :=
  ⟨fun w2 h2 => h.a0 w2 (he.trans h2), fun w2 h2 => h.a1 w2 (he.trans h2), fun w2 h2 => h.a2 w2 (he.trans h2), fun w2 h2 => h.s0 w2 (he.trans h2), fun w2 h2 => h.k0 w2 (he.trans h2), h.row.ext he, h.len, h.lt, h.le⟩
set_option maxRecDepth 100000 in
set_option maxHeartbeats 4000000 in
theorem inside1_any (g9 g2 g8 : Nat) (c : List Cn) (n i : Nat) (Ac : Option Addr) (cc : Nat) (o : Cn) (w : World) (hE : InE w g9 g2 g8 c n i Ac cc) (hc : CnsOk c) (ho : CnOk o) :
    Calls Tryz.prog 159 #[o.val, .pointer (some ⟨g9, 0, none⟩), .pointer (some ⟨g2, 0, none⟩), .pointer (some ⟨g8, 0, none⟩)] w fun e w' => e = .returned (.bool (decide (0 < eside c i o))) ∧ Ext w w' := by
  obtain ⟨a0, a1, a2, s0, k0, hrow, hlen, hi, hn8⟩ := hE
  have hi1 : (i + 1) % n < n := Nat.mod_lt _ (by omega)
  obtain ⟨ad, rfl, q0, q1, q2⟩ := hrow.at_ (k := (i + 1) % n) (by omega)
  have hs := fun w' => side_any (cAt c i) (cAt c ((i + 1) % n)) o w' (by have := hc.edge (i := i) (by omega); rw [hlen] at this; exact this) ho
  rw [show sideC (cAt c i) (cAt c ((i + 1) % n)) o = eside c i o by unfold eside; rw [hlen]] at hs
  have Hs := Lib.hid hs
  have e2 : ((i : Int) + 1).tmod (n : Int) = (((i + 1) % n : Nat) : Int) := by
    rw [Int.tmod_eq_emod_of_nonneg (by omega)]; exact (by push_cast; rfl)
  have e3 : ((n : Int) = 0) = False := by simp; omega
  clear hs hrow hlen hc ho
  generalize (i + 1) % n = i1 at *
  generalize eside c i o = D at *
  generalize cAt c i = a at *
  generalize cAt c i1 = b at *
  obtain ⟨⟨ax, ay⟩, az⟩ := a
  obtain ⟨⟨bx, bY⟩, bz⟩ := b
  obtain ⟨⟨ox, oy⟩, oz⟩ := o
  simp only at a0 a1 a2 q0 q1 q2
  have hb1 : (i1 : Int) < (n : Int) := by omega
  have k2 : Blk (w.alloc (.cells #[vint ox, vint oy, vint oz] 137)) w.heap.size [vint ox, vint oy, vint oz] := Blk.new _ _
  have hx0 : Ext w (w.alloc (.cells #[vint ox, vint oy, vint oz] 137)) := (Ext.refl _).alloc _
  go_enter Tryz.func159, Tryz.ntmps159
  go_wp2
  generalize (w.alloc (.cells #[vint ox, vint oy, vint oz] 137)) = w1 at *
  have o0 := k2.at_ 0 rfl
  have o1 := k2.at_ 1 rfl
  have o2 := k2.at_ 2 rfl
  replace a0 : ∀ w', Ext w1 w' → _ := fun w' he => a0 w' (hx0.trans he)
  replace a1 : ∀ w', Ext w1 w' → _ := fun w' he => a1 w' (hx0.trans he)
  replace a2 : ∀ w', Ext w1 w' → _ := fun w' he => a2 w' (hx0.trans he)
  replace s0 : ∀ w', Ext w1 w' → _ := fun w' he => s0 w' (hx0.trans he)
  replace k0 : ∀ w', Ext w1 w' → _ := fun w' he => k0 w' (hx0.trans he)
  replace q0 : ∀ w', Ext w1 w' → _ := fun w' he => q0 w' (hx0.trans he)
  replace q1 : ∀ w', Ext w1 w' → _ := fun w' he => q1 w' (hx0.trans he)
  replace q2 : ∀ w', Ext w1 w' → _ := fun w' he => q2 w' (hx0.trans he)
  clear k2
  refine wp_region_calm 13 (fun j _ v _ => j = 10 → v = .int .i64 D) (fun _ _ _ _ _ _ h => h) (by kernel_rfl) (by kernel_rfl) ?_
  simp only [List.take_succ_cons, List.take_zero, List.drop_succ_cons, List.drop_zero]
  refine calm_quiet calm_mono_final 10 (by kernel_rfl) ?_
  simp only [List.take_succ_cons, List.take_zero, List.drop_succ_cons, List.drop_zero]
  repeat (go_big_quiet_step (fail))
  refine wpQuiet_nil ?_
  refine calm_call calm_mono_final 56 #[.agg #[vint ax, vint ay, vint az], .agg #[vint bx, vint bY, vint bz], .agg #[vint ox, vint oy, vint oz]] rfl (fun w => ?_) (fun w he hF => ?_) ?_
  · go_simp
  · exact (Hs.out w).mono fun e w'' ⟨he', hx⟩ => ⟨_, he', hx, fun _ => rfl⟩
  rintro _ _ _ h
  cases h rfl
  simp only [Act.put, List.setIfInBounds_toArray, List.set_cons_succ, List.set_cons_zero]
  refine calm_quiet calm_mono_final 2 (by kernel_rfl) ?_
  simp only [List.take_succ_cons, List.take_zero, List.drop_succ_cons, List.drop_zero]
  repeat (go_big_quiet_step (fail))
  refine wpQuiet_nil ?_
  refine calm_nil fun w3 he3 _ => ?_
  go_wp2
  go_ret
  exact ⟨rfl, hx0.trans he3⟩
set_option maxRecDepth 100000 in
set_option maxHeartbeats 4000000 in
theorem index_in (g9 g2 g8 : Nat) (c : List Cn) (n i : Nat) (Ac : Option Addr) (cc : Nat) (Ao : Option Addr) (co : Nat) (other : List Cn) (w : World) (hE : InE w g9 g2 g8 c n i Ac cc) (hc : CnsOk c) (hO : CRow w Ao other) (ho : CnsOk other) :
    Calls Tryz.prog 158 #[.slice Ao other.length co, .func (.func 159) #[] #[.pointer (some ⟨g9, 0, none⟩), .pointer (some ⟨g2, 0, none⟩), .pointer (some ⟨g8, 0, none⟩)]] w fun e w' => e = .returned (.int .i64 (idxC c other i)) ∧ Ext w w' := by
  have hat := fun k (hk : k < other.length) => hO.at_ hk
  have hcl := fun k (hk : k < other.length) w' (he : Ext w w') => inside1_any g9 g2 g8 c n i Ac cc (cAt other k) w' (hE.ext he) hc (ho.at_ hk)
  have hyes := fun k (hk : k < other.length) (h : 0 < eside c i (cAt other k)) (hb : ∀ j, j < k → eside c i (cAt other j) ≤ 0) => idxC_at hk h hb
  have hno := fun (h : ∀ j, j < other.length → eside c i (cAt other j) ≤ 0) => idxC_none h
  have hm8 := ho.len.2
  have Hat := Lib.hid hat
  have Hcl := Lib.hid hcl
  have Hyes := Lib.hid hyes
  have Hno := Lib.hid hno
  clear hat hcl hyes hno hE hc hO ho
  generalize idxC c other i = E at *
  generalize other.length = m at *
  go_enter Tryz.func158, Tryz.ntmps158
  go_wp2
  go_loopw [8] (fun i' wr => ∃ k : Nat, k ≤ m ∧ i' = .int .i64 k ∧ Ext w wr ∧ ∀ j, j < k → eside c i (cAt other j) ≤ 0) (fun i' _ => m - (intOf i').toNat)
  case atStart => exact ⟨0, by omega, rfl, Ext.refl _, fun j h => absurd h (by omega)⟩
  case round =>
    obtain ⟨k, hk, rfl, hex, hall⟩ := hrel
    have Hall := Lib.hid hall
    clear hall
    by_cases hlt : k < m
    · obtain ⟨ad, rfl, r0, r1, r2⟩ := Hat.out k hlt
      have c0 : ∀ w', Ext wr w' → _ := fun w' he => r0 w' (hex.trans he)
      have c1 : ∀ w', Ext wr w' → _ := fun w' he => r1 w' (hex.trans he)
      have c2 : ∀ w', Ext wr w' → _ := fun w' he => r2 w' (hex.trans he)
      have hcc := fun w' (he : Ext wr w') => Hcl.out k hlt w' (hex.trans he)
      have hnx : eside c i (cAt other k) ≤ 0 → ∀ j, j < k + 1 → eside c i (cAt other j) ≤ 0 := fun h j hj => by
        by_cases e : j = k
        · subst e; exact h
        · exact Hall.out j (by omega)
      have hy := fun (h : 0 < eside c i (cAt other k)) => Hyes.out k hlt h Hall.out
      have Hnx := Lib.hid hnx
      have Hy := Lib.hid hy
      clear r0 r1 r2 Hat Hcl hnx hy Hyes Hno Hall
      by_cases hp : 0 < eside c i (cAt other k)
      · have hq := Hy.out hp
        have Hq := Lib.hid hq
        rw [decide_eq_true hp] at hcc
        have Hcc := Lib.hid hcc
        clear hq hcc hp Hnx Hy
        generalize cAt other k = o at *
        go_wp2_with (go_at_call 159; refine (Hcc.out _ (Ext.refl _)).mono ?_; rintro e w5 ⟨rfl, hx5⟩)
        go_ret
        exact ⟨ret_i Hq.out, hex.trans hx5⟩
      · have hq := Hnx.out (by omega)
        have Hq := Lib.hid hq
        rw [decide_eq_false hp] at hcc
        have Hcc := Lib.hid hcc
        clear hq hcc hp Hnx Hy
        generalize cAt other k = o at c0 c1 c2 Hcc
        go_wp2_with (go_at_call 159; refine (Hcc.out _ (Ext.refl _)).mono ?_; rintro e w5 ⟨rfl, hx5⟩)
        go_roundw
        case rel => exact ⟨k + 1, by omega, by go_num, hex.trans hx5, Hq.out⟩
        case measure => simp [intOf]; omega
    · obtain rfl : m = k := by omega
      go_wp2
      go_ret
      exact ⟨ret_i (Hno.out Hall.out), hex⟩
theorem getD_snoc_last {l : List Int} {x : Int} {k : Nat} (h : l.length = k) : (l ++ [x]).getD k 0 = x := by subst h; simp
theorem getD_snoc_lt {l : List Int} {x : Int} {j : Nat} (h : j < l.length) : (l ++ [x]).getD j 0 = l.getD j 0 := by simp [List.getD, List.getElem?_append_left h]
/-- What inside finds. -/
def InsRes (w w' : World) (c other : List Cn) (v : Value) (x : Int) (b : Bool) : Prop :=
  Ext w w' ∧ ((b = false ∧ v = .slice none 0 0 ∧ ∃ i : Nat, x = i ∧ i < c.length ∧ edgeOut c other i) ∨
    (b = true ∧ x = 0 ∧ ∃ ins : List Int, OwnI w w' v ins ∧ ins.length = c.length ∧ ∀ n, n < c.length → inAt c other n (ins.getD n 0)))
set_option maxRecDepth 100000 in
set_option maxHeartbeats 8000000 in
theorem inside_any (Ac : Option Addr) (cc : Nat) (c : List Cn) (Ao : Option Addr) (co : Nat) (other : List Cn) (w : World) (hA : CRow w Ac c) (hO : CRow w Ao other) (hc : CnsOk c) (ho : CnsOk other) :
    Calls Tryz.prog 110 #[.slice Ac c.length cc, .slice Ao other.length co] w fun e w' => ∃ v x b, e = .returned (.tuple #[v, .int .i64 x, .bool b]) ∧ InsRes w w' c other v x b := by
  have hat := fun k (hk : k < c.length) => hA.at_ hk
  have hix := fun (g9 g2 g8 i : Nat) w' (he : Ext w w') (hE : InE w' g9 g2 g8 c c.length i Ac cc) => index_in g9 g2 g8 c c.length i Ac cc Ao co other w' hE hc (hO.ext he) ho
  have hrw := fun w' (he : Ext w w') => hA.ext he
  have hyes := fun i => idxC_yes (c := c) (other := other) (i := i)
  have hno := fun i => idxC_no (c := c) (other := other) (i := i)
  have hn8 := hc.len.2
  obtain ⟨n, hn⟩ : ∃ n, n = c.length := ⟨_, rfl⟩
  have hres : ∀ (w' : World) (v : Value) (x : Int) (b : Bool), (Ext w w' ∧ ((b = false ∧ v = .slice none 0 0 ∧ ∃ i : Nat, x = i ∧ i < n ∧ edgeOut c other i) ∨
    (b = true ∧ x = 0 ∧ ∃ ins : List Int, Own w w' 3 1 v n (ins.map vint) ∧ ins.length = n ∧ ∀ j, j < n → inAt c other j (ins.getD j 0)))) → InsRes w w' c other v x b := fun w' v x b h => by
    refine ⟨h.1, ?_⟩
    rcases h.2 with ⟨h1, h2, i, h3, h4, h5⟩ | ⟨h1, h2, ins, h3, h4, h5⟩
    · exact .inl ⟨h1, h2, i, h3, by omega, h5⟩
    · exact .inr ⟨h1, h2, ins, by show Own w w' _ 1 v ins.length _; rw [h4]; exact h3, by omega, fun j hj => h5 j (by omega)⟩
  rw [← hn] at hat hix hn8 ⊢
  have Hat := Lib.hid hat
  have Hix := Lib.hid hix
  have Hrw := Lib.hid hrw
  have Hyes := Lib.hid hyes
  have Hno := Lib.hid hno
  have Hres := Lib.hid hres
  have Hn := Lib.hid hn
  clear hat hix hrw hyes hno hres hn hA hO hc ho
  generalize other.length = m at *
  have kb : Blk (w.alloc (.cells #[.slice Ac n cc] 134)) w.heap.size [.slice Ac n cc] := Blk.new _ _
  have b0 := kb.at_ 0 rfl
  have hx0 : Ext w (w.alloc (.cells #[.slice Ac n cc] 134)) := (Ext.refl _).alloc _
  go_enter Tryz.func110, Tryz.ntmps110
  go_wp2
  generalize (w.alloc (.cells #[.slice Ac n cc] 134)) = w0 at *
  have B0 := Lib.hid b0
  have Hx0 := Lib.hid hx0
  clear b0 hx0 kb
  go_loopw [13, 7] (fun i v wr => ∃ (k : Nat) (ins : List Int), k ≤ n ∧ i = .int .i64 k ∧ Own w0 wr 3 1 v k (ins.map vint) ∧ ins.length = k ∧ ∀ j, j < k → inAt c other j (ins.getD j 0)) (fun i _ _ => n - (intOf i).toNat)
  case atStart => exact ⟨0, [], by omega, rfl, Own.nil _ _ _, rfl, fun j h => absurd h (by omega)⟩
  case round =>
    obtain ⟨k, ins, hk, rfl, hown, hil, hin⟩ := hrel
    obtain ⟨Av, cv, rfl⟩ := hown.form
    have hex := hown.ext
    have Hin := Lib.hid hin
    clear hin
    by_cases hlt : k < n
    · obtain ⟨ad, rfl, r0, r1, r2⟩ := Hat.out k hlt
      have hxr := Hx0.out.trans hex
      have c0 : ∀ w', Ext wr w' → _ := fun w' he => r0 w' (hxr.trans he)
      have c1 : ∀ w', Ext wr w' → _ := fun w' he => r1 w' (hxr.trans he)
      have c2 : ∀ w', Ext wr w' → _ := fun w' he => r2 w' (hxr.trans he)
      have hx2 : Ext wr ((wr.alloc (.cells #[.int .i64 k] 3)).alloc (.cells #[.int .i64 (cAt c k).at_.x, .int .i64 (cAt c k).at_.y, .int .i64 (cAt c k).d] 137)) := ((Ext.refl _).alloc _).alloc _
      have ka : Blk ((wr.alloc (.cells #[.int .i64 k] 3)).alloc (.cells #[.int .i64 (cAt c k).at_.x, .int .i64 (cAt c k).at_.y, .int .i64 (cAt c k).d] 137)) (wr.heap.size + 1) [.int .i64 (cAt c k).at_.x, .int .i64 (cAt c k).at_.y, .int .i64 (cAt c k).d] := Blk.new' (cs := #[.int .i64 (cAt c k).at_.x, .int .i64 (cAt c k).at_.y, .int .i64 (cAt c k).d]) (by simp)
      have k8 : Blk ((wr.alloc (.cells #[.int .i64 k] 3)).alloc (.cells #[.int .i64 (cAt c k).at_.x, .int .i64 (cAt c k).at_.y, .int .i64 (cAt c k).d] 137)) wr.heap.size [.int .i64 k] := (Blk.new _ _).ext ((Ext.refl _).alloc _)
      have hE : InE ((wr.alloc (.cells #[.int .i64 k] 3)).alloc (.cells #[.int .i64 (cAt c k).at_.x, .int .i64 (cAt c k).at_.y, .int .i64 (cAt c k).d] 137)) (wr.heap.size + 1) w.heap.size wr.heap.size c n k (some ad) cc :=
        ⟨ka.at_ 0 rfl, ka.at_ 1 rfl, ka.at_ 2 rfl, fun w' he => B0.out w' (hex.trans (hx2.trans he)), k8.at_ 0 rfl, Hrw.out _ (hxr.trans hx2), Hn.out.symm, hlt, hn8⟩
      have hix := Hix.out _ _ _ _ _ (hxr.trans hx2) hE
      have q8 := k8.at_ 0 rfl
      have Hix' := Lib.hid hix
      have Hx2 := Lib.hid hx2
      have Hk8 := Lib.hid q8
      have Hown := Lib.hid hown
      have hkn : (k : Int) < (n : Int) := by omega
      have hib := idxC_lt (c := c) (other := other) (i := k)
      have hyes := Hyes.out k
      have hno := Hno.out k
      have Hyes' := Lib.hid hyes
      have Hno' := Lib.hid hno
      have Hhib := Lib.hid hib
      clear r0 r1 r2 hix hE ka k8 hown hyes hno Hyes Hno Hix Hat Hrw hx2 q8 hib
      generalize idxC c other k = X at *
      generalize cAt c k = s at *
      by_cases hX : X < 0
      · have he := Hno'.out hX
        have Hedge := Lib.hid he
        have d1 : decide (X < 0) = true := by simpa using hX
        clear he Hyes' Hno' hX
        go_wp2_with (go_at_call 158; refine Hix'.out.mono ?_; rintro e w5 ⟨rfl, hx5⟩; have p8 : ∀ w', Ext w5 w' → _ := fun w' he => Hk8.out w' (hx5.trans he))
        refine wp_region_calm 4 (fun _ _ _ _ => True) (fun _ _ _ _ _ _ h => h) (by kernel_rfl) (by kernel_rfl) ?_
        simp only [List.take_succ_cons, List.take_zero, List.drop_succ_cons, List.drop_zero]
        refine calm_quiet calm_mono_final 4 (by kernel_rfl) ?_
        simp only [List.take_succ_cons, List.take_zero, List.drop_succ_cons, List.drop_zero]
        repeat (go_big_quiet_step (fail))
        refine wpQuiet_nil ?_
        refine calm_nil fun w3 he3 _ => ?_
        go_wp2
        go_ret3
        refine ⟨_, _, _, rfl, Hres.out _ _ _ _ ⟨((hxr.trans Hx2.out).trans hx5).trans he3, .inl ⟨rfl, rfl, k, rfl, hlt, Hedge.out⟩⟩⟩
      · have he := Hyes'.out (by omega)
        have Hin2 := Lib.hid he
        have d1 : decide (X < 0) = false := by simpa using hX
        clear he Hyes' Hno' hX
        go_wp2_with (first
          | (go_at_call 158; refine Hix'.out.mono ?_; rintro e w5 ⟨rfl, hx5⟩; have ho5 := (Hown.out.later Hx2.out).later hx5)
          | (at_builtin; refine own_append_int (w1 := w0) rfl _ _ rfl _ k _ rfl ho5 X rfl (by omega) ?_; intro v' w7 h7))
        go_roundw
        case rel =>
          refine ⟨k + 1, ins ++ [X], by omega, by go_num, by simpa using h7, by simp [hil], fun j hj => ?_⟩
          by_cases e : j = k
          · subst e
            rw [getD_snoc_last hil]
            exact Hin2.out
          · rw [getD_snoc_lt (by omega)]
            exact Hin.out j (by omega)
        case measure => simp [intOf]; omega
    · obtain rfl : n = k := by omega
      have Hown := Lib.hid hown
      clear hown Hat Hix Hrw Hyes Hno
      go_wp2
      go_ret3
      exact ⟨_, _, _, rfl, Hres.out _ _ _ _ ⟨Hx0.out.trans hex, .inr ⟨rfl, rfl, ins, Hown.out.since Hx0.out, hil, Hin.out⟩⟩⟩
end Go.Proofs.YtebkhdhhajjhfaaGreat

/- Panels that clash: by the reference. -/
namespace Go.Proofs.YtebkhdhhajjhfaaGreat
open Go.RowKit
end Go.Proofs.YtebkhdhhajjhfaaGreat
