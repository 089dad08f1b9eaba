/- The law HingeQuarter. -/
import Derived.Test.YteilglljigjefaaJ31
import Derived.Test.YteilglljigjefaaJQn
import Derived.Test.YteilglljigjefaaJQs
import Derived.Test.YteilglljigjefaaJ32
import Derived.Test.YteilglljigjefaaJ19
namespace Go.Proofs.Yteilglljigjefaa
open Go.RowKit
/-- The world while a hinge is turned. -/
def QWd (wr : World) (g k : Nat) (qx qy rx ry : Int) (L : Nat → Bool) (w' : World) : Prop := (L 24 = false → Ext wr w') ∧ (L 24 = true → L 27 = false → ∃ w0, Ext wr w0 ∧ w' = (w0.setCell ⟨g, k * 5, none⟩ (vint qx)).setCell ⟨g, k * 5 + 1, none⟩ (vint qy)) ∧
  (L 27 = true → ∃ w0, Ext wr w0 ∧ w' = (((w0.setCell ⟨g, k * 5, none⟩ (vint qx)).setCell ⟨g, k * 5 + 1, none⟩ (vint qy)).setCell ⟨g, k * 5 + 2, none⟩ (vint rx)).setCell ⟨g, k * 5 + 3, none⟩ (vint ry))
theorem QWd.same {wr w' : World} {g k : Nat} {qx qy rx ry : Int} {L : Nat → Bool} {i : Nat} (h : QWd wr g k qx qy rx ry L w') (h1 : (24 == i) = false) (h2 : (27 == i) = false) : QWd wr g k qx qy rx ry (fun j => L j || j == i) w' := by
  unfold QWd at *
  simp only [h1, h2, Bool.or_false]
  exact h
theorem QWd.early {wr w' : World} {g k : Nat} {qx qy rx ry : Int} {L : Nat → Bool} {i : Nat} (h27 : L 27 = false) (h24 : L 24 = false) (h1 : (24 == i) = false) (h2 : (27 == i) = false) (hx : Ext wr w') : QWd wr g k qx qy rx ry (fun j => L j || j == i) w' := by
  unfold QWd
  simp only [h1, h2, Bool.or_false, h24, h27]
  exact ⟨fun _ => hx, fun h => (by cases h), fun h => (by cases h)⟩
theorem QWd.a {wr w : World} {g k : Nat} {qx qy rx ry : Int} {L : Nat → Bool} (h27 : L 27 = false) (hx : Ext wr w) : QWd wr g k qx qy rx ry (fun j => L j || j == 24) ((w.setCell ⟨g, k * 5, none⟩ (vint qx)).setCell ⟨g, k * 5 + 1, none⟩ (vint qy)) := by
  unfold QWd
  simp only [h27]
  exact ⟨fun h => by simp at h, fun _ _ => ⟨w, hx, rfl⟩, fun h => by simp at h⟩
theorem QWd.b {wr w : World} {g k : Nat} {qx qy rx ry : Int} {L : Nat → Bool} (h24 : L 24 = true) (hx : Ext wr w) : QWd wr g k qx qy rx ry (fun j => L j || j == 27) ((((w.setCell ⟨g, k * 5, none⟩ (vint qx)).setCell ⟨g, k * 5 + 1, none⟩ (vint qy)).setCell ⟨g, k * 5 + 2, none⟩ (vint rx)).setCell ⟨g, k * 5 + 3, none⟩ (vint ry)) := by
  unfold QWd
  simp only [h24]
  exact ⟨fun h => by simp at h, fun _ h => by simp at h, fun _ => ⟨w, hx, rfl⟩⟩
set_option maxRecDepth 100000 in
set_option maxHeartbeats 8000000 in
theorem quarter_law_out (A : Option Addr) (c : Nat) (ps : List (List Sp)) (B : Option Addr) (d : Nat) (hs : List Hg) (x : Int) (w : World) (hA : PnRow w A ps) (hg : greatP ps hs) :
    Calls Try.prog 15 #[.agg #[.slice A ps.length c, .slice B hs.length d], .int .i64 x] w fun e w' => e = .returned (.bool true) ∧ Ext w w' := by
  have hgr := fun w' (he : Ext w w') => great_any A c ps B d hs w' (hA.ext he)
  rw [← greatB_yes hg] at hgr
  have Hgr := Lib.hid hgr
  clear hgr hA hg
  generalize ps.length = np at *
  generalize hs.length = nh at *
  have kl : Blk (w.alloc (.cells #[.slice A np c, .slice B nh d] 25)) w.heap.size [.slice A np c, .slice B nh d] := (Blk.new _ _)
  have l0 := kl.at_ 0 rfl
  have l1 := kl.at_ 1 rfl
  have hx0 : Ext w (w.alloc (.cells #[.slice A np c, .slice B nh d] 25)) := ((Ext.refl _).alloc _)
  have Hx0 := Lib.hid hx0
  have hb0 : Ext (w.alloc (.cells #[.slice A np c, .slice B nh d] 25)) (w.alloc (.cells #[.slice A np c, .slice B nh d] 25)) := Ext.refl _
  clear kl hx0
  go_enter Try.func15, Try.ntmps15
  go_wp2_with (first
    | (go_at_call 17; refine (Hgr.out _ (Hx0.out.trans hb1)).mono ?_; rintro e w2 ⟨rfl, hx2⟩; have hb2 := hb1.trans hx2; clear hb1 hx2)
    | (go_at_call 46; refine (alive_any _).mono ?_; rintro e w1 ⟨rfl, hx1⟩; have hb1 := hb0.trans hx1; clear hb0 hx1))
  go_ret
  exact ⟨rfl, Hx0.out.trans hb2⟩
set_option maxRecDepth 100000 in
set_option maxHeartbeats 8000000 in
theorem quarter_law_bad (A : Option Addr) (c : Nat) (ps : List (List Sp)) (B : Option Addr) (d : Nat) (hs : List Hg) (x : Int) (w : World) (hA : PnRow w A ps) (hB : HRow w B hs) (hg : ¬ greatP ps hs) (hl : ¬ linkP ps hs) :
    Calls Try.prog 15 #[.agg #[.slice A ps.length c, .slice B hs.length d], .int .i64 x] w fun e w' => e = .returned (.bool true) ∧ Ext w w' := by
  have hL := lk_of hA hB hg
  have hgr := fun w' (he : Ext w w') => great_any A c ps B d hs w' (hA.ext he)
  rw [← greatB_no hg] at hgr
  have hck := fun w' (he : Ext w w') => (hL.ext he).check c d
  rw [← checkE_bad hl] at hck
  have Hgr := Lib.hid hgr
  have Hck := Lib.hid hck
  clear hgr hck hL hA hB hg hl
  generalize ps.length = np at *
  generalize hs.length = nh at *
  have kl : Blk (w.alloc (.cells #[.slice A np c, .slice B nh d] 25)) w.heap.size [.slice A np c, .slice B nh d] := (Blk.new _ _)
  have l0 := kl.at_ 0 rfl
  have l1 := kl.at_ 1 rfl
  have hx0 : Ext w (w.alloc (.cells #[.slice A np c, .slice B nh d] 25)) := ((Ext.refl _).alloc _)
  have Hx0 := Lib.hid hx0
  have hb0 : Ext (w.alloc (.cells #[.slice A np c, .slice B nh d] 25)) (w.alloc (.cells #[.slice A np c, .slice B nh d] 25)) := Ext.refl _
  clear kl hx0
  go_enter Try.func15, Try.ntmps15
  go_wp2_with (first
    | (go_at_call 30; refine (Hck.out _ (Hx0.out.trans hb2)).mono ?_; rintro e w3 ⟨rfl, hx3⟩; have hb3 := hb2.trans hx3; clear hb2 hx3)
    | (go_at_call 17; refine (Hgr.out _ (Hx0.out.trans hb1)).mono ?_; rintro e w2 ⟨rfl, hx2⟩; have hb2 := hb1.trans hx2; clear hb1 hx2)
    | (go_at_call 46; refine (alive_any _).mono ?_; rintro e w1 ⟨rfl, hx1⟩; have hb1 := hb0.trans hx1; clear hb0 hx1))
  go_ret
  exact ⟨rfl, Hx0.out.trans hb3⟩
set_option maxRecDepth 100000 in
set_option maxHeartbeats 32000000 in
theorem quarter_law_in (A : Option Addr) (c : Nat) (ps : List (List Sp)) (B : Option Addr) (d : Nat) (hs : List Hg) (x : Int) (w : World) (hA : PnRow w A ps) (hB : HRow w B hs) (hg : ¬ greatP ps hs) (hl : linkP ps hs) :
    Calls Try.prog 15 #[.agg #[.slice A ps.length c, .slice B hs.length d], .int .i64 x] w fun e w' => e = .returned (.bool true) ∧ Ext w w' := by
  have hL := lk_of hA hB hg
  have hgr := fun w' (he : Ext w w') => great_any A c ps B d hs w' (hA.ext he)
  rw [← greatB_no hg] at hgr
  have hck := fun w' (he : Ext w w') => (hL.ext he).check c d
  rw [← checkE_good hl] at hck
  have htw := fun w' (he : Ext w w') => twin_any A c ps B d hs w' (hL.ext he)
  have hspot := fun (i : Nat) (hi : i < ps.length) (j : Nat) (hj : j < (pnA ps i).length) (w1 w' : World) (A1 : Option Addr) (c1 : Nat) (B1 : Option Addr) (d1 : Nat) (vs : List Value) (h : TwinOk w1 w' A1 c1 B1 d1 vs ((qP ps i).set i (tq (pnA ps i) j)) hs) => (show ∃ gP gS cap, A1 = some ⟨gP, 0, none⟩ ∧ w'.cell? ⟨gP, i, none⟩ = some (.slice (some ⟨gS, 0, none⟩) (pnA ps i).length cap) ∧ w1.heap.size ≤ gS ∧ gS < w'.heap.size ∧
      w'.cell? ⟨gS, j * 2, none⟩ = some (vint (ptA (pnA ps i) j).x) ∧ w'.cell? ⟨gS, j * 2 + 1, none⟩ = some (vint (ptA (pnA ps i) j).y) ∧ (∀ k, w'.frozen? ⟨gS, k, none⟩ = false) ∧ (∀ g cs, Whole w' g cs 25 → g ≠ gS) ∧
      ∀ w2, Ext w' w2 → TwinOk w1 ((w2.setCell ⟨gS, j * 2, none⟩ (vint (qtr (ptA (pnA ps i) j)).x)).setCell ⟨gS, j * 2 + 1, none⟩ (vint (qtr (ptA (pnA ps i) j)).y)) A1 c1 B1 d1 vs ((qP ps i).set i (tq (pnA ps i) (j + 1))) hs from by
    have hlq := qP_len (ps := ps) (i := i) (by omega)
    obtain ⟨gP, gS, cap, k1, k2, k3, k4, k5, k6, k7, k9, k8⟩ := h.spot2 (i := i) (j := j) (by rw [List.length_set]; omega) (by rw [pnA_set (by omega), tq_len (by omega)]; exact hj)
    rw [pnA_set (by omega), tq_len (by omega)] at k2
    rw [pnA_set (by omega), tq_at hj] at k5 k6
    refine ⟨gP, gS, cap, k1, k2, k3, k4, k5, k6, k7, k9, fun w2 he => ?_⟩
    have := k8 w2 he (qtr (ptA (pnA ps i) j))
    rw [pnA_set (by omega), tq_step hj, List.set_set] at this
    exact this)
  have hF0 := fun (i : Nat) (hi : i < ps.length) => (show (qP ps i).set i (tq (pnA ps i) 0) = qP ps i by rw [tq_zero, qP_self hi])
  have hFe := fun (i : Nat) (hi : i < ps.length) => (show (qP ps i).set i (tq (pnA ps i) (pnA ps i).length) = qP ps (i + 1) by rw [tq_all, qP_step hi])
  have hG0 := qP_zero ps
  have hGe := qP_all ps
  have hpos := fun (i : Nat) (hi : i < ps.length) => (show 0 < (pnA ps i).length ∧ (pnA ps i).length ≤ 8 from by
    have := (show panelP (pnA ps i) by rw [pnA_at hi]; exact hl.2.2.1 _ (List.getElem_mem hi)).1
    omega)
  have hqq := fun (i : Nat) (hi : i < ps.length) (j : Nat) (hj : j < (pnA ps i).length) w' => quarter_any (ptA (pnA ps i) j) ((show panelP (pnA ps i) by rw [pnA_at hi]; exact hl.2.2.1 _ (List.getElem_mem hi)).spot hj) w'
  have hh4 := fun (k : Nat) (hk : k < hs.length) (w1 w' : World) (A1 : Option Addr) (c1 : Nat) (B1 : Option Addr) (d1 : Nat) (vs : List Value) (h : TwinOk w1 w' A1 c1 B1 d1 vs (qtrPs ps) (qH hs k)) => (show ∃ g, B1 = some ⟨g, 0, none⟩ ∧ w1.heap.size ≤ g ∧ g < w'.heap.size ∧ w'.cell? ⟨g, k * 5, none⟩ = some (vint (hgA hs k).a.x) ∧ w'.cell? ⟨g, k * 5 + 1, none⟩ = some (vint (hgA hs k).a.y) ∧ w'.cell? ⟨g, k * 5 + 2, none⟩ = some (vint (hgA hs k).b.x) ∧ w'.cell? ⟨g, k * 5 + 3, none⟩ = some (vint (hgA hs k).b.y) ∧ (∀ j, w'.frozen? ⟨g, j, none⟩ = false) ∧
      ∀ w2, Ext w' w2 → TwinOk w1 ((((w2.setCell ⟨g, k * 5, none⟩ (vint (qtr (hgA hs k).a).x)).setCell ⟨g, k * 5 + 1, none⟩ (vint (qtr (hgA hs k).a).y)).setCell ⟨g, k * 5 + 2, none⟩ (vint (qtr (hgA hs k).b).x)).setCell ⟨g, k * 5 + 3, none⟩ (vint (qtr (hgA hs k).b).y)) A1 c1 B1 d1 vs (qtrPs ps) (qH hs (k + 1)) from by
    have hlq := qH_len (hs := hs) (k := k) (by omega)
    obtain ⟨g, k1, k2, k3, k4, k5, k6, k7, k8, k9⟩ := h.hinge4 (k := k) (by omega)
    rw [qH_at hk] at k4 k5 k6 k7 k9
    refine ⟨g, k1, k2, k3, k4, k5, k6, k7, k8, fun w2 he => ?_⟩
    have := k9 w2 he (qtr (hgA hs k).a) (qtr (hgA hs k).b)
    rw [qH_step hk] at this
    exact this)
  have hqh := fun (k : Nat) (hk : k < hs.length) => (show (∀ w', Calls Try.prog 50 #[(hgA hs k).a.val] w' fun e w'' => e = .returned (qtr (hgA hs k).a).val ∧ Ext w' w'') ∧ ∀ w', Calls Try.prog 50 #[(hgA hs k).b.val] w' fun e w'' => e = .returned (qtr (hgA hs k).b).val ∧ Ext w' w'' from by
    have hb := (show hingeB (hgA hs k) by rw [hgA_at hk]; exact hl.hinges _ (List.getElem_mem hk))
    exact ⟨fun w' => quarter_any _ hb.1 w', fun w' => quarter_any _ hb.2.1 w'⟩)
  have hlq := linkP_qtr hl
  have hnpq : (qtrPs ps).length = ps.length := by simp
  have hnhq : (qtrHs hs).length = hs.length := by simp
  have hpq : ∀ k, k < (qtrPs ps).length → (pnA (qtrPs ps) k).length ≤ 1000 := fun k hk => by
    rw [pnA_qtr, List.length_map]
    exact hL.hp k (by rw [← hnpq]; exact hk)
  have hLq := fun (w1 w' : World) (A1 : Option Addr) (c1 : Nat) (B1 : Option Addr) (d1 : Nat) (vs : List Value) (h : TwinOk w1 w' A1 c1 B1 d1 vs (qtrPs ps) (qtrHs hs)) => (show Lk w' A1 (qtrPs ps) B1 (qtrHs hs) from ⟨h.pans.row h.pown, OwnH.row h.hown, by rw [hnpq]; exact hL.np, by rw [hnhq]; exact hL.nh, hpq⟩)
  have hc1 := fun w' (he : Ext w w') => (clashes_all A c ps B d hs w' (hL.ext he)).mono (R' := fun e w'' => ∃ X x, e = .returned (.tuple #[.slice X (pairsR ps hs).length x, .int .i64 0]) ∧ QRow w'' X (pairsR ps hs) ∧ Ext w' w'') fun e w'' ⟨v, he, ho⟩ => by
    rw [← checkE_good hl] at he
    obtain ⟨X, x, rfl⟩ := ho.form
    exact ⟨X, x, he, ho.row, ho.ext⟩
  have hc2 := fun (w1 w' : World) (A1 : Option Addr) (c1 : Nat) (B1 : Option Addr) (d1 : Nat) (vs : List Value) (h : TwinOk w1 w' A1 c1 B1 d1 vs (qtrPs ps) (qtrHs hs)) (w2 : World) (h2 : Ext w' w2) => (show Calls Try.prog 39 #[.agg #[.slice A1 ps.length c1, .slice B1 hs.length d1]] w2 fun e w'' => ∃ X x, e = .returned (.tuple #[.slice X (pairsR ps hs).length x, .int .i64 0]) ∧ QRow w'' X (pairsR ps hs) ∧ Ext w2 w'' from by
    have hk := (clashes_all A1 c1 (qtrPs ps) B1 d1 (qtrHs hs) w2 ((hLq _ _ _ _ _ _ _ h).ext h2)).mono (R' := fun e w'' => ∃ X x, e = .returned (.tuple #[.slice X (pairsR ps hs).length x, .int .i64 0]) ∧ QRow w'' X (pairsR ps hs) ∧ Ext w2 w'') fun e w'' ⟨v, he, ho⟩ => by
      rw [← checkE_good hlq] at he
      rw [pairs_qtr hl] at ho
      obtain ⟨X, x, rfl⟩ := ho.form
      exact ⟨X, x, he, ho.row, ho.ext⟩
    rw [hnpq, hnhq] at hk
    exact hk)
  have hs1 := fun w' (he : Ext w w') => (swings_any A c ps B d hs x w' (hL.ext he)).mono (R' := fun e w'' => ∃ X y, e = .returned (.tuple #[.slice X (swR ps hs x).length y, .int .i64 (swE ps hs x)]) ∧ Ints w'' X (swR ps hs x) ∧ Ext w' w'') fun e w'' ⟨v, he, ho⟩ => by obtain ⟨X, y, rfl⟩ := ho.form; exact ⟨X, y, he, OwnI.ints ho, ho.ext⟩
  have hs2 := fun (w1 w' : World) (A1 : Option Addr) (c1 : Nat) (B1 : Option Addr) (d1 : Nat) (vs : List Value) (h : TwinOk w1 w' A1 c1 B1 d1 vs (qtrPs ps) (qtrHs hs)) (w2 : World) (h2 : Ext w' w2) => (show Calls Try.prog 37 #[.agg #[.slice A1 ps.length c1, .slice B1 hs.length d1], .int .i64 x] w2 fun e w'' => ∃ X y, e = .returned (.tuple #[.slice X (swR ps hs x).length y, .int .i64 (swE ps hs x)]) ∧ Ints w'' X (swR ps hs x) ∧ Ext w2 w'' from by
    have hk := (swings_any A1 c1 (qtrPs ps) B1 d1 (qtrHs hs) x w2 ((hLq _ _ _ _ _ _ _ h).ext h2)).mono (R' := fun e w'' => ∃ X y, e = .returned (.tuple #[.slice X (swR ps hs x).length y, .int .i64 (swE ps hs x)]) ∧ Ints w'' X (swR ps hs x) ∧ Ext w2 w'') fun e w'' ⟨v, he, ho⟩ => by
      rw [(sw_qtr hl x).1] at he
      rw [(sw_qtr hl x).2] at ho
      obtain ⟨X, y, rfl⟩ := ho.form
      exact ⟨X, y, he, OwnI.ints ho, ho.ext⟩
    rw [hnpq, hnhq] at hk
    exact hk)
  have hpl : (pairsR ps hs).length ≤ 1000000 := by
    unfold pairsR
    split
    · have h4 := hl.1.2
      exact Nat.le_trans (refC_len _ _ _) (Nat.le_trans (Nat.mul_le_mul h4 h4) (by omega))
    · simp
  have hsp := fun (X Y : Option Addr) (x y : Nat) (w' : World) (hX : QRow w' X (pairsR ps hs)) (hY : QRow w' Y (pairsR ps hs)) => same_pairs X Y x y (pairsR ps hs) w' hX hY hpl
  have hsi := fun (X Y : Option Addr) (c d : Nat) (w' : World) (hX : Ints w' X (swR ps hs x)) (hY : Ints w' Y (swR ps hs x)) => same_ints X Y c d (swR ps hs x) w' hX hY (by have := swR_len ps hs x; omega)
  have hHe := qH_all hs
  have Hc1 := Lib.hid hc1
  have Hc2 := Lib.hid hc2
  have Hs1 := Lib.hid hs1
  have Hs2 := Lib.hid hs2
  have Hsp := Lib.hid hsp
  have Hsi := Lib.hid hsi
  have HHe := Lib.hid hHe
  clear hlq hnpq hnhq hpq hLq hc1 hc2 hs1 hs2 hpl hsp hsi hHe
  generalize swE ps hs x = E at *
  generalize swR ps hs x = SR at *
  generalize pairsR ps hs = PR at *
  generalize SR.length = sn at *
  generalize PR.length = pn at *
  have Hh4 := Lib.hid hh4
  have Hqh := Lib.hid hqh
  clear hh4 hqh
  have hnp := hL.np
  have hnh := hl.nh
  have Hgr := Lib.hid hgr
  have Hck := Lib.hid hck
  have Htw := Lib.hid htw
  have Hspot := Lib.hid hspot
  have HF0 := Lib.hid hF0
  have HFe := Lib.hid hFe
  have HG0 := Lib.hid hG0
  have HGe := Lib.hid hGe
  have Hpos := Lib.hid hpos
  have Hqq := Lib.hid hqq
  clear hgr hck htw hspot hF0 hFe hG0 hGe hpos hqq hL hA hB hg
  generalize ps.length = np at *
  generalize hs.length = nh at *
  have kl : Blk (w.alloc (.cells #[.slice A np c, .slice B nh d] 25)) w.heap.size [.slice A np c, .slice B nh d] := (Blk.new _ _)
  have l0 := kl.at_ 0 rfl
  have l1 := kl.at_ 1 rfl
  have hx0 : Ext w (w.alloc (.cells #[.slice A np c, .slice B nh d] 25)) := ((Ext.refl _).alloc _)
  have Hx0 := Lib.hid hx0
  have hb0 : Ext (w.alloc (.cells #[.slice A np c, .slice B nh d] 25)) (w.alloc (.cells #[.slice A np c, .slice B nh d] 25)) := Ext.refl _
  clear kl hx0
  go_enter Try.func15, Try.ntmps15
  go_wp2_with (first
    | (go_at_call 18; refine (Htw.out _ (Hx0.out.trans hb3)).mono ?_; rintro e w6 ⟨A1, c1, B1, d1, vs, rfl, hT, hx6⟩; have hb6 := hb3.trans hx6; have HT := Lib.hid hT; clear hT)
    | (go_at_call 30; refine (Hck.out _ (Hx0.out.trans hb2)).mono ?_; rintro e w3 ⟨rfl, hx3⟩; have hb3 := hb2.trans hx3; clear hb2 hx3)
    | (go_at_call 17; refine (Hgr.out _ (Hx0.out.trans hb1)).mono ?_; rintro e w2 ⟨rfl, hx2⟩; have hb2 := hb1.trans hx2; clear hb1 hx2)
    | (go_at_call 46; refine (alive_any _).mono ?_; rintro e w1 ⟨rfl, hx1⟩; have hb1 := hb0.trans hx1; clear hb0 hx1))
  have hT0 : TwinOk w3 (w6.alloc (.cells #[.slice A1 np c1, .slice B1 nh d1] 25)) A1 c1 B1 d1 vs (qP ps 0) hs := by
    rw [HG0.out]
    exact HT.out.later ((Ext.refl _).alloc _)
  have hW0 : Whole (w6.alloc (.cells #[.slice A1 np c1, .slice B1 nh d1] 25)) w6.heap.size #[.slice A1 np c1, .slice B1 nh d1] 25 := Whole.new rfl
  have Hb3 := Lib.hid hb3
  clear hb3 hb6 hx6 HT HG0 Hgr Hck Htw
  go_loopw [33] (fun i wr => ∃ k : Nat, k ≤ np ∧ i = .int .i64 k ∧ TwinOk w3 wr A1 c1 B1 d1 vs (qP ps k) hs ∧ Whole wr w6.heap.size #[.slice A1 np c1, .slice B1 nh d1] 25) (fun i _ => np - (intOf i).toNat)
  case atStart => exact ⟨0, by omega, rfl, hT0, hW0⟩
  case round =>
    clear hT0 hW0
    obtain ⟨i, hi, rfl, hTi, hWi⟩ := hrel
    obtain ⟨wo, rfl⟩ : ∃ wo : World, wo = wr := ⟨_, rfl⟩
    by_cases hlt : i < np
    · have hii : (i : Int) < (np : Int) := by omega
      have hTF := hTi
      rw [← HF0.out i hlt] at hTF
      obtain ⟨hp0, hp8⟩ := Hpos.out i hlt
      obtain ⟨gP, gS0, cap0, rfl, cP, _⟩ := Hspot.out i hlt 0 hp0 _ _ _ _ _ _ _ hTF
      have kb := hWi.blk
      have o0 := kb.at_ 0 rfl
      have o1 := kb.at_ 1 rfl
      have Hsp := Lib.hid (fun j hj => Hspot.out i hlt j hj)
      have HFe' := Lib.hid (HFe.out i hlt)
      have Hq' := Lib.hid (fun j hj => Hqq.out i hlt j hj)
      have HTF := Lib.hid hTF
      have HWi := Lib.hid hWi
      clear hTF hTi hWi kb hp0
      generalize hln : (pnA ps i).length = ln at *
      have Hln := Lib.hid hln
      clear hln
      go_wp2
      have hT0 := HTF.out
      have hW0 := HWi.out
      go_loopw [42] (fun i' wr => ∃ j : Nat, j ≤ ln ∧ i' = .int .i64 j ∧ TwinOk w3 wr (some ⟨gP, 0, none⟩) c1 B1 d1 vs ((qP ps i).set i (tq (pnA ps i) j)) hs ∧ Whole wr w6.heap.size #[.slice (some ⟨gP, 0, none⟩) np c1, .slice B1 nh d1] 25) (fun i' _ => ln - (intOf i').toNat)
      case atStart => exact ⟨0, by omega, rfl, hT0, hW0⟩
      case round =>
        clear hT0 hW0
        obtain ⟨j, hj, rfl, hTj, hWj⟩ := hrel
        by_cases hjl : j < ln
        · have hji : (j : Int) < (ln : Int) := by omega
          obtain ⟨gP', gS, cap, eP, cS, k3, k4, q0, q1, hf0, hne, hset⟩ := Hsp.out j hjl _ _ _ _ _ _ _ hTj
          cases eP
          have hn := hne _ _ hWj
          have kb := hWj.blk
          have o0 := kb.at_ 0 rfl
          have o1 := kb.at_ 1 rfl
          have c0 : ∀ w', Ext wr w' → _ := fun w' he => he.cell cS
          have c1' : ∀ w', Ext wr w' → _ := fun w' he => he.cell q0
          have c2' : ∀ w', Ext wr w' → _ := fun w' he => he.cell q1
          have Hq := Lib.hid (Hq'.out j hjl)
          have HW := Lib.hid hWj
          have Hset := Lib.hid hset
          have Hf0 := Lib.hid hf0
          have Hk4 := Lib.hid k4
          have Hq0 := Lib.hid q0
          have Hq1 := Lib.hid q1
          have Hn := Lib.hid hn
          clear hTj hWj hset hf0 hne hn kb cS q0 q1 k3 k4
          generalize ptA (pnA ps i) j = sp at *
          generalize hqs : qtr sp = sq at *
          have Hqs := Lib.hid hqs
          clear hqs
          obtain ⟨sx, sy⟩ := sp
          obtain ⟨qx, qy⟩ := sq
          simp only [Sp.val] at Hq c1' c2' Hset Hq0 Hq1
          go_wp2
          refine Cg.wp_region_calm (p := Cg.extPre) (fr := (fun _ => false)) 16 (fun _ _ v _ => v = .agg #[vint qx, vint qy]) (fun _ _ _ _ _ _ h => h) (by kernel_rfl) (by kernel_rfl) ?_
          simp only [List.take_succ_cons, List.take_zero, List.drop_succ_cons, List.drop_zero]
          refine Cg.calm_quiet Cg.calm_mono_final wr (fun _ h => h) 15 (by kernel_rfl) ?_
          simp only [List.take_succ_cons, List.take_zero, List.drop_succ_cons, List.drop_zero]
          repeat (go_big_quiet_step (fail))
          refine wpQuiet_nil ?_
          refine Cg.calm_call Cg.calm_mono_final 50 #[.agg #[vint sx, vint sy]] rfl (fun w => ?_) (fun w he hF => ?_) ?_
          · go_simp
          · exact (Hq.out w).mono fun e w'' ⟨he', hx⟩ => ⟨_, he', hx, rfl, fun h => by cases h⟩
          rintro _ _ _ rfl _
          simp only [Act.put, List.setIfInBounds_toArray, List.set_cons_succ, List.set_cons_zero]
          refine Cg.calm_nil fun w7 he7 _ => ?_
          have he7 : Ext wr w7 := he7
          have c7 := he7.cell Hq0.out
          have c8 := he7.cell Hq1.out
          have f7 := (he7.frozen Hk4.out).trans (Hf0.out (j * 2))
          have f8 := (he7.frozen Hk4.out).trans (Hf0.out (j * 2 + 1))
          have HR := Lib.hid (And.intro (Hset.out w7 he7) (((HW.out.ext he7).farCell Hn.out (j * 2) (vint qx)).farCell Hn.out (j * 2 + 1) (vint qy)))
          clear o0 o1 c0 c1' c2' Hset HW Hq Hf0 Hq0 Hq1 Hk4
          go_wp2
          go_roundw
          case rel => exact ⟨j + 1, by omega, by go_num, HR.out.1, HR.out.2⟩
          case measure => simp [intOf]; omega
        · obtain rfl : ln = j := by omega
          have hTe := hTj
          rw [HFe'.out] at hTe
          have HR := Lib.hid (And.intro hTe hWj)
          clear hTj hWj hTe
          go_wp2
          go_roundw
          case rel => exact ⟨i + 1, by omega, by go_num, HR.out.1, HR.out.2⟩
          case measure => simp [intOf]; omega
    · obtain rfl : np = i := by omega
      have hTe := hTi
      rw [HGe.out] at hTe
      have hTe0 : TwinOk w3 wo A1 c1 B1 d1 vs (qtrPs ps) (qH hs 0) := by rw [qH_zero]; exact hTe
      have kb := hWi.blk
      have o0 := kb.at_ 0 rfl
      have o1 := kb.at_ 1 rfl
      clear hTi hTe Hspot HF0 HFe HGe Hpos Hqq kb
      go_wp2
      go_loopw [67] (fun i wr => ∃ k : Nat, k ≤ nh ∧ i = .int .i64 k ∧ TwinOk w3 wr A1 c1 B1 d1 vs (qtrPs ps) (qH hs k) ∧ Whole wr w6.heap.size #[.slice A1 np c1, .slice B1 nh d1] 25) (fun i _ => nh - (intOf i).toNat)
      case atStart => exact ⟨0, by omega, rfl, hTe0, hWi⟩
      case round =>
        clear hTe0 hWi o0 o1
        obtain ⟨k, hk, rfl, hTk, hWk⟩ := hrel
        by_cases hkl : k < nh
        · have hki : (k : Int) < (nh : Int) := by omega
          obtain ⟨g, rfl, hg1, hg2, q0, q1, q2, q3, hf, hset⟩ := Hh4.out k hkl _ _ _ _ _ _ _ hTk
          have hne : w6.heap.size ≠ g := fun e => hTk.hown.ne_whole hWk (by decide) (by rw [e]; rfl)
          obtain ⟨hqa, hqb⟩ := Hqh.out k hkl
          have kb := hWk.blk
          have o0 := kb.at_ 0 rfl
          have o1 := kb.at_ 1 rfl
          have Hqa := Lib.hid hqa
          have Hqb := Lib.hid hqb
          have Hset := Lib.hid hset
          have HW := Lib.hid hWk
          have Hne := Lib.hid hne
          have Hg2 := Lib.hid hg2
          have Hf := Lib.hid hf
          clear hTk hWk hqa hqb hset hne kb hf hg2 hg1
          generalize (hgA hs k).a = sa at *
          generalize (hgA hs k).b = sb at *
          generalize hqs : qtr sa = qa at *
          generalize hqt : qtr sb = qb at *
          clear hqs hqt
          obtain ⟨sx, sy⟩ := sa
          obtain ⟨tx, ty⟩ := sb
          obtain ⟨qx, qy⟩ := qa
          obtain ⟨rx, ry⟩ := qb
          simp only [Sp.val] at Hqa Hqb q0 q1 q2 q3 Hset
          go_wp2
          refine DetR.wp_region_each (fun j => ([(.pointer (some ⟨w6.heap.size, 1, none⟩)), (.slice (some ⟨g, 0, none⟩) nh d1), (.int .i64 (k : Int)), (.pointer (some ⟨w6.heap.size, 1, none⟩)), (.slice (some ⟨g, 0, none⟩) nh d1), (.int .i64 (k : Int)), (.func (.func 50) #[] #[]), (.pointer (some ⟨w6.heap.size, 1, none⟩)), (.slice (some ⟨g, 0, none⟩) nh d1), (.int .i64 (k : Int)), (.pointer (some ⟨g, k * 5, none⟩)), (.pointer (some ⟨g, k * 5, none⟩)), (.agg #[vint sx, vint sy]), (.agg #[vint qx, vint qy]), (.func (.func 50) #[] #[]), (.pointer (some ⟨w6.heap.size, 1, none⟩)), (.slice (some ⟨g, 0, none⟩) nh d1), (.int .i64 (k : Int)), (.pointer (some ⟨g, k * 5, none⟩)), (.pointer (some ⟨g, k * 5 + 2, none⟩)), (.agg #[vint tx, vint ty]), (.agg #[vint rx, vint ry]), (.pointer (some ⟨g, k * 5, none⟩)), (.pointer (some ⟨g, k * 5, none⟩)), undef, (.pointer (some ⟨g, k * 5, none⟩)), (.pointer (some ⟨g, k * 5 + 2, none⟩)), undef] : List Value).getD j undef) (QWd wr g k qx qy rx ry) (by kernel_rfl) (by kernel_rfl) ?_ ?_ ?_
          · exact ⟨fun _ => (Ext.refl wr).drawn _, fun h => (by cases h), fun h => (by cases h)⟩
          · refine ⟨?_, ?_, ?_, ?_, ?_, ?_, ?_, ?_, ?_, ?_, ?_, ?_, ?_, ?_, ?_, ?_, ?_, ?_, ?_, ?_, ?_, ?_, ?_, ?_, ?_, ?_, ?_, ?_, trivial⟩
            · intro L a w hi hcl hdep hat hw
              have h24 : L 24 = false := DetR.not_yet hcl 8 24 0 (by kernel_rfl) hi
              have hx : Ext wr w := hw.1 h24
              have e7 : a.tmps[7]?.getD undef = (.pointer (some ⟨w6.heap.size, 0, none⟩)) := hat.old (k := 7) (by kernel_rfl)
              unfold DetR.okStep
              go_simp
              exact QWd.same (i := 0) hw (by decide) (by decide)
            · intro L a w hi hcl hdep hat hw
              have h24 : L 24 = false := DetR.not_yet hcl 8 24 1 (by kernel_rfl) hi
              have hx : Ext wr w := hw.1 h24
              have e70 : a.tmps[70]?.getD undef = (.pointer (some ⟨w6.heap.size, 1, none⟩)) := hat.slot (i := 1) (j := 0) (k := 70) rfl rfl rfl hdep (by kernel_rfl)
              unfold DetR.okStep
              go_simp
              exact QWd.same (i := 1) hw (by decide) (by decide)
            · intro L a w hi hcl hdep hat hw
              have h24 : L 24 = false := DetR.not_yet hcl 8 24 2 (by kernel_rfl) hi
              have hx : Ext wr w := hw.1 h24
              have e10 : a.tmps[10]?.getD undef = (.int .i64 (k : Int)) := hat.old (k := 10) (by kernel_rfl)
              unfold DetR.okStep
              go_simp
              exact QWd.same (i := 2) hw (by decide) (by decide)
            · intro L a w hi hcl hdep hat hw
              have e7 : a.tmps[7]?.getD undef = (.pointer (some ⟨w6.heap.size, 0, none⟩)) := hat.old (k := 7) (by kernel_rfl)
              unfold DetR.okStep
              go_simp
              exact QWd.same (i := 3) hw (by decide) (by decide)
            · intro L a w hi hcl hdep hat hw
              have e73 : a.tmps[73]?.getD undef = (.pointer (some ⟨w6.heap.size, 1, none⟩)) := hat.slot (i := 4) (j := 3) (k := 73) rfl rfl rfl hdep (by kernel_rfl)
              unfold DetR.okStep
              have h27 : L 27 = false := DetR.not_yet hcl 8 27 4 (by kernel_rfl) hi
              have c4 : w.cell? ⟨w6.heap.size, 1, none⟩ = some (.slice (some ⟨g, 0, none⟩) nh d1) := by
                cases h : L 24 with
                | false => exact o1 w (hw.1 h)
                | true =>
                  obtain ⟨w0, hx0, rfl⟩ := hw.2.1 h h27
                  rw [World.cell?_setCell_other _ _ _ _ (fun e => Hne.out (congrArg Addr.block e).symm), World.cell?_setCell_other _ _ _ _ (fun e => Hne.out (congrArg Addr.block e).symm)]
                  exact o1 w0 hx0
              go_simp
              exact QWd.same (i := 4) hw (by decide) (by decide)
            · intro L a w hi hcl hdep hat hw
              have e10 : a.tmps[10]?.getD undef = (.int .i64 (k : Int)) := hat.old (k := 10) (by kernel_rfl)
              unfold DetR.okStep
              go_simp
              exact QWd.same (i := 5) hw (by decide) (by decide)
            · intro L a w hi hcl hdep hat hw
              have h24 : L 24 = false := DetR.not_yet hcl 8 24 6 (by kernel_rfl) hi
              have hx : Ext wr w := hw.1 h24
              have e6 : a.tmps[6]?.getD undef = (.func (.func 50) #[] #[]) := hat.old (k := 6) (by kernel_rfl)
              unfold DetR.okStep
              go_simp
              exact QWd.same (i := 6) hw (by decide) (by decide)
            · intro L a w hi hcl hdep hat hw
              have h24 : L 24 = false := DetR.not_yet hcl 8 24 7 (by kernel_rfl) hi
              have hx : Ext wr w := hw.1 h24
              have e7 : a.tmps[7]?.getD undef = (.pointer (some ⟨w6.heap.size, 0, none⟩)) := hat.old (k := 7) (by kernel_rfl)
              unfold DetR.okStep
              go_simp
              exact QWd.same (i := 7) hw (by decide) (by decide)
            · intro L a w hi hcl hdep hat hw
              have h24 : L 24 = false := DetR.not_yet hcl 8 24 8 (by kernel_rfl) hi
              have hx : Ext wr w := hw.1 h24
              have e77 : a.tmps[77]?.getD undef = (.pointer (some ⟨w6.heap.size, 1, none⟩)) := hat.slot (i := 8) (j := 7) (k := 77) rfl rfl rfl hdep (by kernel_rfl)
              unfold DetR.okStep
              go_simp
              exact QWd.same (i := 8) hw (by decide) (by decide)
            · intro L a w hi hcl hdep hat hw
              have h24 : L 24 = false := DetR.not_yet hcl 8 24 9 (by kernel_rfl) hi
              have hx : Ext wr w := hw.1 h24
              have e10 : a.tmps[10]?.getD undef = (.int .i64 (k : Int)) := hat.old (k := 10) (by kernel_rfl)
              unfold DetR.okStep
              go_simp
              exact QWd.same (i := 9) hw (by decide) (by decide)
            · intro L a w hi hcl hdep hat hw
              have h24 : L 24 = false := DetR.not_yet hcl 8 24 10 (by kernel_rfl) hi
              have hx : Ext wr w := hw.1 h24
              have e78 : a.tmps[78]?.getD undef = (.slice (some ⟨g, 0, none⟩) nh d1) := hat.slot (i := 10) (j := 8) (k := 78) rfl rfl rfl hdep (by kernel_rfl)
              have e79 : a.tmps[79]?.getD undef = (.int .i64 (k : Int)) := hat.slot (i := 10) (j := 9) (k := 79) rfl rfl rfl hdep (by kernel_rfl)
              unfold DetR.okStep
              go_simp
              exact QWd.same (i := 10) hw (by decide) (by decide)
            · intro L a w hi hcl hdep hat hw
              have h24 : L 24 = false := DetR.not_yet hcl 8 24 11 (by kernel_rfl) hi
              have hx : Ext wr w := hw.1 h24
              have e80 : a.tmps[80]?.getD undef = (.pointer (some ⟨g, k * 5, none⟩)) := hat.slot (i := 11) (j := 10) (k := 80) rfl rfl rfl hdep (by kernel_rfl)
              unfold DetR.okStep
              go_simp
              exact QWd.same (i := 11) hw (by decide) (by decide)
            · intro L a w hi hcl hdep hat hw
              have h24 : L 24 = false := DetR.not_yet hcl 8 24 12 (by kernel_rfl) hi
              have hx : Ext wr w := hw.1 h24
              have e81 : a.tmps[81]?.getD undef = (.pointer (some ⟨g, k * 5, none⟩)) := hat.slot (i := 12) (j := 11) (k := 81) rfl rfl rfl hdep (by kernel_rfl)
              unfold DetR.okStep
              have c0 := hx.cell q0
              have c1' := hx.cell q1
              go_simp
              exact QWd.same (i := 12) hw (by decide) (by decide)
            · intro L a w hi hcl hdep hat hw
              have h24 : L 24 = false := DetR.not_yet hcl 8 24 13 (by kernel_rfl) hi
              have hx : Ext wr w := hw.1 h24
              have e76 : a.tmps[76]?.getD undef = (.func (.func 50) #[] #[]) := hat.slot (i := 13) (j := 6) (k := 76) rfl rfl rfl hdep (by kernel_rfl)
              have e82 : a.tmps[82]?.getD undef = (.agg #[vint sx, vint sy]) := hat.slot (i := 13) (j := 12) (k := 82) rfl rfl rfl hdep (by kernel_rfl)
              unfold DetR.okStep
              go_simp
              exact (Hqa.out w).mono fun e w'' ⟨he, hx'⟩ => ⟨he, QWd.early (i := 13) (DetR.not_yet hcl 8 27 13 (by kernel_rfl) hi) h24 (by decide) (by decide) (hx.trans hx')⟩
            · intro L a w hi hcl hdep hat hw
              have h24 : L 24 = false := DetR.not_yet hcl 8 24 14 (by kernel_rfl) hi
              have hx : Ext wr w := hw.1 h24
              have e6 : a.tmps[6]?.getD undef = (.func (.func 50) #[] #[]) := hat.old (k := 6) (by kernel_rfl)
              unfold DetR.okStep
              go_simp
              exact QWd.same (i := 14) hw (by decide) (by decide)
            · intro L a w hi hcl hdep hat hw
              have h24 : L 24 = false := DetR.not_yet hcl 8 24 15 (by kernel_rfl) hi
              have hx : Ext wr w := hw.1 h24
              have e7 : a.tmps[7]?.getD undef = (.pointer (some ⟨w6.heap.size, 0, none⟩)) := hat.old (k := 7) (by kernel_rfl)
              unfold DetR.okStep
              go_simp
              exact QWd.same (i := 15) hw (by decide) (by decide)
            · intro L a w hi hcl hdep hat hw
              have h24 : L 24 = false := DetR.not_yet hcl 8 24 16 (by kernel_rfl) hi
              have hx : Ext wr w := hw.1 h24
              have e85 : a.tmps[85]?.getD undef = (.pointer (some ⟨w6.heap.size, 1, none⟩)) := hat.slot (i := 16) (j := 15) (k := 85) rfl rfl rfl hdep (by kernel_rfl)
              unfold DetR.okStep
              go_simp
              exact QWd.same (i := 16) hw (by decide) (by decide)
            · intro L a w hi hcl hdep hat hw
              have h24 : L 24 = false := DetR.not_yet hcl 8 24 17 (by kernel_rfl) hi
              have hx : Ext wr w := hw.1 h24
              have e10 : a.tmps[10]?.getD undef = (.int .i64 (k : Int)) := hat.old (k := 10) (by kernel_rfl)
              unfold DetR.okStep
              go_simp
              exact QWd.same (i := 17) hw (by decide) (by decide)
            · intro L a w hi hcl hdep hat hw
              have h24 : L 24 = false := DetR.not_yet hcl 8 24 18 (by kernel_rfl) hi
              have hx : Ext wr w := hw.1 h24
              have e86 : a.tmps[86]?.getD undef = (.slice (some ⟨g, 0, none⟩) nh d1) := hat.slot (i := 18) (j := 16) (k := 86) rfl rfl rfl hdep (by kernel_rfl)
              have e87 : a.tmps[87]?.getD undef = (.int .i64 (k : Int)) := hat.slot (i := 18) (j := 17) (k := 87) rfl rfl rfl hdep (by kernel_rfl)
              unfold DetR.okStep
              go_simp
              exact QWd.same (i := 18) hw (by decide) (by decide)
            · intro L a w hi hcl hdep hat hw
              have h24 : L 24 = false := DetR.not_yet hcl 8 24 19 (by kernel_rfl) hi
              have hx : Ext wr w := hw.1 h24
              have e88 : a.tmps[88]?.getD undef = (.pointer (some ⟨g, k * 5, none⟩)) := hat.slot (i := 19) (j := 18) (k := 88) rfl rfl rfl hdep (by kernel_rfl)
              unfold DetR.okStep
              go_simp
              exact QWd.same (i := 19) hw (by decide) (by decide)
            · intro L a w hi hcl hdep hat hw
              have h24 : L 24 = false := DetR.not_yet hcl 8 24 20 (by kernel_rfl) hi
              have hx : Ext wr w := hw.1 h24
              have e89 : a.tmps[89]?.getD undef = (.pointer (some ⟨g, k * 5 + 2, none⟩)) := hat.slot (i := 20) (j := 19) (k := 89) rfl rfl rfl hdep (by kernel_rfl)
              unfold DetR.okStep
              have c0 := hx.cell q2
              have c1' := hx.cell q3
              go_simp
              exact QWd.same (i := 20) hw (by decide) (by decide)
            · intro L a w hi hcl hdep hat hw
              have h24 : L 24 = false := DetR.not_yet hcl 8 24 21 (by kernel_rfl) hi
              have hx : Ext wr w := hw.1 h24
              have e84 : a.tmps[84]?.getD undef = (.func (.func 50) #[] #[]) := hat.slot (i := 21) (j := 14) (k := 84) rfl rfl rfl hdep (by kernel_rfl)
              have e90 : a.tmps[90]?.getD undef = (.agg #[vint tx, vint ty]) := hat.slot (i := 21) (j := 20) (k := 90) rfl rfl rfl hdep (by kernel_rfl)
              unfold DetR.okStep
              go_simp
              exact (Hqb.out w).mono fun e w'' ⟨he, hx'⟩ => ⟨he, QWd.early (i := 21) (DetR.not_yet hcl 8 27 21 (by kernel_rfl) hi) h24 (by decide) (by decide) (hx.trans hx')⟩
            · intro L a w hi hcl hdep hat hw
              have h24 : L 24 = false := DetR.not_yet hcl 8 24 22 (by kernel_rfl) hi
              have hx : Ext wr w := hw.1 h24
              have e71 : a.tmps[71]?.getD undef = (.slice (some ⟨g, 0, none⟩) nh d1) := hat.slot (i := 22) (j := 1) (k := 71) rfl rfl rfl hdep (by kernel_rfl)
              have e72 : a.tmps[72]?.getD undef = (.int .i64 (k : Int)) := hat.slot (i := 22) (j := 2) (k := 72) rfl rfl rfl hdep (by kernel_rfl)
              unfold DetR.okStep
              go_simp
              exact QWd.same (i := 22) hw (by decide) (by decide)
            · intro L a w hi hcl hdep hat hw
              have h24 : L 24 = false := DetR.not_yet hcl 8 24 23 (by kernel_rfl) hi
              have hx : Ext wr w := hw.1 h24
              have e92 : a.tmps[92]?.getD undef = (.pointer (some ⟨g, k * 5, none⟩)) := hat.slot (i := 23) (j := 22) (k := 92) rfl rfl rfl hdep (by kernel_rfl)
              unfold DetR.okStep
              go_simp
              exact QWd.same (i := 23) hw (by decide) (by decide)
            · intro L a w hi hcl hdep hat hw
              have h24 : L 24 = false := hi
              have hx : Ext wr w := hw.1 h24
              have e93 : a.tmps[93]?.getD undef = (.pointer (some ⟨g, k * 5, none⟩)) := hat.slot (i := 24) (j := 23) (k := 93) rfl rfl rfl hdep (by kernel_rfl)
              have e83 : a.tmps[83]?.getD undef = (.agg #[vint qx, vint qy]) := hat.slot (i := 24) (j := 13) (k := 83) rfl rfl rfl hdep (by kernel_rfl)
              unfold DetR.okStep
              have c0 := hx.cell q0
              have c1' := hx.cell q1
              have f0 := (hx.frozen Hg2.out).trans (Hf.out (k * 5))
              have f1 := (hx.frozen Hg2.out).trans (Hf.out (k * 5 + 1))
              have h27 : L 27 = false := DetR.not_yet hcl 8 27 24 (by kernel_rfl) hi
              go_simp
              refine QWd.a h27 hx
            · intro L a w hi hcl hdep hat hw
              have e74 : a.tmps[74]?.getD undef = (.slice (some ⟨g, 0, none⟩) nh d1) := hat.slot (i := 25) (j := 4) (k := 74) rfl rfl rfl hdep (by kernel_rfl)
              have e75 : a.tmps[75]?.getD undef = (.int .i64 (k : Int)) := hat.slot (i := 25) (j := 5) (k := 75) rfl rfl rfl hdep (by kernel_rfl)
              unfold DetR.okStep
              go_simp
              exact QWd.same (i := 25) hw (by decide) (by decide)
            · intro L a w hi hcl hdep hat hw
              have e94 : a.tmps[94]?.getD undef = (.pointer (some ⟨g, k * 5, none⟩)) := hat.slot (i := 26) (j := 25) (k := 94) rfl rfl rfl hdep (by kernel_rfl)
              unfold DetR.okStep
              go_simp
              exact QWd.same (i := 26) hw (by decide) (by decide)
            · intro L a w hi hcl hdep hat hw
              have e95 : a.tmps[95]?.getD undef = (.pointer (some ⟨g, k * 5 + 2, none⟩)) := hat.slot (i := 27) (j := 26) (k := 95) rfl rfl rfl hdep (by kernel_rfl)
              have e91 : a.tmps[91]?.getD undef = (.agg #[vint rx, vint ry]) := hat.slot (i := 27) (j := 21) (k := 91) rfl rfl rfl hdep (by kernel_rfl)
              unfold DetR.okStep
              have h24 : L 24 = true := hdep ⟨24, .chain⟩ (by simp) rfl
              obtain ⟨w0, hx0, rfl⟩ := hw.2.1 h24 hi
              have c0 : ((w0.setCell ⟨g, k * 5, none⟩ (vint qx)).setCell ⟨g, k * 5 + 1, none⟩ (vint qy)).cell? ⟨g, k * 5 + 2, none⟩ = some (vint tx) := by
                rw [World.cell?_setCell_other _ _ _ _ (by simp), World.cell?_setCell_other _ _ _ _ (by simp)]
                exact hx0.cell q2
              have c1' : ((w0.setCell ⟨g, k * 5, none⟩ (vint qx)).setCell ⟨g, k * 5 + 1, none⟩ (vint qy)).cell? ⟨g, k * 5 + 3, none⟩ = some (vint ty) := by
                rw [World.cell?_setCell_other _ _ _ _ (by simp), World.cell?_setCell_other _ _ _ _ (by simp)]
                exact hx0.cell q3
              have f0 : ((w0.setCell ⟨g, k * 5, none⟩ (vint qx)).setCell ⟨g, k * 5 + 1, none⟩ (vint qy)).frozen? ⟨g, k * 5 + 2, none⟩ = false := by
                rw [World.frozen?_setCell, World.frozen?_setCell]
                exact (hx0.frozen Hg2.out).trans (Hf.out (k * 5 + 2))
              have f1 : ((w0.setCell ⟨g, k * 5, none⟩ (vint qx)).setCell ⟨g, k * 5 + 1, none⟩ (vint qy)).frozen? ⟨g, k * 5 + 3, none⟩ = false := by
                rw [World.frozen?_setCell, World.frozen?_setCell]
                exact (hx0.frozen Hg2.out).trans (Hf.out (k * 5 + 3))
              go_simp
              exact QWd.b h24 hx0
          · intro L w7 hL hw7
            obtain ⟨w0, hx0, rfl⟩ := hw7.2.2 (hL 27 (by decide))
            have HR := Lib.hid (And.intro (Hset.out w0 hx0) ((((((HW.out.ext hx0).farCell Hne.out (k * 5) (vint qx)).farCell Hne.out (k * 5 + 1) (vint qy)).farCell Hne.out (k * 5 + 2) (vint rx)).farCell Hne.out (k * 5 + 3) (vint ry))))
            clear hw7 Hset HW o0 o1 q0 q1 q2 q3
            simp only [DetR.puts, Act.put, List.setIfInBounds_toArray, List.set_cons_succ, List.set_cons_zero, List.getD_cons_zero, List.getD_cons_succ]
            go_wp2
            go_roundw
            case rel => exact ⟨k + 1, by omega, by go_num, HR.out.1, HR.out.2⟩
            case measure => simp [intOf]; omega
        · obtain rfl : nh = k := by omega
          have hTe := hTk
          rw [HHe.out] at hTe
          have kb := hWk.blk
          have o0 := kb.at_ 0 rfl
          have o1 := kb.at_ 1 rfl
          have hbr := Hb3.out.trans hTe.pown.ext
          have HTe := Lib.hid hTe
          clear hTk hTe hWk kb Hh4 Hqh
          go_wp2_with (first
            | (go_at_call 41; have hq := hX2''; clear hq; refine (Hsp.out X1 X2 x1 x2 _ hX1'' hX2'').mono ?_; rintro e w15 ⟨rfl, hx15⟩; have hb15 := hb14.trans hx15; have hY1'' := hY1'.ext hx15; have hY2' := hY2.ext hx15; clear hb14 hY1' hY2 hx15)
            | (go_at_call 21; have hq := hY2'; clear hq; refine (Hsi.out Y1 Y2 y1 y2 _ hY1'' hY2').mono ?_; rintro e w16 ⟨rfl, hx16⟩; have hb16 := hb15.trans hx16; clear hb15 hY1'' hY2' hx16)
            | (go_at_call 37; have hq := hz13; clear hq; refine (Hs2.out _ _ _ _ _ _ _ HTe.out _ hz13).mono ?_; rintro e w14 ⟨Y2, y2, rfl, hY2, hx14⟩; have hb14 := hb13.trans hx14; have hY1' := hY1.ext hx14; have hX1'' := hX1'.ext hx14; have hX2'' := hX2'.ext hx14; clear hb13 hz13 hY1 hX1' hX2' hx14)
            | (go_at_call 37; have hq := hz12; clear hq; refine (Hs1.out _ (Hx0.out.trans hb12)).mono ?_; rintro e w13 ⟨Y1, y1, rfl, hY1, hx13⟩; have hb13 := hb12.trans hx13; have hz13 := hz12.trans hx13; have hX1' := hX1b.ext hx13; have hX2' := hX2.ext hx13; clear hb12 hz12 hX1b hX2 hx13)
            | (go_at_call 39; have hq := hz11; clear hq; refine (Hc2.out _ _ _ _ _ _ _ HTe.out _ hz11).mono ?_; rintro e w12 ⟨X2, x2, rfl, hX2, hx12⟩; have hb12 := hb11.trans hx12; have hz12 := hz11.trans hx12; have hX1b := hX1.ext hx12; clear hb11 hz11 hX1 hx12)
            | (go_at_call 39; refine (Hc1.out _ (Hx0.out.trans hbr)).mono ?_; rintro e w11 ⟨X1, x1, rfl, hX1, hz11⟩; have hb11 := hbr.trans hz11; clear hbr))
          go_ret
          exact ⟨rfl, Hx0.out.trans hb16⟩
theorem quarter_law (A : Option Addr) (c : Nat) (ps : List (List Sp)) (B : Option Addr) (d : Nat) (hs : List Hg) (x : Int) (w : World) (hA : PnRow w A ps) (hB : HRow w B hs) :
    Calls Try.prog 15 #[.agg #[.slice A ps.length c, .slice B hs.length d], .int .i64 x] w fun e w' => e = .returned (.bool true) ∧ Ext w w' := by
  by_cases hg : greatP ps hs
  · exact quarter_law_out A c ps B d hs x w hA hg
  · by_cases hl : linkP ps hs
    · exact quarter_law_in A c ps B d hs x w hA hB hg hl
    · exact quarter_law_bad A c ps B d hs x w hA hB hg hl
end Go.Proofs.Yteilglljigjefaa
