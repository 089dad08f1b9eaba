/- The law HingeRigid. -/
import Derived.Test.YteilglljigjefaaJ31
import Derived.Test.YteilglljigjefaaJ32
import Derived.Test.YteilglljigjefaaJ14
import Derived.Test.YteilglljigjefaaJ15
import Derived.Test.YteilglljigjefaaJ19
namespace Go.Proofs.Yteilglljigjefaa
open Go.RowKit
set_option maxRecDepth 100000 in
theorem neq_pose0 (w : World) : (binOp .neq 82 (.agg #[.int .i64 1, .int .i64 0, .int .i64 0, .int .i64 0, .int .i64 1]) (.agg #[.int .i64 1, .int .i64 0, .int .i64 0, .int .i64 0, .int .i64 1])).run Try.prog w = .ok (.bool false) w := by
  simp [go_sem]
/-- The numbers of a pose. -/
def PosN (p q d : Int) : Prop := ∃ m1 m2 m3, IntKind.i64.wrap (p * p) = m1 ∧ IntKind.i64.wrap (q * q) = m2 ∧ IntKind.i64.wrap (m1 + m2) = m3 ∧ IntKind.i64.wrap (d * d) = m3
theorem pos_nums {p : Ps} (h : PoseOk p 3) : PosN p.p p.q p.d := by
  obtain ⟨h1, h2, h3, _⟩ := pose_small h
  have e1 := prod_le h2.1 h2.2 h2.1 h2.2
  have e2 := prod_le h3.1 h3.2 h3.1 h3.2
  have e3 := prod_le (show (-15625 : Int) ≤ p.d by omega) h1.2 (show (-15625 : Int) ≤ p.d by omega) h1.2
  have hq := h.pq
  simp only [Int.reduceMul] at e1 e2 e3
  refine ⟨_, _, _, rfl, rfl, rfl, ?_⟩
  rw [IntKind.wrap_i64, IntKind.wrap_i64, IntKind.wrap_i64, IntKind.wrap_i64]
  omega
/-- The numbers of the distance of two corners. -/
def DistN (d ax ay bx bY px py qx qy : Int) : Prop := ∃ x y u v m1 m2 m3 m4 m5 m6 m7, IntKind.i64.wrap (ax - bx) = x ∧ IntKind.i64.wrap (ay - bY) = y ∧ IntKind.i64.wrap (px - qx) = u ∧ IntKind.i64.wrap (py - qy) = v ∧
  IntKind.i64.wrap (x * x) = m1 ∧ IntKind.i64.wrap (y * y) = m2 ∧ IntKind.i64.wrap (m1 + m2) = m3 ∧ IntKind.i64.wrap (d * d) = m4 ∧ IntKind.i64.wrap (u * u) = m5 ∧ IntKind.i64.wrap (v * v) = m6 ∧ IntKind.i64.wrap (m5 + m6) = m7 ∧ IntKind.i64.wrap (m4 * m7) = m3
theorem dist_nums {p : Ps} (h : PoseOk p 3) {s t : Sp} (hs : spotB s) (ht : spotB t) : DistN p.d (plc p s).x (plc p s).y (plc p t).x (plc p t).y s.x s.y t.x t.y := by
  unfold DistN
  obtain ⟨k1, k2⟩ := edge_small h ht hs
  obtain ⟨h1, _⟩ := pose_small h
  obtain ⟨⟨s1, s2⟩, s3, s4⟩ := hs
  obtain ⟨⟨t1, t2⟩, t3, t4⟩ := ht
  have hd := plc_dist p s t
  rw [h.pq] at hd
  have w1 : IntKind.i64.wrap ((plc p s).x - (plc p t).x) = (plc p s).x - (plc p t).x := by rw [IntKind.wrap_i64]; omega
  have w2 : IntKind.i64.wrap ((plc p s).y - (plc p t).y) = (plc p s).y - (plc p t).y := by rw [IntKind.wrap_i64]; omega
  have w3 : IntKind.i64.wrap (s.x - t.x) = s.x - t.x := by rw [IntKind.wrap_i64]; omega
  have w4 : IntKind.i64.wrap (s.y - t.y) = s.y - t.y := by rw [IntKind.wrap_i64]; omega
  generalize (plc p s).x - (plc p t).x = x at *
  generalize (plc p s).y - (plc p t).y = y at *
  have hu1 : -100 ≤ s.x - t.x ∧ s.x - t.x ≤ 100 := by omega
  have hu2 : -100 ≤ s.y - t.y ∧ s.y - t.y ≤ 100 := by omega
  generalize s.x - t.x = u at *
  generalize s.y - t.y = v at *
  have e1 := prod_le k1.1 k1.2 k1.1 k1.2
  have e2 := prod_le k2.1 k2.2 k2.1 k2.2
  have e3 := prod_le hu1.1 hu1.2 hu1.1 hu1.2
  have e4 := prod_le hu2.1 hu2.2 hu2.1 hu2.2
  have e5 := prod_le (show (-15625 : Int) ≤ p.d by omega) h1.2 (show (-15625 : Int) ≤ p.d by omega) h1.2
  simp only [Int.reduceMul] at e1 e2 e3 e4 e5
  have w5 : IntKind.i64.wrap (x * x) = x * x := by rw [IntKind.wrap_i64]; omega
  have w6 : IntKind.i64.wrap (y * y) = y * y := by rw [IntKind.wrap_i64]; omega
  have w7 : IntKind.i64.wrap (x * x + y * y) = x * x + y * y := by rw [IntKind.wrap_i64]; omega
  have w8 : IntKind.i64.wrap (p.d * p.d) = p.d * p.d := by rw [IntKind.wrap_i64]; omega
  have w9 : IntKind.i64.wrap (u * u) = u * u := by rw [IntKind.wrap_i64]; omega
  have w10 : IntKind.i64.wrap (v * v) = v * v := by rw [IntKind.wrap_i64]; omega
  have w11 : IntKind.i64.wrap (u * u + v * v) = u * u + v * v := by rw [IntKind.wrap_i64]; omega
  have w12 : IntKind.i64.wrap (p.d * p.d * (u * u + v * v)) = x * x + y * y := by rw [← hd]; exact w7
  exact ⟨_, _, _, _, _, _, _, _, _, _, _, w1, w2, w3, w4, w5, w6, w7, w8, w9, w10, w11, w12⟩
/-- The numbers of a hinge that holds. -/
def HoldN (ax ay bx bY pd sd : Int) : Prop := ∃ m1 m2, IntKind.i64.wrap (ax * pd) = m1 ∧ IntKind.i64.wrap (bx * sd) = m1 ∧ IntKind.i64.wrap (ay * pd) = m2 ∧ IntKind.i64.wrap (bY * sd) = m2
theorem hold_nums {ps : List (List Sp)} {hs : List Hg} (hl : linkP ps hs) {k : Nat} (hk : k < hs.length) : HoldN (plc (posF hs k) (hgA hs k).a).x (plc (posF hs k) (hgA hs k).a).y (plc (posF hs (k + 1)) (hgA hs k).b).x (plc (posF hs (k + 1)) (hgA hs k).b).y (posF hs (k + 1)).d (posF hs k).d := by
  have hm := posF_holds hl.hinges hk
  have hf := flw_holds hm.1
  rw [← hm.2, ← hgA_at hk] at hf
  exact ⟨_, _, rfl, by rw [hf.1], rfl, by rw [hf.2]⟩
set_option maxRecDepth 100000 in
set_option maxHeartbeats 8000000 in
theorem rigid_law_out (A : Option Addr) (c : Nat) (ps : List (List Sp)) (B : Option Addr) (d : Nat) (hs : List Hg) (w : World) (hA : PnRow w A ps) (hg : greatP ps hs) :
    Calls Try.prog 8 #[.agg #[.slice A ps.length c, .slice B hs.length d]] w fun e w' => e = .returned (.bool true) ∧ Ext w w' := by
  have hgr := fun w' (he : Ext w w') => great_any A c ps B d hs w' (hA.ext he)
  rw [← greatB_yes hg] at hgr
  have Hgr := Lib.hid hgr
  clear hgr hA hg
  generalize ps.length = np at *
  generalize hs.length = nh at *
  have kl : Blk (w.alloc (.cells #[.slice A np c, .slice B nh d] 25)) w.heap.size [.slice A np c, .slice B nh d] := (Blk.new _ _)
  have l0 := kl.at_ 0 rfl
  have l1 := kl.at_ 1 rfl
  have hx0 : Ext w (w.alloc (.cells #[.slice A np c, .slice B nh d] 25)) := ((Ext.refl _).alloc _)
  have Hx0 := Lib.hid hx0
  have hb0 : Ext (w.alloc (.cells #[.slice A np c, .slice B nh d] 25)) (w.alloc (.cells #[.slice A np c, .slice B nh d] 25)) := Ext.refl _
  clear kl hx0
  go_enter Try.func8, Try.ntmps8
  go_wp2_with (first
    | (go_at_call 17; refine (Hgr.out _ (Hx0.out.trans hb1)).mono ?_; rintro e w2 ⟨rfl, hx2⟩; have hb2 := hb1.trans hx2; clear hb1 hx2)
    | (go_at_call 46; refine (alive_any _).mono ?_; rintro e w1 ⟨rfl, hx1⟩; have hb1 := hb0.trans hx1; clear hb0 hx1))
  go_ret
  exact ⟨rfl, Hx0.out.trans hb2⟩
set_option maxRecDepth 100000 in
set_option maxHeartbeats 8000000 in
theorem rigid_law_bad (A : Option Addr) (c : Nat) (ps : List (List Sp)) (B : Option Addr) (d : Nat) (hs : List Hg) (w : World) (hA : PnRow w A ps) (hB : HRow w B hs) (hg : ¬ greatP ps hs) (hl : ¬ linkP ps hs) :
    Calls Try.prog 8 #[.agg #[.slice A ps.length c, .slice B hs.length d]] w fun e w' => e = .returned (.bool true) ∧ Ext w w' := by
  have hL := lk_of hA hB hg
  have hgr := fun w' (he : Ext w w') => great_any A c ps B d hs w' (hA.ext he)
  rw [← greatB_no hg] at hgr
  have hpr : posesR ps hs = [] := by unfold posesR linkB; rw [if_neg (by simpa using hl)]
  have hpo := fun w' (he : Ext w w') => (poses_all A c ps B d hs w' (hL.ext he)).mono (R' := fun e w'' => ∃ X x, e = .returned (.tuple #[.slice X 0 x, .int .i64 50]) ∧ True ∧ Ext w' w'') fun e w'' ⟨v, he, ho⟩ => by
    rw [hpr] at ho
    rw [← checkE_bad hl] at he
    obtain ⟨X, x, rfl⟩ := ho.form
    exact ⟨X, x, he, trivial, ho.ext⟩
  have Hgr := Lib.hid hgr
  have Hpo := Lib.hid hpo
  clear hgr hpo hL hA hB hg hl hpr
  generalize ps.length = np at *
  generalize hs.length = nh at *
  have kl : Blk (w.alloc (.cells #[.slice A np c, .slice B nh d] 25)) w.heap.size [.slice A np c, .slice B nh d] := (Blk.new _ _)
  have l0 := kl.at_ 0 rfl
  have l1 := kl.at_ 1 rfl
  have hx0 : Ext w (w.alloc (.cells #[.slice A np c, .slice B nh d] 25)) := ((Ext.refl _).alloc _)
  have Hx0 := Lib.hid hx0
  have hb0 : Ext (w.alloc (.cells #[.slice A np c, .slice B nh d] 25)) (w.alloc (.cells #[.slice A np c, .slice B nh d] 25)) := Ext.refl _
  clear kl hx0
  go_enter Try.func8, Try.ntmps8
  go_wp2_with (first
    | (go_at_call 27; refine (Hpo.out _ (Hx0.out.trans hb2)).mono ?_; rintro e w3 ⟨X, x, rfl, hX, hx3⟩; have hb3 := hb2.trans hx3; clear hb2 hx3)
    | (go_at_call 17; refine (Hgr.out _ (Hx0.out.trans hb1)).mono ?_; rintro e w2 ⟨rfl, hx2⟩; have hb2 := hb1.trans hx2; clear hb1 hx2)
    | (go_at_call 46; refine (alive_any _).mono ?_; rintro e w1 ⟨rfl, hx1⟩; have hb1 := hb0.trans hx1; clear hb0 hx1))
  go_ret
  exact ⟨rfl, Hx0.out.trans hb3⟩
set_option maxRecDepth 100000 in
set_option maxHeartbeats 32000000 in
theorem rigid_law_in (A : Option Addr) (c : Nat) (ps : List (List Sp)) (B : Option Addr) (d : Nat) (hs : List Hg) (w : World) (hA : PnRow w A ps) (hB : HRow w B hs) (hg : ¬ greatP ps hs) (hl : linkP ps hs) :
    Calls Try.prog 8 #[.agg #[.slice A ps.length c, .slice B hs.length d]] w fun e w' => e = .returned (.bool true) ∧ Ext w w' := by
  have hL := lk_of hA hB hg
  have hgr := fun w' (he : Ext w w') => great_any A c ps B d hs w' (hA.ext he)
  rw [← greatB_no hg] at hgr
  have hpr : posesR ps hs = posesL hs := by unfold posesR linkB; rw [if_pos (decide_eq_true hl)]
  have hnp : hs.length + 1 = ps.length := hl.2.1
  have hpo := fun w' (he : Ext w w') => (poses_all A c ps B d hs w' (hL.ext he)).mono (R' := fun e w'' => ∃ g x, e = .returned (.tuple #[.slice (some ⟨g, 0, none⟩) ps.length x, .int .i64 0]) ∧ PRow w'' (some ⟨g, 0, none⟩) (posesL hs) ∧ Ext w' w'') fun e w'' ⟨v, he, ho⟩ => by
    rw [hpr] at ho
    rw [← checkE_good hl] at he
    obtain ⟨g, x, rfl, _, _⟩ := Own.at_ ho (by rw [posesL_len]; omega)
    exact ⟨g, x, by rw [posesL_len, hnp] at he; exact he, OwnP.row ho, Own.ext ho⟩
  have hco := fun (k : Nat) (hk : k < ps.length) w' (he : Ext w w') => (corners_in A c ps B d hs k w' (hL.ext he) hl hk).mono (R' := fun e w'' => ∃ X x, e = .returned (.tuple #[.slice X (pnA ps k).length x, .int .i64 (posF hs k).d, .int .i64 0]) ∧ SRow w'' X (crnS (posF hs k) (pnA ps k)) ∧ Ext w' w'') fun e w'' ⟨v, he, ho⟩ => by
    obtain ⟨X, x, rfl⟩ := ho.form
    exact ⟨X, x, by rw [crnS_len] at he; exact he, OwnS.row ho, ho.ext⟩
  have hpt := fun k (hk : k < ps.length) => posesL_psA (hs := hs) (k := k) (by omega)
  have hpl : (posesL hs).length = ps.length := by rw [posesL_len]; exact hnp
  have hp0 : posF hs 0 = ⟨1, 0, 0, 0, 1⟩ := rfl
  have hpn := fun k (hk : k < ps.length) => pos_nums (link_pose hl hk)
  have hd1 := fun k (hk : k < ps.length) => (pose_small (link_pose hl hk)).1.1
  have hpa := fun k (hk : k < ps.length) => hA.at_ hk
  have hdn := fun k (hk : k < ps.length) a (ha : a < (pnA ps k).length) b (hb : b < (pnA ps k).length) => dist_nums (link_pose hl hk) (show spotB (ptA (pnA ps k) a) from (show panelP (pnA ps k) by rw [pnA_at hk]; exact hl.2.2.1 _ (List.getElem_mem hk)).spot ha) (show spotB (ptA (pnA ps k) b) from (show panelP (pnA ps k) by rw [pnA_at hk]; exact hl.2.2.1 _ (List.getElem_mem hk)).spot hb)
  have hsc := fun k (hk : k < ps.length) => (show (crnS (posF hs k) (pnA ps k)).length = (pnA ps k).length from crnS_len _ _)
  have hsp := fun k (_ : k < ps.length) a (ha : a < (pnA ps k).length) => (show ptA (crnS (posF hs k) (pnA ps k)) a = plc (posF hs k) (ptA (pnA ps k) a) by rw [ptA_at (by rw [crnS_len]; exact ha), ptA_at ha]; simp [crnS])
  have hpm := fun k (hk : k < ps.length) => hL.hp k hk
  have hhg := fun k (hk : k < hs.length) => hB.at_ hk
  have hho := fun k (hk : k < hs.length) => hold_nums hl hk
  have hat := fun k (hk : k < ps.length) (s : Sp) (h : spotB s) w' => at_any (posF hs k) s w' (psOk (link_pose hl hk)) h
  have hhb := fun k (hk : k < hs.length) => (show hingeB (hgA hs k) by rw [hgA_at hk]; exact hl.hinges _ (List.getElem_mem hk))
  have hnz := neq_pose0
  have hn4 := hl.1
  have Hgr := Lib.hid hgr
  have Hpo := Lib.hid hpo
  have Hco := Lib.hid hco
  have Hpt := Lib.hid hpt
  have Hpl := Lib.hid hpl
  have Hp0 := Lib.hid hp0
  have Hpn := Lib.hid hpn
  have Hd1 := Lib.hid hd1
  have Hpa := Lib.hid hpa
  have Hdn := Lib.hid hdn
  have Hsc := Lib.hid hsc
  have Hsp := Lib.hid hsp
  have Hpm := Lib.hid hpm
  have Hhg := Lib.hid hhg
  have Hho := Lib.hid hho
  have Hat := Lib.hid hat
  have Hhb := Lib.hid hhb
  have Hnp := Lib.hid hnp
  clear hgr hpo hco hpt hpl hp0 hpn hd1 hpa hdn hsc hsp hpm hhg hho hat hhb hnp hpr hL hA hB hg hl
  generalize posesL hs = PL at *
  generalize posF hs = PF at *
  generalize hgA hs = HA at *
  generalize pnA ps = PA at *
  generalize ps.length = np at *
  generalize hs.length = nh at *
  have kl : Blk (w.alloc (.cells #[.slice A np c, .slice B nh d] 25)) w.heap.size [.slice A np c, .slice B nh d] := (Blk.new _ _)
  have l0 := kl.at_ 0 rfl
  have l1 := kl.at_ 1 rfl
  have hx0 : Ext w (w.alloc (.cells #[.slice A np c, .slice B nh d] 25)) := ((Ext.refl _).alloc _)
  have Hx0 := Lib.hid hx0
  have hb0 : Ext (w.alloc (.cells #[.slice A np c, .slice B nh d] 25)) (w.alloc (.cells #[.slice A np c, .slice B nh d] 25)) := Ext.refl _
  clear kl hx0
  go_enter Try.func8, Try.ntmps8
  go_wp2_with (first
    | (go_at_call 27; refine (Hpo.out _ (Hx0.out.trans hb2)).mono ?_; rintro e w3 ⟨gx, x, rfl, hX, hx3⟩; have hb3 := hb2.trans hx3; obtain ⟨_, ee, x0, x1, x2, x3, x4⟩ := hX.at_ (k := 0) (by rw [Hpl.out]; omega); cases ee; simp only [Hpt.out 0 (by omega), Hp0.out, add_zero', Nat.zero_mul, Nat.zero_add] at x0 x1 x2 x3 x4; have HX := Lib.hid hX; clear hb2 hx3 hX)
    | (go_at_call 17; refine (Hgr.out _ (Hx0.out.trans hb1)).mono ?_; rintro e w2 ⟨rfl, hx2⟩; have hb2 := hb1.trans hx2; clear hb1 hx2)
    | (go_at_call 46; refine (alive_any _).mono ?_; rintro e w1 ⟨rfl, hx1⟩; have hb1 := hb0.trans hx1; clear hb0 hx1))
  clear x0 x1 x2 x3 x4 hnz Hp0 Hgr Hpo
  go_loopw [51] (fun i wr => ∃ k : Nat, k ≤ np ∧ i = .int .i64 k ∧ Ext w3 wr) (fun i _ => np - (intOf i).toNat)
  case atStart => exact ⟨0, by omega, rfl, Ext.refl _⟩
  case round =>
    obtain ⟨k, hk, rfl, hxr⟩ := hrel
    by_cases hlt : k < np
    · have hki : (k : Int) < (np : Int) := by omega
      obtain ⟨wo, rfl⟩ : ∃ wo : World, wo = wr := ⟨_, rfl⟩
      have hbo := hb3.trans hxr
      have hwo := Hx0.out.trans hbo
      have hprev : 0 < k → ∃ (Pj : Ps) (hj : Hg) (adB : Addr), B = some adB ∧ (∀ w', Ext wo w' → w'.cell? ⟨gx, (k - 1) * 5, none⟩ = some (vint Pj.p) ∧ w'.cell? ⟨gx, (k - 1) * 5 + 1, none⟩ = some (vint Pj.q) ∧ w'.cell? ⟨gx, (k - 1) * 5 + 2, none⟩ = some (vint Pj.x) ∧ w'.cell? ⟨gx, (k - 1) * 5 + 3, none⟩ = some (vint Pj.y) ∧ w'.cell? ⟨gx, (k - 1) * 5 + 4, none⟩ = some (vint Pj.d)) ∧
          (∀ w', Ext wo w' → w'.cell? (adB.add ((k - 1) * 5)) = some (vint hj.a.x) ∧ w'.cell? ⟨(adB.add ((k - 1) * 5)).block, (adB.add ((k - 1) * 5)).off + 1, none⟩ = some (vint hj.a.y) ∧ w'.cell? ⟨(adB.add ((k - 1) * 5)).block, (adB.add ((k - 1) * 5)).off + 2, none⟩ = some (vint hj.b.x) ∧ w'.cell? ⟨(adB.add ((k - 1) * 5)).block, (adB.add ((k - 1) * 5)).off + 3, none⟩ = some (vint hj.b.y)) ∧
          (∀ w', Calls Try.prog 47 #[Pj.val, hj.a.val] w' fun e w'' => e = .returned (plc Pj hj.a).val ∧ Ext w' w'') ∧ (∀ w', Calls Try.prog 47 #[(PF k).val, hj.b.val] w' fun e w'' => e = .returned (plc (PF k) hj.b).val ∧ Ext w' w'') ∧
          HoldN (plc Pj hj.a).x (plc Pj hj.a).y (plc (PF k) hj.b).x (plc (PF k) hj.b).y (PF k).d Pj.d ∧ k - 1 < nh := fun h0 => by
        have hj1 : k - 1 + 1 = k := by omega
        have hjn : k - 1 < nh := by have := Hnp.out; omega
        obtain ⟨_, ee, y0, y1, y2, y3, y4⟩ := HX.out.at_ (k := k - 1) (by rw [Hpl.out]; omega)
        cases ee
        simp only [Hpt.out (k - 1) (by omega), add_zero'] at y0 y1 y2 y3 y4
        obtain ⟨adB, eB, q0, q1, q2, q3, _⟩ := Hhg.out (k - 1) hjn
        have hho := Hho.out (k - 1) hjn
        have hb := Hhb.out (k - 1) hjn
        rw [hj1] at hho
        exact ⟨PF (k - 1), HA (k - 1), adB, eB, fun w' he => ⟨y0 w' (hxr.trans he), y1 w' (hxr.trans he), y2 w' (hxr.trans he), y3 w' (hxr.trans he), y4 w' (hxr.trans he)⟩, fun w' he => ⟨q0 w' (hwo.trans he), q1 w' (hwo.trans he), q2 w' (hwo.trans he), q3 w' (hwo.trans he)⟩, fun w' => Hat.out (k - 1) (by omega) _ hb.1 w', fun w' => Hat.out k hlt _ hb.2.1 w', hho, hjn⟩
      obtain ⟨_, ee, x0, x1, x2, x3, x4⟩ := HX.out.at_ (k := k) (by rw [Hpl.out]; omega)
      cases ee
      simp only [Hpt.out k hlt, add_zero'] at x0 x1 x2 x3 x4
      obtain ⟨ad, Bk, ck, rfl, hpk, hsk⟩ := Hpa.out k hlt
      obtain ⟨m1, m2, m3, e1, e2, e3, e4⟩ := Hpn.out k hlt
      have hd1 := Hd1.out k hlt
      have hco := Hco.out k hlt
      have hdn := Hdn.out k hlt
      have hsc := Hsc.out k hlt
      have hsp := Hsp.out k hlt
      have hpm := Hpm.out k hlt
      have Hprev := Lib.hid hprev
      have Hco' := Lib.hid hco
      have Hdn' := Lib.hid hdn
      have Hsp' := Lib.hid hsp
      have Hsk := Lib.hid hsk
      have Hpk := Lib.hid hpk
      have Hsc' := Lib.hid hsc
      clear hprev hco hdn hsp hsk hpk hsc Hco Hdn Hsp Hsc Hpn Hd1 Hpt Hpl Hpa Hpm Hhg Hho Hat Hhb HX Hnp
      generalize crnS (PF k) (PA k) = C at *
      generalize PF k = P at *
      generalize PA k = L at *
      generalize hpn : L.length = pn at *
      have Hpn := Lib.hid hpn
      clear hpn
      have z0 : ∀ w', Ext wo w' → _ := fun w' he => x0 w' (hxr.trans he)
      have z1 : ∀ w', Ext wo w' → _ := fun w' he => x1 w' (hxr.trans he)
      have z2 : ∀ w', Ext wo w' → _ := fun w' he => x2 w' (hxr.trans he)
      have z3 : ∀ w', Ext wo w' → _ := fun w' he => x3 w' (hxr.trans he)
      have z4 : ∀ w', Ext wo w' → _ := fun w' he => x4 w' (hxr.trans he)
      have hpw : ∀ w', Ext wo w' → _ := fun w' he => Hpk.out w' (hwo.trans he)
      have hlz0 : ∀ w', Ext wo w' → _ := fun w' he => l0 w' (hbo.trans he)
      have hlz1 : ∀ w', Ext wo w' → _ := fun w' he => l1 w' (hbo.trans he)
      clear x0 x1 x2 x3 x4 l0 l1
      go_wp2_with (go_at_call 32; refine (Hco'.out _ (hwo.alloc _)).mono ?_; rintro e w4 ⟨Xc, xc, rfl, hC, hx4⟩; have hp4 : Ext wo w4 := ((Ext.refl wo).alloc (.cells #[vint P.p, vint P.q, vint P.x, vint P.y, vint P.d] 82)).trans hx4; have kpo := (Blk.new (W := wo) #[vint P.p, vint P.q, vint P.x, vint P.y, vint P.d] 82).ext hx4; have po0 := kpo.at_ 0 rfl; have po1 := kpo.at_ 1 rfl; have po2 := kpo.at_ 2 rfl; have po3 := kpo.at_ 3 rfl; have po4 := kpo.at_ 4 rfl)
      have HC := Lib.hid hC
      clear hC kpo hx4 e1 e2 e3 e4 z0 z1 z2 z3 z4 Hco'
      go_loopw [106] (fun i wr => ∃ a : Nat, a ≤ pn ∧ i = .int .i64 a ∧ Ext w4 wr) (fun i _ => pn - (intOf i).toNat)
      case atStart => exact ⟨0, by omega, rfl, Ext.refl _⟩
      case round =>
        obtain ⟨a, ha, rfl, hxa⟩ := hrel
        obtain ⟨wa, rfl⟩ : ∃ wa : World, wa = wr := ⟨_, rfl⟩
        by_cases hal : a < pn
        · have hai : (a : Int) < (pn : Int) := by omega
          obtain ⟨adc, rfl, sa0, sa1⟩ := HC.out.at_ (k := a) (by rw [Hsc'.out]; omega)
          obtain ⟨adk, rfl, ta0, ta1⟩ := Hsk.out.at_ (k := a) (by rw [Hpn.out]; omega)
          rw [Hsp'.out a hal] at sa0 sa1
          go_wp2
          go_loopw [111] (fun i wr => ∃ b : Nat, b ≤ pn ∧ i = .int .i64 b ∧ Ext wa wr) (fun i _ => pn - (intOf i).toNat)
          case atStart => exact ⟨0, by omega, rfl, Ext.refl _⟩
          case round =>
            obtain ⟨b, hb, rfl, hxb⟩ := hrel
            by_cases hbl : b < pn
            · have hbi : (b : Int) < (pn : Int) := by omega
              obtain ⟨_, ee, sb0, sb1⟩ := HC.out.at_ (k := b) (by rw [Hsc'.out]; omega)
              cases ee
              obtain ⟨_, ee, tb0, tb1⟩ := Hsk.out.at_ (k := b) (by rw [Hpn.out]; omega)
              cases ee
              rw [Hsp'.out b hbl] at sb0 sb1
              have h4 := hxa.trans hxb
              have ho := hp4.trans h4
              have hw := hwo.trans ho
              have c1 : ∀ w', Ext wr w' → _ := fun w' he => sa0 w' (h4.trans he)
              have c2 : ∀ w', Ext wr w' → _ := fun w' he => sa1 w' (h4.trans he)
              have c3 : ∀ w', Ext wr w' → _ := fun w' he => sb0 w' (h4.trans he)
              have c4 : ∀ w', Ext wr w' → _ := fun w' he => sb1 w' (h4.trans he)
              have c5 : ∀ w', Ext wr w' → _ := fun w' he => ta0 w' (hw.trans he)
              have c6 : ∀ w', Ext wr w' → _ := fun w' he => ta1 w' (hw.trans he)
              have c7 : ∀ w', Ext wr w' → _ := fun w' he => tb0 w' (hw.trans he)
              have c8 : ∀ w', Ext wr w' → _ := fun w' he => tb1 w' (hw.trans he)
              have c9 : ∀ w', Ext wr w' → _ := fun w' he => hpw w' (ho.trans he)
              have c10 : ∀ w', Ext wr w' → _ := fun w' he => hlz0 w' (ho.trans he)
              have hdn := Hdn'.out a hal b hbl
              generalize plc P (ptA L a) = sa at c1 c2 hdn
              generalize plc P (ptA L b) = sb at c3 c4 hdn
              generalize ptA L a = ta at c5 c6 hdn
              generalize ptA L b = tb at c7 c8 hdn
              obtain ⟨dx, dy, du, dv, m1, m2, m3, m4, m5, m6, m7, e1, e2, e3, e4, e5, e6, e7, e8, e9, e10, e11, e12⟩ := hdn
              have Hxb := Lib.hid hxb
              clear sa0 sa1 sb0 sb1 ta0 ta1 tb0 tb1 hpw hlz0 hlz1 po0 po1 po2 po3 po4 hxb h4 ho hw
              go_wp2
              refine wp_region_calm 24 (fun _ _ _ _ => True) (fun _ _ _ _ _ _ h => h) (by kernel_rfl) (by kernel_rfl) ?_
              simp only [List.take_succ_cons, List.take_zero, List.drop_succ_cons, List.drop_zero]
              refine calm_quiet calm_mono_final 24 (by kernel_rfl) ?_
              simp only [List.take_succ_cons, List.take_zero, List.drop_succ_cons, List.drop_zero]
              repeat (go_big_quiet_step (fail))
              refine wpQuiet_nil ?_
              refine calm_nil fun wb heb _ => ?_
              have d5 : ∀ w', Ext wb w' → _ := fun w' he => c5 w' (heb.trans he)
              have d6 : ∀ w', Ext wb w' → _ := fun w' he => c6 w' (heb.trans he)
              have d7 : ∀ w', Ext wb w' → _ := fun w' he => c7 w' (heb.trans he)
              have d8 : ∀ w', Ext wb w' → _ := fun w' he => c8 w' (heb.trans he)
              have d9 : ∀ w', Ext wb w' → _ := fun w' he => c9 w' (heb.trans he)
              have d10 : ∀ w', Ext wb w' → _ := fun w' he => c10 w' (heb.trans he)
              clear c1 c2 c3 c4 c5 c6 c7 c8 c9 c10
              go_wp2
              refine wp_region_calm 40 (fun _ _ _ _ => True) (fun _ _ _ _ _ _ h => h) (by kernel_rfl) (by kernel_rfl) ?_
              simp only [List.take_succ_cons, List.take_zero, List.drop_succ_cons, List.drop_zero]
              refine calm_quiet calm_mono_final 40 (by kernel_rfl) ?_
              simp only [List.take_succ_cons, List.take_zero, List.drop_succ_cons, List.drop_zero]
              repeat (go_big_quiet_step (fail))
              refine wpQuiet_nil ?_
              refine calm_nil fun wc hec _ => ?_
              clear d5 d6 d7 d8 d9 d10
              go_wp2
              go_roundw
              case rel => exact ⟨b + 1, by omega, by go_num, Hxb.out.trans (heb.trans hec)⟩
              case measure => simp [intOf]; omega
            · go_wp2
              go_roundw
              case rel => exact ⟨a + 1, by omega, by go_num, hxa.trans hxb⟩
              case measure => simp [intOf]; omega
        · clear Hdn' Hsp' Hsk Hpk Hsc' HC hpw
          by_cases h0 : 0 < k
          · have hk0 : ((k : Int) == 0) = false := by simp; omega
            obtain ⟨Pj, hj, adB, rfl, hy, hq, ca, cb, hold, hjn⟩ := Hprev.out h0
            have hwm : IntKind.i64.wrap ((k : Int) - 1) = ((k - 1 : Nat) : Int) := by rw [IntKind.wrap_i64]; omega
            have hm0 : (0 : Int) ≤ ((k - 1 : Nat) : Int) := by omega
            have hm1 : ((k - 1 : Nat) : Int) < (np : Int) := by omega
            have hm2 : ((k - 1 : Nat) : Int) < (nh : Int) := by omega
            have h4 := hp4.trans hxa
            have s0 : ∀ w', Ext wa w' → _ := fun w' he => (hy w' (h4.trans he)).1
            have s1 : ∀ w', Ext wa w' → _ := fun w' he => (hy w' (h4.trans he)).2.1
            have s2 : ∀ w', Ext wa w' → _ := fun w' he => (hy w' (h4.trans he)).2.2.1
            have s3 : ∀ w', Ext wa w' → _ := fun w' he => (hy w' (h4.trans he)).2.2.2.1
            have s4 : ∀ w', Ext wa w' → _ := fun w' he => (hy w' (h4.trans he)).2.2.2.2
            have r0 : ∀ w', Ext wa w' → _ := fun w' he => (hq w' (h4.trans he)).1
            have r1 : ∀ w', Ext wa w' → _ := fun w' he => (hq w' (h4.trans he)).2.1
            have r2 : ∀ w', Ext wa w' → _ := fun w' he => (hq w' (h4.trans he)).2.2.1
            have r3 : ∀ w', Ext wa w' → _ := fun w' he => (hq w' (h4.trans he)).2.2.2
            have t0 : ∀ w', Ext wa w' → _ := fun w' he => po0 w' (hxa.trans he)
            have t1 : ∀ w', Ext wa w' → _ := fun w' he => po1 w' (hxa.trans he)
            have t2 : ∀ w', Ext wa w' → _ := fun w' he => po2 w' (hxa.trans he)
            have t3 : ∀ w', Ext wa w' → _ := fun w' he => po3 w' (hxa.trans he)
            have t4 : ∀ w', Ext wa w' → _ := fun w' he => po4 w' (hxa.trans he)
            have g0 : ∀ w', Ext wa w' → _ := fun w' he => hlz0 w' (h4.trans he)
            have g1 : ∀ w', Ext wa w' → _ := fun w' he => hlz1 w' (h4.trans he)
            have Ca := Lib.hid ca
            have Cb := Lib.hid cb
            have Hold := Lib.hid hold
            clear hy hq ca cb hold Hprev po0 po1 po2 po3 po4 hlz0 hlz1 h4 h0
            simp only [Sp.val] at Ca Cb
            generalize (plc Pj hj.a).x = ua at Ca Hold
            generalize (plc Pj hj.a).y = ub at Ca Hold
            generalize (plc P hj.b).x = va at Cb Hold
            generalize (plc P hj.b).y = vb at Cb Hold
            go_wp2
            refine Cg.wp_region_calm (p := Cg.extPre) (fr := (fun j => j == 22 || j == 23)) 24 (fun j _ v _ => bif j == 12 then v = .agg #[vint ua, vint ub] else v = .agg #[vint va, vint vb]) (fun _ _ _ _ _ _ h => h) (by kernel_rfl) (by kernel_rfl) ?_
            simp only [List.take_succ_cons, List.take_zero, List.drop_succ_cons, List.drop_zero]
            refine Cg.calm_quiet Cg.calm_mono_final wa (fun _ h => h) 12 (by kernel_rfl) ?_
            simp only [List.take_succ_cons, List.take_zero, List.drop_succ_cons, List.drop_zero]
            repeat (go_big_quiet_step (fail))
            refine wpQuiet_nil ?_
            refine Cg.calm_call Cg.calm_mono_final 47 #[.agg #[vint Pj.p, vint Pj.q, vint Pj.x, vint Pj.y, vint Pj.d], .agg #[vint hj.a.x, vint hj.a.y]] rfl (fun w => ?_) (fun w he hF => ?_) ?_
            · go_simp
            · exact (Ca.out w).mono fun e w'' ⟨he', hx⟩ => ⟨_, he', hx, rfl, fun h => by cases h⟩
            rintro _ _ _ rfl _
            simp only [Act.put, List.setIfInBounds_toArray, List.set_cons_succ, List.set_cons_zero]
            refine Cg.calm_quiet Cg.calm_mono_final wa (fun _ h => h) 8 (by kernel_rfl) ?_
            simp only [List.take_succ_cons, List.take_zero, List.drop_succ_cons, List.drop_zero]
            repeat (go_big_quiet_step (fail))
            refine wpQuiet_nil ?_
            refine Cg.calm_call Cg.calm_mono_final 47 #[.agg #[vint P.p, vint P.q, vint P.x, vint P.y, vint P.d], .agg #[vint hj.b.x, vint hj.b.y]] rfl (fun w => ?_) (fun w he hF => ?_) ?_
            · go_simp
            · exact (Cb.out w).mono fun e w'' ⟨he', hx⟩ => ⟨_, he', hx, rfl, fun h => by cases h⟩
            rintro _ _ _ rfl _
            simp only [Act.put, List.setIfInBounds_toArray, List.set_cons_succ, List.set_cons_zero]
            refine Cg.calm_value Cg.calm_mono_final (fun v w => ∃ b, v = .pointer (some ⟨b, 0, none⟩) ∧ Blk w b [vint 0, vint 0] ∧ wa.heap.size ≤ b) (fun _ w' w'' hR ⟨b, e, hh, hb⟩ => ⟨b, e, hh.ext (show Ext w' w'' from hR), hb⟩) rfl (fun w' hR _ => ⟨.pointer (some ⟨w'.heap.size, 0, none⟩), w'.alloc (.cells [vint 0, vint 0].toArray 27), by go_simp, (Ext.refl _).alloc _, ⟨_, rfl, Blk.new _ _, (show Ext wa w' from hR).le⟩, fun _ => ⟨w'.heap.size, rfl, Nat.le_refl _, by simp⟩⟩) ?_
            rintro _ b8w b8he ⟨b8, rfl, b8h, b8b⟩ b8f
            simp only [Act.put, List.setIfInBounds_toArray, List.set_cons_succ, List.set_cons_zero]
            refine Cg.calm_value Cg.calm_mono_final (fun v w => ∃ b, v = .pointer (some ⟨b, 0, none⟩) ∧ Blk w b [vint 0, vint 0] ∧ wa.heap.size ≤ b) (fun _ w' w'' hR ⟨b, e, hh, hb⟩ => ⟨b, e, hh.ext (show Ext w' w'' from hR), hb⟩) rfl (fun w' hR _ => ⟨.pointer (some ⟨w'.heap.size, 0, none⟩), w'.alloc (.cells [vint 0, vint 0].toArray 27), by go_simp, (Ext.refl _).alloc _, ⟨_, rfl, Blk.new _ _, (show Ext wa w' from hR).le⟩, fun _ => ⟨w'.heap.size, rfl, Nat.le_refl _, by simp⟩⟩) ?_
            rintro _ b9w b9he ⟨b9, rfl, b9h, b9b⟩ b9f
            simp only [Act.put, List.setIfInBounds_toArray, List.set_cons_succ, List.set_cons_zero]
            refine Cg.calm_nil fun w6 he6 hF => ?_
            have hne : b8 ≠ b9 := by have := b9f rfl (.pointer (some ⟨b8, 0, none⟩)) (.inr ⟨rfl, rfl⟩); simpa [pbV] using this
            have hne' : b9 ≠ b8 := fun e => hne e.symm
            obtain ⟨_, ee, k9, _⟩ := (hF.1 23).2 rfl
            cases ee
            obtain ⟨_, ee, k8, _⟩ := (hF.1 22).1.2 rfl
            cases ee
            have he6 : Ext wa w6 := he6
            have c80 := k8.c 0 _ rfl
            have c81 := k8.c 1 _ rfl
            have d8 := k8.f
            have c90 := k9.c 0 _ rfl
            have c91 := k9.c 1 _ rfl
            have d9 := k9.f
            have K8 := Lib.hid k8
            have K9 := Lib.hid k9
            have He6 := Lib.hid he6
            have Hbb := Lib.hid (And.intro b8b b9b)
            clear hF b8f b9f b8h b9h b8he b9he k8 k9 he6 b8b b9b b8w b9w Ca Cb r0 r1 r2 r3 s0 s1 s2 s3 t0 t1 t2 t3 g0 g1
            go_wp2
            have k84 := (((K8.out.set (j := 0) (by simp) (vint ua)).set (j := 1) (by simp) (vint ub)).other (b := b9) (k := 0) hne' (vint va)).other (b := b9) (k := 1) hne' (vint vb)
            have k94 := (((K9.out.other (b := b8) (k := 0) hne (vint ua)).other (b := b8) (k := 1) hne (vint ub)).set (j := 0) (by simp) (vint va)).set (j := 1) (by simp) (vint vb)
            have hx4 := (((He6.out.setCell (p := ⟨b8, 0, none⟩) Hbb.out.1 (vint ua)).setCell (p := ⟨b8, 1, none⟩) Hbb.out.1 (vint ub)).setCell (p := ⟨b9, 0, none⟩) Hbb.out.2 (vint va)).setCell (p := ⟨b9, 1, none⟩) Hbb.out.2 (vint vb)
            simp only [List.set_cons_zero, List.set_cons_succ] at k84 k94
            generalize (((w6.setCell ⟨b8, 0, none⟩ (vint ua)).setCell ⟨b8, 1, none⟩ (vint ub)).setCell ⟨b9, 0, none⟩ (vint va)).setCell ⟨b9, 1, none⟩ (vint vb) = w7 at k84 k94 hx4 ⊢
            clear c80 c81 c90 c91 d8 d9 K8 K9 He6 Hbb hne hne'
            have n0 := k84.at_ 0 rfl
            have n1 := k84.at_ 1 rfl
            have n2 := k94.at_ 0 rfl
            have n3 := k94.at_ 1 rfl
            have n4 : ∀ w', Ext w7 w' → _ := fun w' he => t4 w' (hx4.trans he)
            have n5 : ∀ w', Ext w7 w' → _ := fun w' he => s4 w' (hx4.trans he)
            have Hx4 := Lib.hid hx4
            clear k84 k94 hx4 t4 s4
            obtain ⟨m1, m2, e1, e2, e3, e4⟩ := Hold.out
            refine wp_region_calm 32 (fun _ _ _ _ => True) (fun _ _ _ _ _ _ h => h) (by kernel_rfl) (by kernel_rfl) ?_
            simp only [List.take_succ_cons, List.take_zero, List.drop_succ_cons, List.drop_zero]
            refine calm_quiet calm_mono_final 32 (by kernel_rfl) ?_
            simp only [List.take_succ_cons, List.take_zero, List.drop_succ_cons, List.drop_zero]
            repeat (go_big_quiet_step (fail))
            refine wpQuiet_nil ?_
            refine calm_nil fun w8 he8 _ => ?_
            clear n0 n1 n2 n3 n4 n5
            go_wp2
            go_roundw
            case rel => exact ⟨k + 1, by omega, by go_num, hxr.trans (hp4.trans (hxa.trans (Hx4.out.trans he8)))⟩
            case measure => simp [intOf]; omega
          · have hk0 : ((k : Int) == 0) = true := by simp; omega
            clear Hprev
            go_wp2
            go_roundw
            case rel => exact ⟨k + 1, by omega, by go_num, hxr.trans (hp4.trans hxa)⟩
            case measure => simp [intOf]; omega
    · go_wp2
      go_ret
      exact ⟨rfl, Hx0.out.trans (hb3.trans hxr)⟩
theorem rigid_law (A : Option Addr) (c : Nat) (ps : List (List Sp)) (B : Option Addr) (d : Nat) (hs : List Hg) (w : World) (hA : PnRow w A ps) (hB : HRow w B hs) :
    Calls Try.prog 8 #[.agg #[.slice A ps.length c, .slice B hs.length d]] w fun e w' => e = .returned (.bool true) ∧ Ext w w' := by
  by_cases hg : greatP ps hs
  · exact rigid_law_out A c ps B d hs w hA hg
  · by_cases hl : linkP ps hs
    · exact rigid_law_in A c ps B d hs w hA hB hg hl
    · exact rigid_law_bad A c ps B d hs w hA hB hg hl
end Go.Proofs.Yteilglljigjefaa
