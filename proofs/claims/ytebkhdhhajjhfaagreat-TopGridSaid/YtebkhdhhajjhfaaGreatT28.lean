/- Which proofs are right: corners inside. -/
import Derived.Test.YtebkhdhhajjhfaaGreatT25
import Derived.Test.YtebkhdhhajjhfaaGreatT26
import Derived.Test.YtebkhdhhajjhfaaGreatT27
import Derived.BigRegion
namespace Go.Proofs.YtebkhdhhajjhfaaGreat
open Go.RowKit
theorem ints_drop {w : World} {ad : Addr} {xs : List Int} (h : Ints w (some ad) xs) (n : Nat) : Ints w (some (ad.add n)) (xs.drop n) := fun k hk => by
  rw [List.map_drop, List.length_drop] at hk
  obtain ⟨ad', e, hc⟩ := h (n + k) (by omega)
  cases e
  refine ⟨_, rfl, ?_⟩
  rw [Go.Deep.add_add, hc]
  simp
theorem ints_take {w : World} {A : Option Addr} {xs : List Int} (h : Ints w A xs) (n : Nat) : Ints w A (xs.take n) := fun k hk => by
  rw [List.map_take, List.length_take] at hk
  obtain ⟨ad, e, hc⟩ := h k (by omega)
  refine ⟨ad, e, ?_⟩
  rw [hc, List.map_take, List.getElem?_take_of_lt (by omega)]
theorem insP_iff {r : Apr} {a b : List Cn} (h0 : r.A = 0 ∧ r.B = 0 ∧ r.C = 0 ∧ r.E = 0) (hl : r.ins.length = a.length + b.length) : insP r a b ↔ leftP a b (r.ins.take a.length) ∧ leftP b a (r.ins.drop a.length) := by
  have e1 : ∀ n, n < a.length → getI (r.ins.take a.length) n = r.ins.getD n 0 := fun n hn => by simp [getI, List.getD, List.getElem?_take_of_lt hn]
  have e2 : ∀ n, getI (r.ins.drop a.length) n = r.ins.getD (a.length + n) 0 := fun n => by simp [getI, List.getD]
  have l1 : (r.ins.take a.length).length = a.length := by rw [List.length_take]; omega
  have l2 : (r.ins.drop a.length).length = b.length := by rw [List.length_drop]; omega
  unfold insP leftP
  rw [l1, l2]
  constructor
  · rintro ⟨_, _, h1, h2⟩
    exact ⟨fun j hj => by rw [e1 j hj]; exact h1 j hj, fun j hj => by rw [e2]; exact h2 j hj⟩
  · rintro ⟨h1, h2⟩
    exact ⟨h0, hl, fun j hj => by rw [← e1 j hj]; exact h1 j hj, fun j hj => by rw [← e2]; exact h2 j hj⟩
set_option maxRecDepth 100000 in
set_option maxHeartbeats 8000000 in
theorem right_left (ad : Addr) (ic : Nat) (ins : List Int) (A : Option Addr) (ca : Nat) (a : List Cn) (B : Option Addr) (cb : Nat) (b : List Cn) (w : World) (hlA : CRow w A a) (hlB : CRow w B b) (hc : CnsOk a) (ho : CnsOk b) (hI : Ints w (some ad) ins) (hl : ins.length = a.length + b.length) (hic : ins.length ≤ ic) :
    Calls Tryz.prog 79 #[.agg #[.bool false, .int .i64 0, .int .i64 0, .int .i64 0, .int .i64 0, .slice (some ad) ins.length ic], .slice A a.length ca, .slice B b.length cb] w fun en w' => en = .returned (.bool (leftB a b (ins.take a.length) && leftB b a (ins.drop a.length))) ∧ Ext w w' := by
  have h1 := fun (x : Nat) (X : Addr) (hX : X = ad) w' (he : Ext w w') => left4_any A ca a B cb b (some X) x (ins.take a.length) w' (hlA.ext he) (hlB.ext he) (by rw [hX]; exact (ints_take hI _).ext he) hc ho (by rw [List.length_take]; omega)
  have h2 := fun (x : Nat) w' (he : Ext w w') => left4_any B cb b A ca a (some (ad.add a.length)) x (ins.drop a.length) w' (hlB.ext he) (hlA.ext he) ((ints_drop hI _).ext he) ho hc (by rw [List.length_drop]; omega)
  rw [show (ins.take a.length).length = a.length by rw [List.length_take]; omega] at h1
  rw [show (ins.drop a.length).length = b.length by rw [List.length_drop]; omega] at h2
  have hn3 := hc.len
  have hm3 := ho.len
  rw [hl] at hic ⊢
  have H1 := Lib.hid h1
  have H2 := Lib.hid h2
  clear h1 h2 hI hl hlA hlB hc ho
  generalize leftB a b (ins.take a.length) = L1 at *
  generalize leftB b a (ins.drop a.length) = L2 at *
  generalize a.length = n at *
  generalize b.length = m at *
  have d5 : (((n + m : Nat) : Int) != (n : Int) + (m : Int)) = false := by simp
  have c1 : (n : Int) ≤ (ic : Int) := by omega
  have c2 : (n : Int) ≤ ((n + m : Nat) : Int) := by omega
  have c3 : ¬ ic = n := by omega
  have kb : Blk (w.alloc (.cells #[.bool false, .int .i64 0, .int .i64 0, .int .i64 0, .int .i64 0, .slice (some ad) (n + m) ic] 111)) w.heap.size [.bool false, .int .i64 0, .int .i64 0, .int .i64 0, .int .i64 0, .slice (some ad) (n + m) ic] := Blk.new _ _
  have hx0 : Ext w (w.alloc (.cells #[.bool false, .int .i64 0, .int .i64 0, .int .i64 0, .int .i64 0, .slice (some ad) (n + m) ic] 111)) := (Ext.refl _).alloc _
  have b5 := kb.at_ 5 rfl
  have Hx0 := Lib.hid hx0
  clear kb hx0
  cases L1
  all_goals
    go_enter Tryz.func79, Tryz.ntmps79
    go_wp2_with (first
      | (go_at_call 116; ((with_reducible refine (H1.out _ _ rfl _ Hx0.out).mono ?_); rintro e w5 ⟨rfl, hx5⟩))
      | (go_at_call 116; ((with_reducible refine (H2.out _ _ (Hx0.out.trans hx5)).mono ?_); rintro e w6 ⟨rfl, hx6⟩)))
    go_ret
    first
      | exact ⟨ret_b (by simp), (Hx0.out.trans hx5).trans hx6⟩
      | exact ⟨ret_b (by simp), Hx0.out.trans hx5⟩
end Go.Proofs.YtebkhdhhajjhfaaGreat

/- Which proofs are right: by the code. -/
namespace Go.Proofs.YtebkhdhhajjhfaaGreat
open Go.RowKit
/-- A proof in memory. -/
structure AprIn (w : World) (r : Apr) (I : Option Addr) (ic : Nat) : Prop where
  ins : Ints w I r.ins
  cap : r.ins.length ≤ ic
  len : r.ins.length ≤ 9223372036854775807
theorem AprIn.ext {w w' : World} {r : Apr} {I : Option Addr} {ic : Nat} (h : AprIn w r I ic) (he : Ext w w') : AprIn w' r I ic := ⟨h.ins.ext he, h.cap, h.len⟩
theorem ovr_pos {r : Apr} {c : Cn} : 0 < ovr r.A r.B r.C r.E c ↔ r.C * c.d < lineN r c := cmpI_pos
theorem ovr_neg {r : Apr} {c : Cn} : ovr r.A r.B r.C r.E c < 0 ↔ lineN r c < r.C * c.d := cmpI_neg
theorem right_any (r : Apr) (I : Option Addr) (ic : Nat) (A : Option Addr) (ca : Nat) (a : List Cn) (B : Option Addr) (cb : Nat) (b : List Cn) (w : World) (hr : AprIn w r I ic) (hA : CRow w A a) (hB : CRow w B b) (hc : CnsOk a) (ho : CnsOk b) :
    Calls Tryz.prog 79 #[r.val I ic, .slice A a.length ca, .slice B b.length cb] w fun en w' => en = .returned (.bool (rightB r a b)) ∧ Ext w w' := by
  obtain ⟨rc, rA, rB, rC, rE, ins⟩ := r
  cases rc
  · rw [rightB_ins rfl]
    by_cases h : (rA = 0 ∧ rB = 0 ∧ rC = 0 ∧ rE = 0) ∧ ins.length = a.length + b.length
    · obtain ⟨h0, hl⟩ := h
      obtain ⟨rfl, rfl, rfl, rfl⟩ := id h0
      have hi := hr.ins
      obtain ⟨ad, rfl, _⟩ := hi 0 (by have := hc.len; simp only [List.length_map]; omega)
      have key := right_left ad ic ins A ca a B cb b w hA hB hc ho hi hl hr.cap
      have e : decide (insP ⟨false, 0, 0, 0, 0, ins⟩ a b) = (leftB a b (ins.take a.length) && leftB b a (ins.drop a.length)) := by
        rw [Bool.eq_iff_iff, decide_eq_true_iff, insP_iff ⟨rfl, rfl, rfl, rfl⟩ hl, Bool.and_eq_true]
        unfold leftB
        rw [decide_eq_true_iff, decide_eq_true_iff]
      rw [e]
      exact key
    · have key := right_none rA rB rC rE I ins.length ic A a.length ca B b.length cb w hc.len.2 ho.len.2 h
      rw [show decide (insP ⟨false, rA, rB, rC, rE, ins⟩ a b) = false from decide_eq_false fun h' => h ⟨h'.1, h'.2.1⟩]
      exact key
  · rw [rightB_clear rfl]
    by_cases hh : headP ⟨true, rA, rB, rC, rE, ins⟩
    · obtain ⟨h1, h2, h3, h4, h5, h6⟩ := id hh
      have h1 : ins.length = 0 := h1
      have key := right_line rA rB rC rE I ic A ca a B cb b w hA hB hc ho (btwB ⟨true, rA, rB, rC, rE, ins⟩ a b) h2 h3 h4 h5 h6 (by
        unfold btwB
        rw [decide_eq_true_iff, btwP_iff]
        constructor
        · rintro ⟨_, g1, g2⟩
          refine ⟨fun ⟨k, hk, h⟩ => ?_, fun ⟨k, hk, h⟩ => ?_⟩
          · have := g1 k hk
            have := (ovr_pos (r := ⟨true, rA, rB, rC, rE, ins⟩)).1 h
            omega
          · have := g2 k hk
            have := (ovr_neg (r := ⟨true, rA, rB, rC, rE, ins⟩)).1 h
            omega
        · rintro ⟨g1, g2⟩
          refine ⟨hh, fun k hk => ?_, fun k hk => ?_⟩
          · exact Int.not_lt.1 fun h => g1 ⟨k, hk, (ovr_pos (r := ⟨true, rA, rB, rC, rE, ins⟩)).2 h⟩
          · exact Int.not_lt.1 fun h => g2 ⟨k, hk, (ovr_neg (r := ⟨true, rA, rB, rC, rE, ins⟩)).2 h⟩)
      show Calls Tryz.prog 79 #[.agg #[.bool true, vint rA, vint rB, vint rC, vint rE, .slice I ins.length ic], .slice A a.length ca, .slice B b.length cb] w _
      rw [h1]
      exact key
    · rw [← btwB_no fun h => hh (btwP_iff.1 h).1]
      exact right_head rA rB rC rE I ins.length ic A a.length ca B b.length cb w hh
def apartE (ps : List (List Sp)) (hs : List Hg) (i k : Int) (r : Apr) : Int := if twoE ps hs i k = 0 then (if rightB r (pcrn ps hs i.toNat) (pcrn ps hs k.toNat) = true then 0 else 31) else twoE ps hs i k
theorem apartE_nat {ps : List (List Sp)} {hs : List Hg} {i k : Nat} {r : Apr} (h : twoE ps hs i k = 0) : apartE ps hs i k r = if rightB r (pcrn ps hs i) (pcrn ps hs k) = true then 0 else 31 := by rw [apartE, if_pos h]; simp
set_option maxRecDepth 100000 in
set_option maxHeartbeats 4000000 in
theorem checkapart_any (A : Option Addr) (c : Nat) (ps : List (List Sp)) (B : Option Addr) (d : Nat) (hs : List Hg) (i k : Int) (r : Apr) (I : Option Addr) (ic : Nat) (w : World) (hL : Lk w A ps B hs) (hr : AprIn w r I ic) :
    Calls Tryz.prog 43 #[.agg #[.slice A ps.length c, .slice B hs.length d], .int .i64 i, .int .i64 k, r.val I ic] w fun e w' => e = .returned (.int .i64 (apartE ps hs i k r)) ∧ Ext w w' := by
  rcases two_cases ps hs i k with ⟨h1, ⟨a, b, rfl, rfl, ha, hb, hne⟩, h2⟩ | ⟨h2, h3⟩
  · have ht := fun w' (he : Ext w w') => two_in A c ps B d hs a b w' (hL.ext he) h1 ha hb hne
    have hri := fun (X Y : Option Addr) (x y : Nat) w' (he : Ext w w') (hX : CRow w' X (pcrn ps hs a)) (hY : CRow w' Y (pcrn ps hs b)) => right_any r I ic X x _ Y y _ w' (hr.ext he) hX hY (pcrn_ok h1 ha) (pcrn_ok h1 hb)
    rw [apartE_nat h2]
    have Ht := Lib.hid ht
    have Hri := Lib.hid hri
    clear ht hri hL h1 h2 ha hb hne hr
    generalize rightB r (pcrn ps hs a) (pcrn ps hs b) = R at *
    obtain ⟨rc, rA, rB, rC, rE, ins⟩ := r
    generalize ps.length = np at *
    generalize hs.length = nh at *
    generalize (pcrn ps hs a).length = m1 at *
    generalize (pcrn ps hs b).length = m2 at *
    have kl : Blk ((w.alloc (.cells #[.slice A np c, .slice B nh d] 67)).alloc (.cells #[.bool rc, vint rA, vint rB, vint rC, vint rE, .slice I ins.length ic] 111)) w.heap.size [.slice A np c, .slice B nh d] := (Blk.new _ _).ext ((Ext.refl _).alloc _)
    have ka : Blk ((w.alloc (.cells #[.slice A np c, .slice B nh d] 67)).alloc (.cells #[.bool rc, vint rA, vint rB, vint rC, vint rE, .slice I ins.length ic] 111)) (w.heap.size + 1) [.bool rc, vint rA, vint rB, vint rC, vint rE, .slice I ins.length ic] := Blk.new' (cs := #[.bool rc, vint rA, vint rB, vint rC, vint rE, .slice I ins.length ic]) (by simp)
    have b0 := kl.at_ 0 rfl
    have b1 := kl.at_ 1 rfl
    have a0 := ka.at_ 0 rfl
    have a1 := ka.at_ 1 rfl
    have a2 := ka.at_ 2 rfl
    have a3 := ka.at_ 3 rfl
    have a4 := ka.at_ 4 rfl
    have a5 := ka.at_ 5 rfl
    have hx0 : Ext w ((w.alloc (.cells #[.slice A np c, .slice B nh d] 67)).alloc (.cells #[.bool rc, vint rA, vint rB, vint rC, vint rE, .slice I ins.length ic] 111)) := ((Ext.refl _).alloc _).alloc _
    have Hx0 := Lib.hid hx0
    clear kl ka hx0
    cases R
    all_goals
      go_enter Tryz.func43, Tryz.ntmps43
      go_wp2_with (first
        | (go_at_call 77; refine (Ht.out _ Hx0.out).mono ?_; rintro e w1 ⟨X, x, Y, y, rfl, hX, hY, hx1⟩; have hxx := Hx0.out.trans hx1; replace b0 : ∀ w', Ext w1 w' → _ := fun w' he => b0 w' (hx1.trans he); replace b1 : ∀ w', Ext w1 w' → _ := fun w' he => b1 w' (hx1.trans he); replace a0 : ∀ w', Ext w1 w' → _ := fun w' he => a0 w' (hx1.trans he); replace a1 : ∀ w', Ext w1 w' → _ := fun w' he => a1 w' (hx1.trans he); replace a2 : ∀ w', Ext w1 w' → _ := fun w' he => a2 w' (hx1.trans he); replace a3 : ∀ w', Ext w1 w' → _ := fun w' he => a3 w' (hx1.trans he); replace a4 : ∀ w', Ext w1 w' → _ := fun w' he => a4 w' (hx1.trans he); replace a5 : ∀ w', Ext w1 w' → _ := fun w' he => a5 w' (hx1.trans he))
        | (go_at_call 79; refine (Hri.out X Y x y _ hxx hX hY).mono ?_; rintro e w2 ⟨rfl, hx2⟩))
      go_ret
      exact ⟨rfl, hxx.trans hx2⟩
  · have ht := fun w' (he : Ext w w') => two_err A c ps B d hs i k w' (hL.ext he) h3
    have hne : ¬ twoE ps hs i k = 0 := by omega
    rw [apartE, if_neg hne]
    have d1 : (twoE ps hs i k != 0) = true := by simpa using hne
    have Ht := Lib.hid ht
    clear ht hL h2 hne h3 hr
    generalize twoE ps hs i k = E at *
    obtain ⟨rc, rA, rB, rC, rE, ins⟩ := r
    generalize ps.length = np at *
    generalize hs.length = nh at *
    have kl : Blk ((w.alloc (.cells #[.slice A np c, .slice B nh d] 67)).alloc (.cells #[.bool rc, vint rA, vint rB, vint rC, vint rE, .slice I ins.length ic] 111)) w.heap.size [.slice A np c, .slice B nh d] := (Blk.new _ _).ext ((Ext.refl _).alloc _)
    have ka : Blk ((w.alloc (.cells #[.slice A np c, .slice B nh d] 67)).alloc (.cells #[.bool rc, vint rA, vint rB, vint rC, vint rE, .slice I ins.length ic] 111)) (w.heap.size + 1) [.bool rc, vint rA, vint rB, vint rC, vint rE, .slice I ins.length ic] := Blk.new' (cs := #[.bool rc, vint rA, vint rB, vint rC, vint rE, .slice I ins.length ic]) (by simp)
    have b0 := kl.at_ 0 rfl
    have b1 := kl.at_ 1 rfl
    have a0 := ka.at_ 0 rfl
    have a1 := ka.at_ 1 rfl
    have a2 := ka.at_ 2 rfl
    have a3 := ka.at_ 3 rfl
    have a4 := ka.at_ 4 rfl
    have a5 := ka.at_ 5 rfl
    have hx0 : Ext w ((w.alloc (.cells #[.slice A np c, .slice B nh d] 67)).alloc (.cells #[.bool rc, vint rA, vint rB, vint rC, vint rE, .slice I ins.length ic] 111)) := ((Ext.refl _).alloc _).alloc _
    have Hx0 := Lib.hid hx0
    clear kl ka hx0
    go_enter Tryz.func43, Tryz.ntmps43
    go_wp2_with (go_at_call 77; refine (Ht.out _ Hx0.out).mono ?_; rintro e w1 ⟨rfl, hx1⟩; have hxx := Hx0.out.trans hx1)
    go_ret
    exact ⟨rfl, hxx⟩
end Go.Proofs.YtebkhdhhajjhfaaGreat

/- Which proofs are right: by the reference. -/
namespace Go.Proofs.YtebkhdhhajjhfaaGreat
open Go.RowKit
end Go.Proofs.YtebkhdhhajjhfaaGreat

/- Corners inside: by the reference. -/
namespace Go.Proofs.YtebkhdhhajjhfaaGreat
open Go.RowKit
end Go.Proofs.YtebkhdhhajjhfaaGreat

/- Which proofs are right: by the reference, whole. -/
namespace Go.Proofs.YtebkhdhhajjhfaaGreat
open Go.RowKit
end Go.Proofs.YtebkhdhhajjhfaaGreat

/- The line of an edge, as a proof: by the code. -/
namespace Go.Proofs.YtebkhdhhajjhfaaGreat
open Go.RowKit
set_option maxRecDepth 100000 in
set_option maxHeartbeats 8000000 in
theorem through_any (A : Option Addr) (ca : Nat) (c : List Cn) (i : Nat) (sg : Int) (w : World) (hA : CRow w A c) (hc : CnsOk c) (hi : i < c.length) (hs : sg = 1 ∨ sg = -1) :
    Calls Tryz.prog 111 #[.slice A c.length ca, .int .i64 i, .int .i64 sg] w fun e w' => e = .returned ((thrA c i sg).val none 0) ∧ Ext w w' := by
  have hi1 : (i + 1) % c.length < c.length := Nat.mod_lt _ (by omega)
  obtain ⟨ad, rfl, p0, p1, p2⟩ := hA.at_ hi
  obtain ⟨_, ee, q0, q1, q2⟩ := hA.at_ hi1
  cases ee
  have hf := thr_ok hc hi hs
  have hed := hc.edge hi
  have hth : thrA c i sg = ⟨true, sg * ((cAt c ((i + 1) % c.length)).at_.y - (cAt c i).at_.y), sg * ((cAt c i).at_.x - (cAt c ((i + 1) % c.length)).at_.x), sg * ((cAt c ((i + 1) % c.length)).at_.y - (cAt c i).at_.y) * (cAt c i).at_.x + sg * ((cAt c i).at_.x - (cAt c ((i + 1) % c.length)).at_.x) * (cAt c i).at_.y, (cAt c i).d, []⟩ := rfl
  have hn8 := hc.len
  rw [hth] at hf ⊢
  clear hth hA hc
  generalize c.length = n at *
  have e2 : ((i : Int) + 1).tmod (n : Int) = (((i + 1) % n : Nat) : Int) := by
    rw [Int.tmod_eq_emod_of_nonneg (by omega)]; exact (by push_cast; rfl)
  have e3 : ((n : Int) = 0) = False := by simp; omega
  generalize (i + 1) % n = i1 at *
  obtain ⟨ha, hb, hx, hy, hd⟩ := hed
  generalize cAt c i = a at *
  generalize cAt c i1 = b at *
  obtain ⟨⟨ax, ay⟩, az⟩ := a
  obtain ⟨⟨bx, bY⟩, bz⟩ := b
  simp only at p0 p1 p2 q0 q1 q2 hf hx hy hd ⊢
  have b1 : (i1 : Int) < (n : Int) := by omega
  have b2 : (i : Int) < (n : Int) := by omega
  have hx0 : Ext w (w.alloc (.cells #[.bool false, vint 0, vint 0, vint 0, vint 0, .slice none 0 0] 111)) := (Ext.refl _).alloc _
  replace p0 : ∀ w', Ext (w.alloc (.cells #[.bool false, vint 0, vint 0, vint 0, vint 0, .slice none 0 0] 111)) w' → _ := fun w' he => p0 w' (hx0.trans he)
  replace p1 : ∀ w', Ext (w.alloc (.cells #[.bool false, vint 0, vint 0, vint 0, vint 0, .slice none 0 0] 111)) w' → _ := fun w' he => p1 w' (hx0.trans he)
  replace p2 : ∀ w', Ext (w.alloc (.cells #[.bool false, vint 0, vint 0, vint 0, vint 0, .slice none 0 0] 111)) w' → _ := fun w' he => p2 w' (hx0.trans he)
  replace q0 : ∀ w', Ext (w.alloc (.cells #[.bool false, vint 0, vint 0, vint 0, vint 0, .slice none 0 0] 111)) w' → _ := fun w' he => q0 w' (hx0.trans he)
  replace q1 : ∀ w', Ext (w.alloc (.cells #[.bool false, vint 0, vint 0, vint 0, vint 0, .slice none 0 0] 111)) w' → _ := fun w' he => q1 w' (hx0.trans he)
  replace q2 : ∀ w', Ext (w.alloc (.cells #[.bool false, vint 0, vint 0, vint 0, vint 0, .slice none 0 0] 111)) w' → _ := fun w' he => q2 w' (hx0.trans he)
  go_enter Tryz.func111, Tryz.ntmps111
  go_wp2
  have k6 : Blk (w.alloc (.cells #[.bool false, vint 0, vint 0, vint 0, vint 0, .slice none 0 0] 111)) w.heap.size [.bool false, vint 0, vint 0, vint 0, vint 0, .slice none 0 0] := Blk.new _ _
  generalize (w.alloc (.cells #[.bool false, vint 0, vint 0, vint 0, vint 0, .slice none 0 0] 111)) = W0 at *
  have e4 : ¬ n = 0 := by omega
  have Hx0 := Lib.hid hx0
  have K6 := Lib.hid k6
  clear hx0 k6
  have x1 : Ext W0 (W0.alloc (.cells #[vint 0, vint 0, vint 0] 137)) := (Ext.refl _).alloc _
  have p0_1 : ∀ w', Ext (W0.alloc (.cells #[vint 0, vint 0, vint 0] 137)) w' → _ := fun w' he => p0 w' (x1.trans he)
  have p1_1 : ∀ w', Ext (W0.alloc (.cells #[vint 0, vint 0, vint 0] 137)) w' → _ := fun w' he => p1 w' (x1.trans he)
  have p2_1 : ∀ w', Ext (W0.alloc (.cells #[vint 0, vint 0, vint 0] 137)) w' → _ := fun w' he => p2 w' (x1.trans he)
  have q0_1 : ∀ w', Ext (W0.alloc (.cells #[vint 0, vint 0, vint 0] 137)) w' → _ := fun w' he => q0 w' (x1.trans he)
  have q1_1 : ∀ w', Ext (W0.alloc (.cells #[vint 0, vint 0, vint 0] 137)) w' → _ := fun w' he => q1 w' (x1.trans he)
  have q2_1 : ∀ w', Ext (W0.alloc (.cells #[vint 0, vint 0, vint 0] 137)) w' → _ := fun w' he => q2 w' (x1.trans he)
  have x2 : Ext W0 (W0.alloc (.cells #[vint ax, vint ay, vint az] 137)) := (Ext.refl _).alloc _
  have p0_2 : ∀ w', Ext (W0.alloc (.cells #[vint ax, vint ay, vint az] 137)) w' → _ := fun w' he => p0 w' (x2.trans he)
  have p1_2 : ∀ w', Ext (W0.alloc (.cells #[vint ax, vint ay, vint az] 137)) w' → _ := fun w' he => p1 w' (x2.trans he)
  have p2_2 : ∀ w', Ext (W0.alloc (.cells #[vint ax, vint ay, vint az] 137)) w' → _ := fun w' he => p2 w' (x2.trans he)
  have q0_2 : ∀ w', Ext (W0.alloc (.cells #[vint ax, vint ay, vint az] 137)) w' → _ := fun w' he => q0 w' (x2.trans he)
  have q1_2 : ∀ w', Ext (W0.alloc (.cells #[vint ax, vint ay, vint az] 137)) w' → _ := fun w' he => q1 w' (x2.trans he)
  have q2_2 : ∀ w', Ext (W0.alloc (.cells #[vint ax, vint ay, vint az] 137)) w' → _ := fun w' he => q2 w' (x2.trans he)
  have x3 : Ext W0 (W0.alloc (.cells #[vint bx, vint bY, vint bz] 137)) := (Ext.refl _).alloc _
  have p0_3 : ∀ w', Ext (W0.alloc (.cells #[vint bx, vint bY, vint bz] 137)) w' → _ := fun w' he => p0 w' (x3.trans he)
  have p1_3 : ∀ w', Ext (W0.alloc (.cells #[vint bx, vint bY, vint bz] 137)) w' → _ := fun w' he => p1 w' (x3.trans he)
  have p2_3 : ∀ w', Ext (W0.alloc (.cells #[vint bx, vint bY, vint bz] 137)) w' → _ := fun w' he => p2 w' (x3.trans he)
  have q0_3 : ∀ w', Ext (W0.alloc (.cells #[vint bx, vint bY, vint bz] 137)) w' → _ := fun w' he => q0 w' (x3.trans he)
  have q1_3 : ∀ w', Ext (W0.alloc (.cells #[vint bx, vint bY, vint bz] 137)) w' → _ := fun w' he => q1 w' (x3.trans he)
  have q2_3 : ∀ w', Ext (W0.alloc (.cells #[vint bx, vint bY, vint bz] 137)) w' → _ := fun w' he => q2 w' (x3.trans he)
  have x4 : Ext W0 ((W0.alloc (.cells #[vint 0, vint 0, vint 0] 137)).alloc (.cells #[vint 0, vint 0, vint 0] 137)) := ((Ext.refl _).alloc _).alloc _
  have p0_4 : ∀ w', Ext ((W0.alloc (.cells #[vint 0, vint 0, vint 0] 137)).alloc (.cells #[vint 0, vint 0, vint 0] 137)) w' → _ := fun w' he => p0 w' (x4.trans he)
  have p1_4 : ∀ w', Ext ((W0.alloc (.cells #[vint 0, vint 0, vint 0] 137)).alloc (.cells #[vint 0, vint 0, vint 0] 137)) w' → _ := fun w' he => p1 w' (x4.trans he)
  have p2_4 : ∀ w', Ext ((W0.alloc (.cells #[vint 0, vint 0, vint 0] 137)).alloc (.cells #[vint 0, vint 0, vint 0] 137)) w' → _ := fun w' he => p2 w' (x4.trans he)
  have q0_4 : ∀ w', Ext ((W0.alloc (.cells #[vint 0, vint 0, vint 0] 137)).alloc (.cells #[vint 0, vint 0, vint 0] 137)) w' → _ := fun w' he => q0 w' (x4.trans he)
  have q1_4 : ∀ w', Ext ((W0.alloc (.cells #[vint 0, vint 0, vint 0] 137)).alloc (.cells #[vint 0, vint 0, vint 0] 137)) w' → _ := fun w' he => q1 w' (x4.trans he)
  have q2_4 : ∀ w', Ext ((W0.alloc (.cells #[vint 0, vint 0, vint 0] 137)).alloc (.cells #[vint 0, vint 0, vint 0] 137)) w' → _ := fun w' he => q2 w' (x4.trans he)
  have x5 : Ext W0 ((W0.alloc (.cells #[vint ax, vint ay, vint az] 137)).alloc (.cells #[vint 0, vint 0, vint 0] 137)) := ((Ext.refl _).alloc _).alloc _
  have p0_5 : ∀ w', Ext ((W0.alloc (.cells #[vint ax, vint ay, vint az] 137)).alloc (.cells #[vint 0, vint 0, vint 0] 137)) w' → _ := fun w' he => p0 w' (x5.trans he)
  have p1_5 : ∀ w', Ext ((W0.alloc (.cells #[vint ax, vint ay, vint az] 137)).alloc (.cells #[vint 0, vint 0, vint 0] 137)) w' → _ := fun w' he => p1 w' (x5.trans he)
  have p2_5 : ∀ w', Ext ((W0.alloc (.cells #[vint ax, vint ay, vint az] 137)).alloc (.cells #[vint 0, vint 0, vint 0] 137)) w' → _ := fun w' he => p2 w' (x5.trans he)
  have q0_5 : ∀ w', Ext ((W0.alloc (.cells #[vint ax, vint ay, vint az] 137)).alloc (.cells #[vint 0, vint 0, vint 0] 137)) w' → _ := fun w' he => q0 w' (x5.trans he)
  have q1_5 : ∀ w', Ext ((W0.alloc (.cells #[vint ax, vint ay, vint az] 137)).alloc (.cells #[vint 0, vint 0, vint 0] 137)) w' → _ := fun w' he => q1 w' (x5.trans he)
  have q2_5 : ∀ w', Ext ((W0.alloc (.cells #[vint ax, vint ay, vint az] 137)).alloc (.cells #[vint 0, vint 0, vint 0] 137)) w' → _ := fun w' he => q2 w' (x5.trans he)
  have x6 : Ext W0 ((W0.alloc (.cells #[vint 0, vint 0, vint 0] 137)).alloc (.cells #[vint ax, vint ay, vint az] 137)) := ((Ext.refl _).alloc _).alloc _
  have p0_6 : ∀ w', Ext ((W0.alloc (.cells #[vint 0, vint 0, vint 0] 137)).alloc (.cells #[vint ax, vint ay, vint az] 137)) w' → _ := fun w' he => p0 w' (x6.trans he)
  have p1_6 : ∀ w', Ext ((W0.alloc (.cells #[vint 0, vint 0, vint 0] 137)).alloc (.cells #[vint ax, vint ay, vint az] 137)) w' → _ := fun w' he => p1 w' (x6.trans he)
  have p2_6 : ∀ w', Ext ((W0.alloc (.cells #[vint 0, vint 0, vint 0] 137)).alloc (.cells #[vint ax, vint ay, vint az] 137)) w' → _ := fun w' he => p2 w' (x6.trans he)
  have q0_6 : ∀ w', Ext ((W0.alloc (.cells #[vint 0, vint 0, vint 0] 137)).alloc (.cells #[vint ax, vint ay, vint az] 137)) w' → _ := fun w' he => q0 w' (x6.trans he)
  have q1_6 : ∀ w', Ext ((W0.alloc (.cells #[vint 0, vint 0, vint 0] 137)).alloc (.cells #[vint ax, vint ay, vint az] 137)) w' → _ := fun w' he => q1 w' (x6.trans he)
  have q2_6 : ∀ w', Ext ((W0.alloc (.cells #[vint 0, vint 0, vint 0] 137)).alloc (.cells #[vint ax, vint ay, vint az] 137)) w' → _ := fun w' he => q2 w' (x6.trans he)
  have x7 : Ext W0 ((W0.alloc (.cells #[vint bx, vint bY, vint bz] 137)).alloc (.cells #[vint 0, vint 0, vint 0] 137)) := ((Ext.refl _).alloc _).alloc _
  have p0_7 : ∀ w', Ext ((W0.alloc (.cells #[vint bx, vint bY, vint bz] 137)).alloc (.cells #[vint 0, vint 0, vint 0] 137)) w' → _ := fun w' he => p0 w' (x7.trans he)
  have p1_7 : ∀ w', Ext ((W0.alloc (.cells #[vint bx, vint bY, vint bz] 137)).alloc (.cells #[vint 0, vint 0, vint 0] 137)) w' → _ := fun w' he => p1 w' (x7.trans he)
  have p2_7 : ∀ w', Ext ((W0.alloc (.cells #[vint bx, vint bY, vint bz] 137)).alloc (.cells #[vint 0, vint 0, vint 0] 137)) w' → _ := fun w' he => p2 w' (x7.trans he)
  have q0_7 : ∀ w', Ext ((W0.alloc (.cells #[vint bx, vint bY, vint bz] 137)).alloc (.cells #[vint 0, vint 0, vint 0] 137)) w' → _ := fun w' he => q0 w' (x7.trans he)
  have q1_7 : ∀ w', Ext ((W0.alloc (.cells #[vint bx, vint bY, vint bz] 137)).alloc (.cells #[vint 0, vint 0, vint 0] 137)) w' → _ := fun w' he => q1 w' (x7.trans he)
  have q2_7 : ∀ w', Ext ((W0.alloc (.cells #[vint bx, vint bY, vint bz] 137)).alloc (.cells #[vint 0, vint 0, vint 0] 137)) w' → _ := fun w' he => q2 w' (x7.trans he)
  have x8 : Ext W0 ((W0.alloc (.cells #[vint 0, vint 0, vint 0] 137)).alloc (.cells #[vint bx, vint bY, vint bz] 137)) := ((Ext.refl _).alloc _).alloc _
  have p0_8 : ∀ w', Ext ((W0.alloc (.cells #[vint 0, vint 0, vint 0] 137)).alloc (.cells #[vint bx, vint bY, vint bz] 137)) w' → _ := fun w' he => p0 w' (x8.trans he)
  have p1_8 : ∀ w', Ext ((W0.alloc (.cells #[vint 0, vint 0, vint 0] 137)).alloc (.cells #[vint bx, vint bY, vint bz] 137)) w' → _ := fun w' he => p1 w' (x8.trans he)
  have p2_8 : ∀ w', Ext ((W0.alloc (.cells #[vint 0, vint 0, vint 0] 137)).alloc (.cells #[vint bx, vint bY, vint bz] 137)) w' → _ := fun w' he => p2 w' (x8.trans he)
  have q0_8 : ∀ w', Ext ((W0.alloc (.cells #[vint 0, vint 0, vint 0] 137)).alloc (.cells #[vint bx, vint bY, vint bz] 137)) w' → _ := fun w' he => q0 w' (x8.trans he)
  have q1_8 : ∀ w', Ext ((W0.alloc (.cells #[vint 0, vint 0, vint 0] 137)).alloc (.cells #[vint bx, vint bY, vint bz] 137)) w' → _ := fun w' he => q1 w' (x8.trans he)
  have q2_8 : ∀ w', Ext ((W0.alloc (.cells #[vint 0, vint 0, vint 0] 137)).alloc (.cells #[vint bx, vint bY, vint bz] 137)) w' → _ := fun w' he => q2 w' (x8.trans he)
  go_region
  all_goals clear p0_1 p0_2 p0_3 p0_4 p0_5 p0_6 p0_7 p0_8 p1_1 p1_2 p1_3 p1_4 p1_5 p1_6 p1_7 p1_8 p2_1 p2_2 p2_3 p2_4 p2_5 p2_6 p2_7 p2_8 q0_1 q0_2 q0_3 q0_4 q0_5 q0_6 q0_7 q0_8 q1_1 q1_2 q1_3 q1_4 q1_5 q1_6 q1_7 q1_8 q2_1 q2_2 q2_3 q2_4 q2_5 q2_6 q2_7 q2_8 x1 x2 x3 x4 x5 x6 x7 x8 p0 p1 p2 q0 q1 q2
  · have ka : Blk ((W0.alloc (.cells #[.int .i64 ax, .int .i64 ay, .int .i64 az] 137)).alloc (.cells #[.int .i64 bx, .int .i64 bY, .int .i64 az] 137)).drew W0.heap.size [.int .i64 ax, .int .i64 ay, .int .i64 az] := ((Blk.new (W := W0) #[.int .i64 ax, .int .i64 ay, .int .i64 az] 137).ext ((Ext.refl _).alloc _)).ext (Ext.refl _).drew
    have kb : Blk ((W0.alloc (.cells #[.int .i64 ax, .int .i64 ay, .int .i64 az] 137)).alloc (.cells #[.int .i64 bx, .int .i64 bY, .int .i64 az] 137)).drew (W0.heap.size + 1) [.int .i64 bx, .int .i64 bY, .int .i64 az] := (Blk.new' (W := W0.alloc (.cells #[.int .i64 ax, .int .i64 ay, .int .i64 az] 137)) (cs := #[.int .i64 bx, .int .i64 bY, .int .i64 az]) (t := 137) (n := W0.heap.size + 1) (by simp)).ext (Ext.refl _).drew
    have hxd : Ext W0 ((W0.alloc (.cells #[.int .i64 ax, .int .i64 ay, .int .i64 az] 137)).alloc (.cells #[.int .i64 bx, .int .i64 bY, .int .i64 az] 137)).drew := (((Ext.refl _).alloc _).alloc _).drew
    generalize ((W0.alloc (.cells #[.int .i64 ax, .int .i64 ay, .int .i64 az] 137)).alloc (.cells #[.int .i64 bx, .int .i64 bY, .int .i64 az] 137)).drew = w2 at ka kb hxd ⊢
    generalize (W0.heap.size + 1) = gb at *
    generalize W0.heap.size = ga at *
    have a0 := ka.at_ 0 rfl
    have a1 := ka.at_ 1 rfl
    have a2 := ka.at_ 2 rfl
    have c0 := kb.at_ 0 rfl
    have c1 := kb.at_ 1 rfl
    have k6' := K6.out.ext hxd
    have r0 := k6'.at_ 0 rfl
    have r1 := k6'.at_ 1 rfl
    have r2 := k6'.at_ 2 rfl
    have r3 := k6'.at_ 3 rfl
    have r4 := k6'.at_ 4 rfl
    have r5 := k6'.at_ 5 rfl
    have rf := fun j => k6'.free j
    have hw2 := Hx0.out.trans hxd
    clear ka kb
    go_wp2
    have kf := (((((((k6'.ext ((Ext.refl w2).alloc (.cells #[.bool true, .int .i64 (sg * (bY - ay)), .int .i64 (sg * (ax - bx)), .int .i64 (sg * (bY - ay) * ax + sg * (ax - bx) * ay), .int .i64 az, .slice none 0 0] 111))).set (j := 0) (by simp) (.bool true)).set (j := 1) (by simp) (.int .i64 (sg * (bY - ay)))).set (j := 2) (by simp) (.int .i64 (sg * (ax - bx)))).set (j := 3) (by simp) (.int .i64 (sg * (bY - ay) * ax + sg * (ax - bx) * ay))).set (j := 4) (by simp) (.int .i64 az)).set (j := 5) (by simp) (.slice none 0 0))
    refine bodyPost_ret (results_apart rfl _ _ rfl kf) rfl ⟨rfl, ?_⟩
    exact (((((((hw2.alloc _).setCell (Nat.le_refl _) _).setCell (Nat.le_refl _) _).setCell (Nat.le_refl _) _).setCell (Nat.le_refl _) _).setCell (Nat.le_refl _) _).setCell (Nat.le_refl _) _)
  · have ka : Blk ((W0.alloc (.cells #[.int .i64 bx, .int .i64 bY, .int .i64 az] 137)).alloc (.cells #[.int .i64 ax, .int .i64 ay, .int .i64 az] 137)).drew (W0.heap.size + 1) [.int .i64 ax, .int .i64 ay, .int .i64 az] := (Blk.new' (W := W0.alloc (.cells #[.int .i64 bx, .int .i64 bY, .int .i64 az] 137)) (cs := #[.int .i64 ax, .int .i64 ay, .int .i64 az]) (t := 137) (n := W0.heap.size + 1) (by simp)).ext (Ext.refl _).drew
    have kb : Blk ((W0.alloc (.cells #[.int .i64 bx, .int .i64 bY, .int .i64 az] 137)).alloc (.cells #[.int .i64 ax, .int .i64 ay, .int .i64 az] 137)).drew W0.heap.size [.int .i64 bx, .int .i64 bY, .int .i64 az] := ((Blk.new (W := W0) #[.int .i64 bx, .int .i64 bY, .int .i64 az] 137).ext ((Ext.refl _).alloc _)).ext (Ext.refl _).drew
    have hxd : Ext W0 ((W0.alloc (.cells #[.int .i64 bx, .int .i64 bY, .int .i64 az] 137)).alloc (.cells #[.int .i64 ax, .int .i64 ay, .int .i64 az] 137)).drew := (((Ext.refl _).alloc _).alloc _).drew
    generalize ((W0.alloc (.cells #[.int .i64 bx, .int .i64 bY, .int .i64 az] 137)).alloc (.cells #[.int .i64 ax, .int .i64 ay, .int .i64 az] 137)).drew = w2 at ka kb hxd ⊢
    generalize (W0.heap.size + 1) = ga at *
    generalize W0.heap.size = gb at *
    have a0 := ka.at_ 0 rfl
    have a1 := ka.at_ 1 rfl
    have a2 := ka.at_ 2 rfl
    have c0 := kb.at_ 0 rfl
    have c1 := kb.at_ 1 rfl
    have k6' := K6.out.ext hxd
    have r0 := k6'.at_ 0 rfl
    have r1 := k6'.at_ 1 rfl
    have r2 := k6'.at_ 2 rfl
    have r3 := k6'.at_ 3 rfl
    have r4 := k6'.at_ 4 rfl
    have r5 := k6'.at_ 5 rfl
    have rf := fun j => k6'.free j
    have hw2 := Hx0.out.trans hxd
    clear ka kb
    go_wp2
    have kf := (((((((k6'.ext ((Ext.refl w2).alloc (.cells #[.bool true, .int .i64 (sg * (bY - ay)), .int .i64 (sg * (ax - bx)), .int .i64 (sg * (bY - ay) * ax + sg * (ax - bx) * ay), .int .i64 az, .slice none 0 0] 111))).set (j := 0) (by simp) (.bool true)).set (j := 1) (by simp) (.int .i64 (sg * (bY - ay)))).set (j := 2) (by simp) (.int .i64 (sg * (ax - bx)))).set (j := 3) (by simp) (.int .i64 (sg * (bY - ay) * ax + sg * (ax - bx) * ay))).set (j := 4) (by simp) (.int .i64 az)).set (j := 5) (by simp) (.slice none 0 0))
    refine bodyPost_ret (results_apart rfl _ _ rfl kf) rfl ⟨rfl, ?_⟩
    exact (((((((hw2.alloc _).setCell (Nat.le_refl _) _).setCell (Nat.le_refl _) _).setCell (Nat.le_refl _) _).setCell (Nat.le_refl _) _).setCell (Nat.le_refl _) _).setCell (Nat.le_refl _) _)
end Go.Proofs.YtebkhdhhajjhfaaGreat

/- Proofs of whether panels clash: by the code. -/
namespace Go.Proofs.YtebkhdhhajjhfaaGreat
open Go.RowKit
theorem Own.form2 {w1 w : World} {e : TypeId} {size : Nat} {v : Value} {n : Nat} {xs : List Value} (h : Own w1 w e size v n xs) : ∃ A c, v = .slice A n c ∧ n ≤ c := by
  rcases h.2.2 with ⟨rfl, rfl⟩ | ⟨g, cap, cur, rfl, _, _, hc, _⟩
  · exact ⟨none, 0, rfl, Nat.le_refl _⟩
  · exact ⟨_, cap, rfl, hc⟩
section
variable (Ac : Option Addr) (cc : Nat) (c : List Cn) (Ao : Option Addr) (co : Nat) (other : List Cn) (w : World) (hA : CRow w Ac c) (hO : CRow w Ao other) (hc : CnsOk c) (ho : CnsOk other)
include hA hO hc ho
theorem inside_out (h : partP c other) : Calls Tryz.prog 110 #[.slice Ac c.length cc, .slice Ao other.length co] w fun e w' => ∃ i : Nat, e = .returned (.tuple #[.slice none 0 0, .int .i64 i, .bool false]) ∧ Ext w w' ∧ i < c.length ∧ edgeOut c other i :=
  (inside_any Ac cc c Ao co other w hA hO hc ho).mono fun e w' ⟨v, x, b, he, hx, hr⟩ => by
    rcases hr with ⟨rfl, rfl, i, rfl, h1, h2⟩ | ⟨_, _, ins, _, _, h3⟩
    · exact ⟨i, he, hx, h1, h2⟩
    · exact absurd h (inAt_not fun n hn => ⟨_, h3 n hn⟩)
theorem inside_in (h : ¬ partP c other) : Calls Tryz.prog 110 #[.slice Ac c.length cc, .slice Ao other.length co] w fun e w' => ∃ (v : Value) (ins : List Int), e = .returned (.tuple #[v, .int .i64 0, .bool true]) ∧ Own w w' 3 1 v c.length (ins.map vint) ∧ ins.length = c.length ∧ ∀ n, n < c.length → inAt c other n (ins.getD n 0) :=
  (inside_any Ac cc c Ao co other w hA hO hc ho).mono fun e w' ⟨v, x, b, he, hx, hr⟩ => by
    rcases hr with ⟨_, _, i, _, h1, h2⟩ | ⟨rfl, rfl, ins, h1, h2, h3⟩
    · exact absurd ⟨i, h1, h2⟩ h
    · exact ⟨v, ins, he, by rw [← h2]; exact h1, h2, h3⟩
end
/-- What apart finds. -/
def ApartRes (w : World) (a b : List Cn) (e : Ending) (w' : World) : Prop := ∃ r I ic, e = .returned (r.val I ic) ∧ AprIn w' r I ic ∧ Ext w w' ∧ rightP r a b ∧ ∀ ad, I = some ad → w.heap.size ≤ ad.block
theorem apr_none {w : World} {r : Apr} (h : r.ins = []) : AprIn w r none 0 := ⟨by rw [h]; exact Ints.nil _ _, by rw [h]; simp, by rw [h]; simp⟩
theorem thr_ins (c : List Cn) (i : Nat) (sg : Int) : (thrA c i sg).ins = [] := rfl
set_option maxRecDepth 100000 in
set_option maxHeartbeats 8000000 in
theorem apart_any (A : Option Addr) (ca : Nat) (a : List Cn) (B : Option Addr) (cb : Nat) (b : List Cn) (w : World) (hA : CRow w A a) (hB : CRow w B b) (hc : CnsOk a) (ho : CnsOk b)
    (H1 : ∀ i, i < a.length → edgeOut a b i → rightP (thrA a i 1) a b) (H2 : ∀ i, i < b.length → edgeOut b a i → rightP (thrA b i (-1)) a b) :
    Calls Tryz.prog 78 #[.slice A a.length ca, .slice B b.length cb] w (ApartRes w a b) := by
  have kz : Blk (w.alloc (.cells #[.bool false, .int .i64 0, .int .i64 0, .int .i64 0, .int .i64 0, .slice none 0 0] 111)) w.heap.size [.bool false, .int .i64 0, .int .i64 0, .int .i64 0, .int .i64 0, .slice none 0 0] := Blk.new _ _
  have hx0 : Ext w (w.alloc (.cells #[.bool false, .int .i64 0, .int .i64 0, .int .i64 0, .int .i64 0, .slice none 0 0] 111)) := (Ext.refl _).alloc _
  have Hx0 := Lib.hid hx0
  have Kz := Lib.hid kz
  have r0 := kz.at_ 0 rfl
  have r1 := kz.at_ 1 rfl
  have r2 := kz.at_ 2 rfl
  have r3 := kz.at_ 3 rfl
  have r4 := kz.at_ 4 rfl
  have r5 := kz.at_ 5 rfl
  have rf := fun j => kz.free j
  clear hx0 kz
  by_cases h1 : partP a b
  · have ci := fun w' (he : Ext w w') => inside_out A ca a B cb b w' (hA.ext he) (hB.ext he) hc ho h1
    have ct := fun i (hi : i < a.length) w' (he : Ext w w') => through_any A ca a i 1 w' (hA.ext he) hc hi (.inl rfl)
    have hfin : ∀ (i : Nat) (w' : World), i < a.length → edgeOut a b i → Ext w w' → ApartRes w a b (.returned ((thrA a i 1).val none 0)) w' := fun i w' hi he hx => ⟨_, none, 0, rfl, apr_none (thr_ins _ _ _), hx, H1 i hi he, fun ad h => by cases h⟩
    have Ci := Lib.hid ci
    have Ct := Lib.hid ct
    have Hfin := Lib.hid hfin
    clear ci ct hfin H1 H2 hA hB hc ho h1
    obtain ⟨n, hn⟩ : ∃ n, n = a.length := ⟨_, rfl⟩
    rw [← hn] at Ci Ct Hfin ⊢
    clear hn
    generalize b.length = m at *
    go_enter Tryz.func78, Tryz.ntmps78
    go_wp2_with (first
      | (go_at_call 110; refine (Ci.out _ Hx0.out).mono ?_; rintro e w1 ⟨i, rfl, hx1, hi, he⟩; have hxx := Hx0.out.trans hx1; have Hi := Lib.hid hi; have He := Lib.hid he; clear hi he; replace r0 : ∀ w', Ext w1 w' → _ := fun w' he => r0 w' (hx1.trans he); replace r1 : ∀ w', Ext w1 w' → _ := fun w' he => r1 w' (hx1.trans he); replace r2 : ∀ w', Ext w1 w' → _ := fun w' he => r2 w' (hx1.trans he); replace r3 : ∀ w', Ext w1 w' → _ := fun w' he => r3 w' (hx1.trans he); replace r4 : ∀ w', Ext w1 w' → _ := fun w' he => r4 w' (hx1.trans he); replace r5 : ∀ w', Ext w1 w' → _ := fun w' he => r5 w' (hx1.trans he); replace rf : ∀ j w', Ext w1 w' → _ := fun j w' he => rf j w' (hx1.trans he))
      | (go_at_call 111; refine (Ct.out i Hi.out _ hxx).mono ?_; rintro e w2 ⟨rfl, hx2⟩; replace r0 : ∀ w', Ext w2 w' → _ := fun w' he => r0 w' (hx2.trans he); replace r1 : ∀ w', Ext w2 w' → _ := fun w' he => r1 w' (hx2.trans he); replace r2 : ∀ w', Ext w2 w' → _ := fun w' he => r2 w' (hx2.trans he); replace r3 : ∀ w', Ext w2 w' → _ := fun w' he => r3 w' (hx2.trans he); replace r4 : ∀ w', Ext w2 w' → _ := fun w' he => r4 w' (hx2.trans he); replace r5 : ∀ w', Ext w2 w' → _ := fun w' he => r5 w' (hx2.trans he); replace rf : ∀ j w', Ext w2 w' → _ := fun j w' he => rf j w' (hx2.trans he)))
    have kf := ((((((((Kz.out.ext hx1).ext hx2).set (j := 0) (by simp) (.bool (thrA a i 1).clear)).set (j := 1) (by simp) (.int .i64 (thrA a i 1).A)).set (j := 2) (by simp) (.int .i64 (thrA a i 1).B)).set (j := 3) (by simp) (.int .i64 (thrA a i 1).C)).set (j := 4) (by simp) (.int .i64 (thrA a i 1).E)).set (j := 5) (by simp) (.slice none 0 0))
    refine bodyPost_ret (results_apart rfl _ _ rfl kf) rfl (Hfin.out i _ Hi.out He.out ?_)
    exact (((((((hxx.trans hx2).setCell (Nat.le_refl _) _).setCell (Nat.le_refl _) _).setCell (Nat.le_refl _) _).setCell (Nat.le_refl _) _).setCell (Nat.le_refl _) _).setCell (Nat.le_refl _) _)
  · have ci := fun w' (he : Ext w w') => inside_in A ca a B cb b w' (hA.ext he) (hB.ext he) hc ho h1
    by_cases h2 : partP b a
    · have cj := fun w' (he : Ext w w') => inside_out B cb b A ca a w' (hB.ext he) (hA.ext he) ho hc h2
      have ct := fun i (hi : i < b.length) w' (he : Ext w w') => through_any B cb b i (-1) w' (hB.ext he) ho hi (.inr rfl)
      have hfin : ∀ (i : Nat) (w' : World), i < b.length → edgeOut b a i → Ext w w' → ApartRes w a b (.returned ((thrA b i (-1)).val none 0)) w' := fun i w' hi he hx => ⟨_, none, 0, rfl, apr_none (thr_ins _ _ _), hx, H2 i hi he, fun ad h => by cases h⟩
      have Ci := Lib.hid ci
      have Cj := Lib.hid cj
      have Ct := Lib.hid ct
      have Hfin := Lib.hid hfin
      clear ci cj ct hfin H1 H2 hA hB hc ho h1 h2
      generalize hn : a.length = n at Ci Cj Ct Hfin ⊢
      generalize hm : b.length = m at Ci Cj Ct Hfin ⊢
      go_enter Tryz.func78, Tryz.ntmps78
      go_wp2_with (first
        | (go_at_call 110; ((with_reducible refine (Ci.out _ Hx0.out).mono ?_); rintro e w0 ⟨v, ins, rfl, ho0, hil, hin⟩); have hx0 := ho0.ext; have hxy := Hx0.out.trans hx0; clear hin; replace r0 : ∀ w', Ext w0 w' → _ := fun w' he => r0 w' (hx0.trans he); replace r1 : ∀ w', Ext w0 w' → _ := fun w' he => r1 w' (hx0.trans he); replace r2 : ∀ w', Ext w0 w' → _ := fun w' he => r2 w' (hx0.trans he); replace r3 : ∀ w', Ext w0 w' → _ := fun w' he => r3 w' (hx0.trans he); replace r4 : ∀ w', Ext w0 w' → _ := fun w' he => r4 w' (hx0.trans he); replace r5 : ∀ w', Ext w0 w' → _ := fun w' he => r5 w' (hx0.trans he); replace rf : ∀ j w', Ext w0 w' → _ := fun j w' he => rf j w' (hx0.trans he))
        | (go_at_call 110; ((with_reducible refine (Cj.out _ hxy).mono ?_); rintro e w1 ⟨i, rfl, hx1, hi, he⟩); have hxx := hxy.trans hx1; have Hi := Lib.hid hi; have He := Lib.hid he; clear hi he; replace r0 : ∀ w', Ext w1 w' → _ := fun w' he => r0 w' (hx1.trans he); replace r1 : ∀ w', Ext w1 w' → _ := fun w' he => r1 w' (hx1.trans he); replace r2 : ∀ w', Ext w1 w' → _ := fun w' he => r2 w' (hx1.trans he); replace r3 : ∀ w', Ext w1 w' → _ := fun w' he => r3 w' (hx1.trans he); replace r4 : ∀ w', Ext w1 w' → _ := fun w' he => r4 w' (hx1.trans he); replace r5 : ∀ w', Ext w1 w' → _ := fun w' he => r5 w' (hx1.trans he); replace rf : ∀ j w', Ext w1 w' → _ := fun j w' he => rf j w' (hx1.trans he))
        | (go_at_call 111; refine (Ct.out i Hi.out _ hxx).mono ?_; rintro e w2 ⟨rfl, hx2⟩; replace r0 : ∀ w', Ext w2 w' → _ := fun w' he => r0 w' (hx2.trans he); replace r1 : ∀ w', Ext w2 w' → _ := fun w' he => r1 w' (hx2.trans he); replace r2 : ∀ w', Ext w2 w' → _ := fun w' he => r2 w' (hx2.trans he); replace r3 : ∀ w', Ext w2 w' → _ := fun w' he => r3 w' (hx2.trans he); replace r4 : ∀ w', Ext w2 w' → _ := fun w' he => r4 w' (hx2.trans he); replace r5 : ∀ w', Ext w2 w' → _ := fun w' he => r5 w' (hx2.trans he); replace rf : ∀ j w', Ext w2 w' → _ := fun j w' he => rf j w' (hx2.trans he)))
      have kf := (((((((((Kz.out.ext hx0).ext hx1).ext hx2).set (j := 0) (by simp) (.bool (thrA b i (-1)).clear)).set (j := 1) (by simp) (.int .i64 (thrA b i (-1)).A)).set (j := 2) (by simp) (.int .i64 (thrA b i (-1)).B)).set (j := 3) (by simp) (.int .i64 (thrA b i (-1)).C)).set (j := 4) (by simp) (.int .i64 (thrA b i (-1)).E)).set (j := 5) (by simp) (.slice none 0 0))
      refine bodyPost_ret (results_apart rfl _ _ rfl kf) rfl (Hfin.out i _ Hi.out He.out ?_)
      exact (((((((hxx.trans hx2).setCell (Nat.le_refl _) _).setCell (Nat.le_refl _) _).setCell (Nat.le_refl _) _).setCell (Nat.le_refl _) _).setCell (Nat.le_refl _) _).setCell (Nat.le_refl _) _)
    · have cj := fun w' (he : Ext w w') => inside_in B cb b A ca a w' (hB.ext he) (hA.ext he) ho hc h2
      have hfin : ∀ (i1 i2 : List Int) (I : Option Addr) (ic : Nat) (w' : World), i1.length = a.length → i2.length = b.length → (∀ n, n < a.length → inAt a b n (i1.getD n 0)) → (∀ n, n < b.length → inAt b a n (i2.getD n 0)) → Ints w' I (i1 ++ i2) → a.length + b.length ≤ ic → (∀ ad, I = some ad → w.heap.size ≤ ad.block) → Ext w w' → ApartRes w a b (.returned (.agg #[.bool false, .int .i64 0, .int .i64 0, .int .i64 0, .int .i64 0, .slice I (a.length + b.length) ic])) w' := fun i1 i2 I ic w' l1 l2 h1 h2 hI hic hnew hx => by
        have hl : (i1 ++ i2).length = a.length + b.length := by simp [l1, l2]
        have h8 := hc.len
        have h9 := ho.len
        refine ⟨⟨false, 0, 0, 0, 0, i1 ++ i2⟩, I, ic, by rw [← hl], ⟨hI, by rw [hl]; exact hic, by simp only [hl]; omega⟩, hx, ?_, hnew⟩
        unfold rightP
        rw [if_neg (by simp)]
        refine ⟨⟨rfl, rfl, rfl, rfl⟩, hl, fun n hn => ?_, fun n hn => ?_⟩
        · have e : (i1 ++ i2).getD n 0 = i1.getD n 0 := by simp [List.getD, List.getElem?_append_left (show n < i1.length by omega)]
          simp only
          rw [e]; exact h1 n hn
        · have e : (i1 ++ i2).getD (a.length + n) 0 = i2.getD n 0 := by rw [← l1]; simp [List.getD, List.getElem?_append_right]
          simp only
          rw [e]; exact h2 n hn
      have hn8 := hc.len
      have hm8 := ho.len
      have Ci := Lib.hid ci
      have Cj := Lib.hid cj
      have Hfin := Lib.hid hfin
      clear ci cj hfin H1 H2 hA hB hc ho h1 h2
      generalize hn : a.length = n at Ci Cj Hfin hn8 ⊢
      generalize hm : b.length = m at Ci Cj Hfin hm8 ⊢
      go_enter Tryz.func78, Tryz.ntmps78
      go_wp2_with (first
        | (go_at_call 110; ((with_reducible refine (Ci.out _ Hx0.out).mono ?_); rintro e w1 ⟨v1, i1, rfl, ho1, hl1, hin1⟩); have hx1 := ho1.ext; have hxx := Hx0.out.trans hx1; have Hin1 := Lib.hid hin1; clear hin1; replace r0 : ∀ w', Ext w1 w' → _ := fun w' he => r0 w' (hx1.trans he); replace r1 : ∀ w', Ext w1 w' → _ := fun w' he => r1 w' (hx1.trans he); replace r2 : ∀ w', Ext w1 w' → _ := fun w' he => r2 w' (hx1.trans he); replace r3 : ∀ w', Ext w1 w' → _ := fun w' he => r3 w' (hx1.trans he); replace r4 : ∀ w', Ext w1 w' → _ := fun w' he => r4 w' (hx1.trans he); replace r5 : ∀ w', Ext w1 w' → _ := fun w' he => r5 w' (hx1.trans he); replace rf : ∀ j w', Ext w1 w' → _ := fun j w' he => rf j w' (hx1.trans he))
        | (go_at_call 110; ((with_reducible refine (Cj.out _ hxx).mono ?_); rintro e w2 ⟨v2, i2, rfl, ho2, hl2, hin2⟩); have hx2 := ho2.ext; have Hin2 := Lib.hid hin2; clear hin2; obtain ⟨g2, c2, rfl, _, _⟩ := ho2.at_ (by omega); replace r0 : ∀ w', Ext w2 w' → _ := fun w' he => r0 w' (hx2.trans he); replace r1 : ∀ w', Ext w2 w' → _ := fun w' he => r1 w' (hx2.trans he); replace r2 : ∀ w', Ext w2 w' → _ := fun w' he => r2 w' (hx2.trans he); replace r3 : ∀ w', Ext w2 w' → _ := fun w' he => r3 w' (hx2.trans he); replace r4 : ∀ w', Ext w2 w' → _ := fun w' he => r4 w' (hx2.trans he); replace r5 : ∀ w', Ext w2 w' → _ := fun w' he => r5 w' (hx2.trans he); replace rf : ∀ j w', Ext w2 w' → _ := fun j w' he => rf j w' (hx2.trans he))
        | (refine own_append_src (w1 := (w.alloc (.cells #[.bool false, .int .i64 0, .int .i64 0, .int .i64 0, .int .i64 0, .slice none 0 0] 111))) int_elem rfl _ _ 26 rfl Tryz.underlying26 _ n _ rfl (ho1.later hx2) _ m _ _ rfl (by simpa using hl2) ho2.row (ints_cells_one _) (by omega) (by unfold maxLen; omega) ?_; intro v3 w3 ho3 hg3; obtain ⟨A3, c3, rfl, hc3⟩ := ho3.form2; have hx3 := ho3.ext; replace r0 := (Kz.out.ext hx3).at_ 0 rfl; replace r1 := (Kz.out.ext hx3).at_ 1 rfl; replace r2 := (Kz.out.ext hx3).at_ 2 rfl; replace r3 := (Kz.out.ext hx3).at_ 3 rfl; replace r4 := (Kz.out.ext hx3).at_ 4 rfl; replace r5 := (Kz.out.ext hx3).at_ 5 rfl; replace rf := fun j => (Kz.out.ext hx3).free j))
      have kf := (((((((Kz.out.ext hx3).set (j := 0) (by simp) (.bool false)).set (j := 1) (by simp) (.int .i64 0)).set (j := 2) (by simp) (.int .i64 0)).set (j := 3) (by simp) (.int .i64 0)).set (j := 4) (by simp) (.int .i64 0)).set (j := 5) (by simp) (.slice A3 (n + m) c3))
      have hne : (Value.slice A3 (n + m) c3).ownBlock ≠ some w.heap.size := fun h => by
        have := (ho3.lt h).1
        simp at this
        omega
      have ho4 := (((((((ho3.since Hx0.out).other (p := ⟨w.heap.size, 0, none⟩) (Nat.le_refl _) hne (.bool false)).other (p := ⟨w.heap.size, 1, none⟩) (Nat.le_refl _) hne (.int .i64 0)).other (p := ⟨w.heap.size, 2, none⟩) (Nat.le_refl _) hne (.int .i64 0)).other (p := ⟨w.heap.size, 3, none⟩) (Nat.le_refl _) hne (.int .i64 0)).other (p := ⟨w.heap.size, 4, none⟩) (Nat.le_refl _) hne (.int .i64 0)).other (p := ⟨w.heap.size, 5, none⟩) (Nat.le_refl _) hne (.slice A3 (n + m) c3))
      have hI4 := ho4.row
      rw [← List.map_append] at hI4
      refine bodyPost_ret (results_apart rfl _ _ rfl kf) rfl (Hfin.out i1 i2 A3 c3 _ hl1 hl2 Hin1.out Hin2.out ?_ hc3 (fun ad e => by subst e; have := (ho3.lt (g := ad.block) (by simp [Value.ownBlock])).1; simp at this; omega) ?_)
      · exact hI4
      · exact (((((((Hx0.out.trans hx3).setCell (Nat.le_refl _) _).setCell (Nat.le_refl _) _).setCell (Nat.le_refl _) _).setCell (Nat.le_refl _) _).setCell (Nat.le_refl _) _).setCell (Nat.le_refl _) _)
end Go.Proofs.YtebkhdhhajjhfaaGreat
