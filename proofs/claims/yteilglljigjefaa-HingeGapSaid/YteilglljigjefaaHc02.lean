/- Which proofs are right: by the code. -/
import Derived.BigRegion
import Derived.Test.YteilglljigjefaaHc01
namespace Go.Proofs.Yteilglljigjefaa
open Go.RowKit
/-- A proof in memory. -/
structure AprIn (w : World) (r : Apr) (I : Option Addr) (ic : Nat) : Prop where
  ins : Ints w I r.ins
  cap : r.ins.length ≤ ic
  len : r.ins.length ≤ 9223372036854775807
theorem AprIn.ext {w w' : World} {r : Apr} {I : Option Addr} {ic : Nat} (h : AprIn w r I ic) (he : Ext w w') : AprIn w' r I ic := ⟨h.ins.ext he, h.cap, h.len⟩
theorem ovr_pos {r : Apr} {c : Cn} : 0 < ovr r.A r.B r.C r.E c ↔ r.C * c.d < lineN r c := cmpI_pos
theorem ovr_neg {r : Apr} {c : Cn} : ovr r.A r.B r.C r.E c < 0 ↔ lineN r c < r.C * c.d := cmpI_neg
theorem right_any (r : Apr) (I : Option Addr) (ic : Nat) (A : Option Addr) (ca : Nat) (a : List Cn) (B : Option Addr) (cb : Nat) (b : List Cn) (w : World) (hr : AprIn w r I ic) (hA : CRow w A a) (hB : CRow w B b) (hc : CnsOk a) (ho : CnsOk b) :
    Calls Try.prog 76 #[r.val I ic, .slice A a.length ca, .slice B b.length cb] w fun en w' => en = .returned (.bool (rightB r a b)) ∧ Ext w w' := by
  obtain ⟨rc, rA, rB, rC, rE, ins⟩ := r
  cases rc
  · rw [rightB_ins rfl]
    by_cases h : (rA = 0 ∧ rB = 0 ∧ rC = 0 ∧ rE = 0) ∧ ins.length = a.length + b.length
    · obtain ⟨h0, hl⟩ := h
      obtain ⟨rfl, rfl, rfl, rfl⟩ := id h0
      have hi := hr.ins
      obtain ⟨ad, rfl, _⟩ := hi 0 (by have := hc.len; simp only [List.length_map]; omega)
      have key := right_left ad ic ins A ca a B cb b w hA hB hc ho hi hl hr.cap
      have e : decide (insP ⟨false, 0, 0, 0, 0, ins⟩ a b) = (leftB a b (ins.take a.length) && leftB b a (ins.drop a.length)) := by
        rw [Bool.eq_iff_iff, decide_eq_true_iff, insP_iff ⟨rfl, rfl, rfl, rfl⟩ hl, Bool.and_eq_true]
        unfold leftB
        rw [decide_eq_true_iff, decide_eq_true_iff]
      rw [e]
      exact key
    · have key := right_none rA rB rC rE I ins.length ic A a.length ca B b.length cb w hc.len.2 ho.len.2 h
      rw [show decide (insP ⟨false, rA, rB, rC, rE, ins⟩ a b) = false from decide_eq_false fun h' => h ⟨h'.1, h'.2.1⟩]
      exact key
  · rw [rightB_clear rfl]
    by_cases hh : headP ⟨true, rA, rB, rC, rE, ins⟩
    · obtain ⟨h1, h2, h3, h4, h5, h6⟩ := id hh
      have h1 : ins.length = 0 := h1
      have key := right_line rA rB rC rE I ic A ca a B cb b w hA hB hc ho (btwB ⟨true, rA, rB, rC, rE, ins⟩ a b) h2 h3 h4 h5 h6 (by
        unfold btwB
        rw [decide_eq_true_iff, btwP_iff]
        constructor
        · rintro ⟨_, g1, g2⟩
          refine ⟨fun ⟨k, hk, h⟩ => ?_, fun ⟨k, hk, h⟩ => ?_⟩
          · have := g1 k hk
            have := (ovr_pos (r := ⟨true, rA, rB, rC, rE, ins⟩)).1 h
            omega
          · have := g2 k hk
            have := (ovr_neg (r := ⟨true, rA, rB, rC, rE, ins⟩)).1 h
            omega
        · rintro ⟨g1, g2⟩
          refine ⟨hh, fun k hk => ?_, fun k hk => ?_⟩
          · exact Int.not_lt.1 fun h => g1 ⟨k, hk, (ovr_pos (r := ⟨true, rA, rB, rC, rE, ins⟩)).2 h⟩
          · exact Int.not_lt.1 fun h => g2 ⟨k, hk, (ovr_neg (r := ⟨true, rA, rB, rC, rE, ins⟩)).2 h⟩)
      show Calls Try.prog 76 #[.agg #[.bool true, vint rA, vint rB, vint rC, vint rE, .slice I ins.length ic], .slice A a.length ca, .slice B b.length cb] w _
      rw [h1]
      exact key
    · rw [← btwB_no fun h => hh (btwP_iff.1 h).1]
      exact right_head rA rB rC rE I ins.length ic A a.length ca B b.length cb w hh
def apartE (ps : List (List Sp)) (hs : List Hg) (i k : Int) (r : Apr) : Int := if twoE ps hs i k = 0 then (if rightB r (pcrn ps hs i.toNat) (pcrn ps hs k.toNat) = true then 0 else 31) else twoE ps hs i k
theorem apartE_nat {ps : List (List Sp)} {hs : List Hg} {i k : Nat} {r : Apr} (h : twoE ps hs i k = 0) : apartE ps hs i k r = if rightB r (pcrn ps hs i) (pcrn ps hs k) = true then 0 else 31 := by rw [apartE, if_pos h]; simp
set_option maxRecDepth 100000 in
set_option maxHeartbeats 4000000 in
theorem checkapart_any (A : Option Addr) (c : Nat) (ps : List (List Sp)) (B : Option Addr) (d : Nat) (hs : List Hg) (i k : Int) (r : Apr) (I : Option Addr) (ic : Nat) (w : World) (hL : Lk w A ps B hs) (hr : AprIn w r I ic) :
    Calls Try.prog 44 #[.agg #[.slice A ps.length c, .slice B hs.length d], .int .i64 i, .int .i64 k, r.val I ic] w fun e w' => e = .returned (.int .i64 (apartE ps hs i k r)) ∧ Ext w w' := by
  rcases two_cases ps hs i k with ⟨h1, ⟨a, b, rfl, rfl, ha, hb, hne⟩, h2⟩ | ⟨h2, h3⟩
  · have ht := fun w' (he : Ext w w') => two_in A c ps B d hs a b w' (hL.ext he) h1 ha hb hne
    have hri := fun (X Y : Option Addr) (x y : Nat) w' (he : Ext w w') (hX : CRow w' X (pcrn ps hs a)) (hY : CRow w' Y (pcrn ps hs b)) => right_any r I ic X x _ Y y _ w' (hr.ext he) hX hY (pcrn_ok h1 ha) (pcrn_ok h1 hb)
    rw [apartE_nat h2]
    have Ht := Lib.hid ht
    have Hri := Lib.hid hri
    clear ht hri hL h1 h2 ha hb hne hr
    generalize rightB r (pcrn ps hs a) (pcrn ps hs b) = R at *
    obtain ⟨rc, rA, rB, rC, rE, ins⟩ := r
    generalize ps.length = np at *
    generalize hs.length = nh at *
    generalize (pcrn ps hs a).length = m1 at *
    generalize (pcrn ps hs b).length = m2 at *
    have kl : Blk ((w.alloc (.cells #[.slice A np c, .slice B nh d] 25)).alloc (.cells #[.bool rc, vint rA, vint rB, vint rC, vint rE, .slice I ins.length ic] 67)) w.heap.size [.slice A np c, .slice B nh d] := (Blk.new _ _).ext ((Ext.refl _).alloc _)
    have ka : Blk ((w.alloc (.cells #[.slice A np c, .slice B nh d] 25)).alloc (.cells #[.bool rc, vint rA, vint rB, vint rC, vint rE, .slice I ins.length ic] 67)) (w.heap.size + 1) [.bool rc, vint rA, vint rB, vint rC, vint rE, .slice I ins.length ic] := Blk.new' (cs := #[.bool rc, vint rA, vint rB, vint rC, vint rE, .slice I ins.length ic]) (by simp)
    have b0 := kl.at_ 0 rfl
    have b1 := kl.at_ 1 rfl
    have a0 := ka.at_ 0 rfl
    have a1 := ka.at_ 1 rfl
    have a2 := ka.at_ 2 rfl
    have a3 := ka.at_ 3 rfl
    have a4 := ka.at_ 4 rfl
    have a5 := ka.at_ 5 rfl
    have hx0 : Ext w ((w.alloc (.cells #[.slice A np c, .slice B nh d] 25)).alloc (.cells #[.bool rc, vint rA, vint rB, vint rC, vint rE, .slice I ins.length ic] 67)) := ((Ext.refl _).alloc _).alloc _
    have Hx0 := Lib.hid hx0
    clear kl ka hx0
    cases R
    all_goals
      go_enter Try.func44, Try.ntmps44
      go_wp2_with (first
        | (go_at_call 73; refine (Ht.out _ Hx0.out).mono ?_; rintro e w1 ⟨X, x, Y, y, rfl, hX, hY, hx1⟩; have hxx := Hx0.out.trans hx1; replace b0 : ∀ w', Ext w1 w' → _ := fun w' he => b0 w' (hx1.trans he); replace b1 : ∀ w', Ext w1 w' → _ := fun w' he => b1 w' (hx1.trans he); replace a0 : ∀ w', Ext w1 w' → _ := fun w' he => a0 w' (hx1.trans he); replace a1 : ∀ w', Ext w1 w' → _ := fun w' he => a1 w' (hx1.trans he); replace a2 : ∀ w', Ext w1 w' → _ := fun w' he => a2 w' (hx1.trans he); replace a3 : ∀ w', Ext w1 w' → _ := fun w' he => a3 w' (hx1.trans he); replace a4 : ∀ w', Ext w1 w' → _ := fun w' he => a4 w' (hx1.trans he); replace a5 : ∀ w', Ext w1 w' → _ := fun w' he => a5 w' (hx1.trans he))
        | (go_at_call 76; refine (Hri.out X Y x y _ hxx hX hY).mono ?_; rintro e w2 ⟨rfl, hx2⟩))
      go_ret
      exact ⟨rfl, hxx.trans hx2⟩
  · have ht := fun w' (he : Ext w w') => two_err A c ps B d hs i k w' (hL.ext he) h3
    have hne : ¬ twoE ps hs i k = 0 := by omega
    rw [apartE, if_neg hne]
    have d1 : (twoE ps hs i k != 0) = true := by simpa using hne
    have Ht := Lib.hid ht
    clear ht hL h2 hne h3 hr
    generalize twoE ps hs i k = E at *
    obtain ⟨rc, rA, rB, rC, rE, ins⟩ := r
    generalize ps.length = np at *
    generalize hs.length = nh at *
    have kl : Blk ((w.alloc (.cells #[.slice A np c, .slice B nh d] 25)).alloc (.cells #[.bool rc, vint rA, vint rB, vint rC, vint rE, .slice I ins.length ic] 67)) w.heap.size [.slice A np c, .slice B nh d] := (Blk.new _ _).ext ((Ext.refl _).alloc _)
    have ka : Blk ((w.alloc (.cells #[.slice A np c, .slice B nh d] 25)).alloc (.cells #[.bool rc, vint rA, vint rB, vint rC, vint rE, .slice I ins.length ic] 67)) (w.heap.size + 1) [.bool rc, vint rA, vint rB, vint rC, vint rE, .slice I ins.length ic] := Blk.new' (cs := #[.bool rc, vint rA, vint rB, vint rC, vint rE, .slice I ins.length ic]) (by simp)
    have b0 := kl.at_ 0 rfl
    have b1 := kl.at_ 1 rfl
    have a0 := ka.at_ 0 rfl
    have a1 := ka.at_ 1 rfl
    have a2 := ka.at_ 2 rfl
    have a3 := ka.at_ 3 rfl
    have a4 := ka.at_ 4 rfl
    have a5 := ka.at_ 5 rfl
    have hx0 : Ext w ((w.alloc (.cells #[.slice A np c, .slice B nh d] 25)).alloc (.cells #[.bool rc, vint rA, vint rB, vint rC, vint rE, .slice I ins.length ic] 67)) := ((Ext.refl _).alloc _).alloc _
    have Hx0 := Lib.hid hx0
    clear kl ka hx0
    go_enter Try.func44, Try.ntmps44
    go_wp2_with (go_at_call 73; refine (Ht.out _ Hx0.out).mono ?_; rintro e w1 ⟨rfl, hx1⟩; have hxx := Hx0.out.trans hx1)
    go_ret
    exact ⟨rfl, hxx⟩
end Go.Proofs.Yteilglljigjefaa

/- Which proofs are right: by the reference. -/
namespace Go.Proofs.Yteilglljigjefaa
open Go.RowKit
/-- The two lists of corners, as the reference asks for them. -/
def CrIn (A : Option Addr) (np c : Nat) (B : Option Addr) (nh d i : Nat) (L : List Sp) (m : Nat) (e : Int) (w : World) : Prop :=
  ∀ w', Ext w w' → Calls Try.prog 67 #[.agg #[.slice A np c, .slice B nh d], .int .i64 i] w' fun en w'' => ∃ X x, en = .returned (.tuple #[.slice X m x, .int .i64 e]) ∧ SRow w'' X L ∧ Ext w' w''
theorem crIn_of {A : Option Addr} {c : Nat} {ps : List (List Sp)} {B : Option Addr} {d : Nat} {hs : List Hg} {i : Nat} {w : World} (hL : Lk w A ps B hs) (hl : linkP ps hs) (hi : i < ps.length) : CrIn A ps.length c B hs.length d i (crnS (posF hs i) (pnA ps i)) (crnS (posF hs i) (pnA ps i)).length (posF hs i).d w := fun w' he =>
  (cornered_any A c ps B d hs i w' (hL.ext he) hl hi).mono fun e w'' ⟨v, h, ho⟩ => by
    obtain ⟨X, x, rfl⟩ := ho.form
    exact ⟨X, x, h, ho.row, ho.ext⟩
set_option maxRecDepth 100000 in
set_option maxHeartbeats 4000000 in
theorem rightr_line (rA rB rC rE : Int) (I : Option Addr) (q ic : Nat) (A : Option Addr) (np c : Nat) (B : Option Addr) (nh d i k : Nat) (L1 L2 : List Sp) (m1 m2 : Nat) (e1 e2 : Int) (w : World) (h1 : CrIn A np c B nh d i L1 m1 e1 w) (h2 : CrIn A np c B nh d k L2 m2 e2 w) (R : Bool)
    (hb : ∀ (X Y : Option Addr) (x y : Nat) w', SRow w' X L1 → SRow w' Y L2 → Calls Try.prog 101 #[.agg #[.bool true, vint rA, vint rB, vint rC, vint rE, .slice I q ic], .slice X m1 x, .int .i64 e1, .slice Y m2 y, .int .i64 e2] w' fun en w'' => en = .returned (.bool R) ∧ Ext w' w'') :
    Calls Try.prog 77 #[.agg #[.slice A np c, .slice B nh d], .int .i64 i, .int .i64 k, .agg #[.bool true, vint rA, vint rB, vint rC, vint rE, .slice I q ic]] w fun en w' => en = .returned (.bool R) ∧ Ext w w' := by
  have Hc1 := Lib.hid h1
  have Hc2 := Lib.hid h2
  have Hb := Lib.hid hb
  clear h1 h2 hb
  unfold CrIn at Hc1 Hc2
  have kl : Blk ((w.alloc (.cells #[.slice A np c, .slice B nh d] 25)).alloc (.cells #[.bool true, vint rA, vint rB, vint rC, vint rE, .slice I q ic] 67)) w.heap.size [.slice A np c, .slice B nh d] := (Blk.new _ _).ext ((Ext.refl _).alloc _)
  have ka : Blk ((w.alloc (.cells #[.slice A np c, .slice B nh d] 25)).alloc (.cells #[.bool true, vint rA, vint rB, vint rC, vint rE, .slice I q ic] 67)) (w.heap.size + 1) [.bool true, vint rA, vint rB, vint rC, vint rE, .slice I q ic] := Blk.new' (cs := #[.bool true, vint rA, vint rB, vint rC, vint rE, .slice I q ic]) (by simp)
  have b0 := kl.at_ 0 rfl
  have b1 := kl.at_ 1 rfl
  have a0 := ka.at_ 0 rfl
  have a1 := ka.at_ 1 rfl
  have a2 := ka.at_ 2 rfl
  have a3 := ka.at_ 3 rfl
  have a4 := ka.at_ 4 rfl
  have a5 := ka.at_ 5 rfl
  have hx0 : Ext w ((w.alloc (.cells #[.slice A np c, .slice B nh d] 25)).alloc (.cells #[.bool true, vint rA, vint rB, vint rC, vint rE, .slice I q ic] 67)) := ((Ext.refl _).alloc _).alloc _
  have Hx0 := Lib.hid hx0
  clear kl ka hx0
  go_enter Try.func77, Try.ntmps77
  go_wp2_with (first
      | (go_at_call 67; ((with_reducible refine (Hc1.out _ Hx0.out).mono ?_); rintro e w1 ⟨X1, x1, rfl, hX1, hx1⟩); have hxx := Hx0.out.trans hx1; replace b0 : ∀ w', Ext w1 w' → _ := fun w' he => b0 w' (hx1.trans he); replace b1 : ∀ w', Ext w1 w' → _ := fun w' he => b1 w' (hx1.trans he); replace a0 : ∀ w', Ext w1 w' → _ := fun w' he => a0 w' (hx1.trans he); replace a1 : ∀ w', Ext w1 w' → _ := fun w' he => a1 w' (hx1.trans he); replace a2 : ∀ w', Ext w1 w' → _ := fun w' he => a2 w' (hx1.trans he); replace a3 : ∀ w', Ext w1 w' → _ := fun w' he => a3 w' (hx1.trans he); replace a4 : ∀ w', Ext w1 w' → _ := fun w' he => a4 w' (hx1.trans he); replace a5 : ∀ w', Ext w1 w' → _ := fun w' he => a5 w' (hx1.trans he))
      | (go_at_call 67; ((with_reducible refine (Hc2.out _ hxx).mono ?_); rintro e w2 ⟨X2, x2, rfl, hX2, hx2⟩); have hxy := hxx.trans hx2; replace b0 : ∀ w', Ext w2 w' → _ := fun w' he => b0 w' (hx2.trans he); replace b1 : ∀ w', Ext w2 w' → _ := fun w' he => b1 w' (hx2.trans he); replace a0 : ∀ w', Ext w2 w' → _ := fun w' he => a0 w' (hx2.trans he); replace a1 : ∀ w', Ext w2 w' → _ := fun w' he => a1 w' (hx2.trans he); replace a2 : ∀ w', Ext w2 w' → _ := fun w' he => a2 w' (hx2.trans he); replace a3 : ∀ w', Ext w2 w' → _ := fun w' he => a3 w' (hx2.trans he); replace a4 : ∀ w', Ext w2 w' → _ := fun w' he => a4 w' (hx2.trans he); replace a5 : ∀ w', Ext w2 w' → _ := fun w' he => a5 w' (hx2.trans he))
      | (go_at_call 101; refine (Hb.out X1 X2 x1 x2 _ (hX1.ext hx2) hX2).mono ?_; rintro e w3 ⟨rfl, hx3⟩))
  go_ret
  exact ⟨rfl, hxy.trans hx3⟩
set_option maxRecDepth 100000 in
set_option maxHeartbeats 8000000 in
theorem rightr_none (rA rB rC rE : Int) (I : Option Addr) (q ic : Nat) (A : Option Addr) (np c : Nat) (B : Option Addr) (nh d i k : Nat) (L1 L2 : List Sp) (m1 m2 : Nat) (e1 e2 : Int) (w : World) (h1 : CrIn A np c B nh d i L1 m1 e1 w) (h2 : CrIn A np c B nh d k L2 m2 e2 w) (h3 : m1 ≤ 8) (h4 : m2 ≤ 8)
    (hbad : ¬ ((rA = 0 ∧ rB = 0 ∧ rC = 0 ∧ rE = 0) ∧ q = m1 + m2)) :
    Calls Try.prog 77 #[.agg #[.slice A np c, .slice B nh d], .int .i64 i, .int .i64 k, .agg #[.bool false, vint rA, vint rB, vint rC, vint rE, .slice I q ic]] w fun en w' => en = .returned (.bool false) ∧ Ext w w' := by
  have Hc1 := Lib.hid h1
  have Hc2 := Lib.hid h2
  clear h1 h2
  unfold CrIn at Hc1 Hc2
  have kl : Blk ((w.alloc (.cells #[.slice A np c, .slice B nh d] 25)).alloc (.cells #[.bool false, vint rA, vint rB, vint rC, vint rE, .slice I q ic] 67)) w.heap.size [.slice A np c, .slice B nh d] := (Blk.new _ _).ext ((Ext.refl _).alloc _)
  have ka : Blk ((w.alloc (.cells #[.slice A np c, .slice B nh d] 25)).alloc (.cells #[.bool false, vint rA, vint rB, vint rC, vint rE, .slice I q ic] 67)) (w.heap.size + 1) [.bool false, vint rA, vint rB, vint rC, vint rE, .slice I q ic] := Blk.new' (cs := #[.bool false, vint rA, vint rB, vint rC, vint rE, .slice I q ic]) (by simp)
  have b0 := kl.at_ 0 rfl
  have b1 := kl.at_ 1 rfl
  have a0 := ka.at_ 0 rfl
  have a1 := ka.at_ 1 rfl
  have a2 := ka.at_ 2 rfl
  have a3 := ka.at_ 3 rfl
  have a4 := ka.at_ 4 rfl
  have a5 := ka.at_ 5 rfl
  have hx0 : Ext w ((w.alloc (.cells #[.slice A np c, .slice B nh d] 25)).alloc (.cells #[.bool false, vint rA, vint rB, vint rC, vint rE, .slice I q ic] 67)) := ((Ext.refl _).alloc _).alloc _
  have Hx0 := Lib.hid hx0
  clear kl ka hx0
  by_cases c0 : rA = 0
  · have g0 : (rA != 0) = false := by simpa using c0
    by_cases c1 : rB = 0
    · have g1 : (rB != 0) = false := by simpa using c1
      by_cases c2 : rC = 0
      · have g2 : (rC != 0) = false := by simpa using c2
        by_cases c3 : rE = 0
        · have g3 : (rE != 0) = false := by simpa using c3
          have d5 : ((q : Int) != (m1 : Int) + (m2 : Int)) = true := by
            have : ¬ q = m1 + m2 := fun h => hbad ⟨⟨c0, c1, c2, c3⟩, h⟩
            simp; omega
          clear hbad c0 c1 c2 c3
          go_enter Try.func77, Try.ntmps77
          go_wp2_with (first
                | (go_at_call 67; ((with_reducible refine (Hc1.out _ Hx0.out).mono ?_); rintro e w1 ⟨X1, x1, rfl, hX1, hx1⟩); have hxx := Hx0.out.trans hx1; replace b0 : ∀ w', Ext w1 w' → _ := fun w' he => b0 w' (hx1.trans he); replace b1 : ∀ w', Ext w1 w' → _ := fun w' he => b1 w' (hx1.trans he); replace a0 : ∀ w', Ext w1 w' → _ := fun w' he => a0 w' (hx1.trans he); replace a1 : ∀ w', Ext w1 w' → _ := fun w' he => a1 w' (hx1.trans he); replace a2 : ∀ w', Ext w1 w' → _ := fun w' he => a2 w' (hx1.trans he); replace a3 : ∀ w', Ext w1 w' → _ := fun w' he => a3 w' (hx1.trans he); replace a4 : ∀ w', Ext w1 w' → _ := fun w' he => a4 w' (hx1.trans he); replace a5 : ∀ w', Ext w1 w' → _ := fun w' he => a5 w' (hx1.trans he))
                | (go_at_call 67; ((with_reducible refine (Hc2.out _ hxx).mono ?_); rintro e w2 ⟨X2, x2, rfl, hX2, hx2⟩); have hxy := hxx.trans hx2; replace b0 : ∀ w', Ext w2 w' → _ := fun w' he => b0 w' (hx2.trans he); replace b1 : ∀ w', Ext w2 w' → _ := fun w' he => b1 w' (hx2.trans he); replace a0 : ∀ w', Ext w2 w' → _ := fun w' he => a0 w' (hx2.trans he); replace a1 : ∀ w', Ext w2 w' → _ := fun w' he => a1 w' (hx2.trans he); replace a2 : ∀ w', Ext w2 w' → _ := fun w' he => a2 w' (hx2.trans he); replace a3 : ∀ w', Ext w2 w' → _ := fun w' he => a3 w' (hx2.trans he); replace a4 : ∀ w', Ext w2 w' → _ := fun w' he => a4 w' (hx2.trans he); replace a5 : ∀ w', Ext w2 w' → _ := fun w' he => a5 w' (hx2.trans he)))
          go_ret
          exact ⟨rfl, hxy⟩
        · have d4 : (rE != 0) = true := by simpa using c3
          clear hbad c0 c1 c2 c3
          go_enter Try.func77, Try.ntmps77
          go_wp2_with (first
                | (go_at_call 67; ((with_reducible refine (Hc1.out _ Hx0.out).mono ?_); rintro e w1 ⟨X1, x1, rfl, hX1, hx1⟩); have hxx := Hx0.out.trans hx1; replace b0 : ∀ w', Ext w1 w' → _ := fun w' he => b0 w' (hx1.trans he); replace b1 : ∀ w', Ext w1 w' → _ := fun w' he => b1 w' (hx1.trans he); replace a0 : ∀ w', Ext w1 w' → _ := fun w' he => a0 w' (hx1.trans he); replace a1 : ∀ w', Ext w1 w' → _ := fun w' he => a1 w' (hx1.trans he); replace a2 : ∀ w', Ext w1 w' → _ := fun w' he => a2 w' (hx1.trans he); replace a3 : ∀ w', Ext w1 w' → _ := fun w' he => a3 w' (hx1.trans he); replace a4 : ∀ w', Ext w1 w' → _ := fun w' he => a4 w' (hx1.trans he); replace a5 : ∀ w', Ext w1 w' → _ := fun w' he => a5 w' (hx1.trans he))
                | (go_at_call 67; ((with_reducible refine (Hc2.out _ hxx).mono ?_); rintro e w2 ⟨X2, x2, rfl, hX2, hx2⟩); have hxy := hxx.trans hx2; replace b0 : ∀ w', Ext w2 w' → _ := fun w' he => b0 w' (hx2.trans he); replace b1 : ∀ w', Ext w2 w' → _ := fun w' he => b1 w' (hx2.trans he); replace a0 : ∀ w', Ext w2 w' → _ := fun w' he => a0 w' (hx2.trans he); replace a1 : ∀ w', Ext w2 w' → _ := fun w' he => a1 w' (hx2.trans he); replace a2 : ∀ w', Ext w2 w' → _ := fun w' he => a2 w' (hx2.trans he); replace a3 : ∀ w', Ext w2 w' → _ := fun w' he => a3 w' (hx2.trans he); replace a4 : ∀ w', Ext w2 w' → _ := fun w' he => a4 w' (hx2.trans he); replace a5 : ∀ w', Ext w2 w' → _ := fun w' he => a5 w' (hx2.trans he)))
          go_ret
          exact ⟨rfl, hxy⟩
      · have d3 : (rC != 0) = true := by simpa using c2
        clear hbad c0 c1 c2
        go_enter Try.func77, Try.ntmps77
        go_wp2_with (first
              | (go_at_call 67; ((with_reducible refine (Hc1.out _ Hx0.out).mono ?_); rintro e w1 ⟨X1, x1, rfl, hX1, hx1⟩); have hxx := Hx0.out.trans hx1; replace b0 : ∀ w', Ext w1 w' → _ := fun w' he => b0 w' (hx1.trans he); replace b1 : ∀ w', Ext w1 w' → _ := fun w' he => b1 w' (hx1.trans he); replace a0 : ∀ w', Ext w1 w' → _ := fun w' he => a0 w' (hx1.trans he); replace a1 : ∀ w', Ext w1 w' → _ := fun w' he => a1 w' (hx1.trans he); replace a2 : ∀ w', Ext w1 w' → _ := fun w' he => a2 w' (hx1.trans he); replace a3 : ∀ w', Ext w1 w' → _ := fun w' he => a3 w' (hx1.trans he); replace a4 : ∀ w', Ext w1 w' → _ := fun w' he => a4 w' (hx1.trans he); replace a5 : ∀ w', Ext w1 w' → _ := fun w' he => a5 w' (hx1.trans he))
              | (go_at_call 67; ((with_reducible refine (Hc2.out _ hxx).mono ?_); rintro e w2 ⟨X2, x2, rfl, hX2, hx2⟩); have hxy := hxx.trans hx2; replace b0 : ∀ w', Ext w2 w' → _ := fun w' he => b0 w' (hx2.trans he); replace b1 : ∀ w', Ext w2 w' → _ := fun w' he => b1 w' (hx2.trans he); replace a0 : ∀ w', Ext w2 w' → _ := fun w' he => a0 w' (hx2.trans he); replace a1 : ∀ w', Ext w2 w' → _ := fun w' he => a1 w' (hx2.trans he); replace a2 : ∀ w', Ext w2 w' → _ := fun w' he => a2 w' (hx2.trans he); replace a3 : ∀ w', Ext w2 w' → _ := fun w' he => a3 w' (hx2.trans he); replace a4 : ∀ w', Ext w2 w' → _ := fun w' he => a4 w' (hx2.trans he); replace a5 : ∀ w', Ext w2 w' → _ := fun w' he => a5 w' (hx2.trans he)))
        go_ret
        exact ⟨rfl, hxy⟩
    · have d2 : (rB != 0) = true := by simpa using c1
      clear hbad c0 c1
      go_enter Try.func77, Try.ntmps77
      go_wp2_with (first
            | (go_at_call 67; ((with_reducible refine (Hc1.out _ Hx0.out).mono ?_); rintro e w1 ⟨X1, x1, rfl, hX1, hx1⟩); have hxx := Hx0.out.trans hx1; replace b0 : ∀ w', Ext w1 w' → _ := fun w' he => b0 w' (hx1.trans he); replace b1 : ∀ w', Ext w1 w' → _ := fun w' he => b1 w' (hx1.trans he); replace a0 : ∀ w', Ext w1 w' → _ := fun w' he => a0 w' (hx1.trans he); replace a1 : ∀ w', Ext w1 w' → _ := fun w' he => a1 w' (hx1.trans he); replace a2 : ∀ w', Ext w1 w' → _ := fun w' he => a2 w' (hx1.trans he); replace a3 : ∀ w', Ext w1 w' → _ := fun w' he => a3 w' (hx1.trans he); replace a4 : ∀ w', Ext w1 w' → _ := fun w' he => a4 w' (hx1.trans he); replace a5 : ∀ w', Ext w1 w' → _ := fun w' he => a5 w' (hx1.trans he))
            | (go_at_call 67; ((with_reducible refine (Hc2.out _ hxx).mono ?_); rintro e w2 ⟨X2, x2, rfl, hX2, hx2⟩); have hxy := hxx.trans hx2; replace b0 : ∀ w', Ext w2 w' → _ := fun w' he => b0 w' (hx2.trans he); replace b1 : ∀ w', Ext w2 w' → _ := fun w' he => b1 w' (hx2.trans he); replace a0 : ∀ w', Ext w2 w' → _ := fun w' he => a0 w' (hx2.trans he); replace a1 : ∀ w', Ext w2 w' → _ := fun w' he => a1 w' (hx2.trans he); replace a2 : ∀ w', Ext w2 w' → _ := fun w' he => a2 w' (hx2.trans he); replace a3 : ∀ w', Ext w2 w' → _ := fun w' he => a3 w' (hx2.trans he); replace a4 : ∀ w', Ext w2 w' → _ := fun w' he => a4 w' (hx2.trans he); replace a5 : ∀ w', Ext w2 w' → _ := fun w' he => a5 w' (hx2.trans he)))
      go_ret
      exact ⟨rfl, hxy⟩
  · have d1 : (rA != 0) = true := by simpa using c0
    clear hbad c0
    go_enter Try.func77, Try.ntmps77
    go_wp2_with (first
          | (go_at_call 67; ((with_reducible refine (Hc1.out _ Hx0.out).mono ?_); rintro e w1 ⟨X1, x1, rfl, hX1, hx1⟩); have hxx := Hx0.out.trans hx1; replace b0 : ∀ w', Ext w1 w' → _ := fun w' he => b0 w' (hx1.trans he); replace b1 : ∀ w', Ext w1 w' → _ := fun w' he => b1 w' (hx1.trans he); replace a0 : ∀ w', Ext w1 w' → _ := fun w' he => a0 w' (hx1.trans he); replace a1 : ∀ w', Ext w1 w' → _ := fun w' he => a1 w' (hx1.trans he); replace a2 : ∀ w', Ext w1 w' → _ := fun w' he => a2 w' (hx1.trans he); replace a3 : ∀ w', Ext w1 w' → _ := fun w' he => a3 w' (hx1.trans he); replace a4 : ∀ w', Ext w1 w' → _ := fun w' he => a4 w' (hx1.trans he); replace a5 : ∀ w', Ext w1 w' → _ := fun w' he => a5 w' (hx1.trans he))
          | (go_at_call 67; ((with_reducible refine (Hc2.out _ hxx).mono ?_); rintro e w2 ⟨X2, x2, rfl, hX2, hx2⟩); have hxy := hxx.trans hx2; replace b0 : ∀ w', Ext w2 w' → _ := fun w' he => b0 w' (hx2.trans he); replace b1 : ∀ w', Ext w2 w' → _ := fun w' he => b1 w' (hx2.trans he); replace a0 : ∀ w', Ext w2 w' → _ := fun w' he => a0 w' (hx2.trans he); replace a1 : ∀ w', Ext w2 w' → _ := fun w' he => a1 w' (hx2.trans he); replace a2 : ∀ w', Ext w2 w' → _ := fun w' he => a2 w' (hx2.trans he); replace a3 : ∀ w', Ext w2 w' → _ := fun w' he => a3 w' (hx2.trans he); replace a4 : ∀ w', Ext w2 w' → _ := fun w' he => a4 w' (hx2.trans he); replace a5 : ∀ w', Ext w2 w' → _ := fun w' he => a5 w' (hx2.trans he)))
    go_ret
    exact ⟨rfl, hxy⟩
end Go.Proofs.Yteilglljigjefaa

/- Corners inside: by the reference. -/
namespace Go.Proofs.Yteilglljigjefaa
open Go.RowKit
set_option maxRecDepth 100000 in
set_option maxHeartbeats 16000000 in
theorem rightr_left (ad : Addr) (ic : Nat) (ins : List Int) (A : Option Addr) (np c : Nat) (B : Option Addr) (nh d i k : Nat) (L1 L2 : List Sp) (e1 e2 : Int) (w : World) (h1 : CrIn A np c B nh d i L1 L1.length e1 w) (h2 : CrIn A np c B nh d k L2 L2.length e2 w) (R : Bool) (hI : Ints w (some ad) ins) (hl : ins.length = L1.length + L2.length) (hc : CnsOk (cnL L1 e1)) (ho : CnsOk (cnL L2 e2))
    (hyes : (∀ n, n < L1.length → inAt (cnL L1 e1) (cnL L2 e2) n (getI ins n)) → (∀ n, n < L2.length → inAt (cnL L2 e2) (cnL L1 e1) n (getI ins (L1.length + n))) → true = R)
    (hno1 : ∀ n, n < L1.length → ¬ inAt (cnL L1 e1) (cnL L2 e2) n (getI ins n) → false = R) (hno2 : ∀ n, n < L2.length → ¬ inAt (cnL L2 e2) (cnL L1 e1) n (getI ins (L1.length + n)) → false = R) :
    Calls Try.prog 77 #[.agg #[.slice A np c, .slice B nh d], .int .i64 i, .int .i64 k, .agg #[.bool false, .int .i64 0, .int .i64 0, .int .i64 0, .int .i64 0, .slice (some ad) ins.length ic]] w fun en w' => en = .returned (.bool R) ∧ Ext w w' := by
  have hsd1 : ∀ i, i < L1.length → ∀ j, j < L2.length → ∀ w' : World, Calls Try.prog 102 #[(ptA L1 i).val, (ptA L1 ((i + 1) % L1.length)).val, .int .i64 e1, (ptA L2 j).val, .int .i64 e2] w' fun en w'' => en = .returned (.int .i64 (eside (cnL L1 e1) i (cAt (cnL L2 e2) j))) ∧ Ext w' w'' := fun i hi j hj w' => by
    have h1 := hc.edge (i := i) (by rw [cnL_len]; exact hi)
    have h2 := ho.at_ (k := j) (by rw [cnL_len]; exact hj)
    rw [cnL_len, cnL_at hi, cnL_at (Nat.mod_lt _ (by omega))] at h1
    rw [cnL_at hj] at h2
    rw [eside_cnL hi hj]
    exact beside_any _ _ e1 _ e2 w' h1 h2
  have hsd2 : ∀ i, i < L2.length → ∀ j, j < L1.length → ∀ w' : World, Calls Try.prog 102 #[(ptA L2 i).val, (ptA L2 ((i + 1) % L2.length)).val, .int .i64 e2, (ptA L1 j).val, .int .i64 e1] w' fun en w'' => en = .returned (.int .i64 (eside (cnL L2 e2) i (cAt (cnL L1 e1) j))) ∧ Ext w' w'' := fun i hi j hj w' => by
    have h1 := ho.edge (i := i) (by rw [cnL_len]; exact hi)
    have h2 := hc.at_ (k := j) (by rw [cnL_len]; exact hj)
    rw [cnL_len, cnL_at hi, cnL_at (Nat.mod_lt _ (by omega))] at h1
    rw [cnL_at hj] at h2
    rw [eside_cnL hi hj]
    exact beside_any _ _ e2 _ e1 w' h1 h2
  have hin1 : ∀ n x, inAt (cnL L1 e1) (cnL L2 e2) n x ↔ 0 ≤ x ∧ x < L2.length ∧ 0 < eside (cnL L1 e1) n (cAt (cnL L2 e2) x.toNat) := fun n x => by unfold inAt; rw [cnL_len]
  have hin2 : ∀ n x, inAt (cnL L2 e2) (cnL L1 e1) n x ↔ 0 ≤ x ∧ x < L1.length ∧ 0 < eside (cnL L2 e2) n (cAt (cnL L1 e1) x.toNat) := fun n x => by unfold inAt; rw [cnL_len]
  have hit := fun n (hn : n < ins.length) => intsAt hI hn
  have hwi := fun (n lo hi : Int) (w' : World) => within_any n lo hi w'
  have hn3 := hc.len
  have hm3 := ho.len
  rw [cnL_len] at hn3 hm3
  rw [hl] at hit ⊢
  have hat := fun (w' : World) (X : Option Addr) (h : SRow w' X L1) k (hk : k < L1.length) => h.at_ hk
  have hbt := fun (w' : World) (X : Option Addr) (h : SRow w' X L2) k (hk : k < L2.length) => h.at_ hk
  have Hc1 := Lib.hid h1
  have Hc2 := Lib.hid h2
  have Hsd1 := Lib.hid hsd1
  have Hsd2 := Lib.hid hsd2
  have Hin1 := Lib.hid hin1
  have Hin2 := Lib.hid hin2
  have Hit := Lib.hid hit
  have Hwi := Lib.hid hwi
  have Hyes := Lib.hid hyes
  have Hno1 := Lib.hid hno1
  have Hno2 := Lib.hid hno2
  have Hat0 := Lib.hid hat
  have Hbt0 := Lib.hid hbt
  clear h1 h2 hsd1 hsd2 hin1 hin2 hit hwi hyes hno1 hno2 hat hbt hI hl hc ho
  unfold CrIn at Hc1 Hc2
  obtain ⟨ES1, hES1⟩ : ∃ ES1 : Nat → Nat → Int, ES1 = fun i j => eside (cnL L1 e1) i (cAt (cnL L2 e2) j) := ⟨_, rfl⟩
  obtain ⟨ES2, hES2⟩ : ∃ ES2 : Nat → Nat → Int, ES2 = fun i j => eside (cnL L2 e2) i (cAt (cnL L1 e1) j) := ⟨_, rfl⟩
  obtain ⟨P1, hP1⟩ : ∃ P1 : Nat → Int → Prop, P1 = fun n x => inAt (cnL L1 e1) (cnL L2 e2) n x := ⟨_, rfl⟩
  obtain ⟨P2, hP2⟩ : ∃ P2 : Nat → Int → Prop, P2 = fun n x => inAt (cnL L2 e2) (cnL L1 e1) n x := ⟨_, rfl⟩
  have es1 : ∀ i j, eside (cnL L1 e1) i (cAt (cnL L2 e2) j) = ES1 i j := fun i j => by rw [hES1]
  have es2 : ∀ i j, eside (cnL L2 e2) i (cAt (cnL L1 e1) j) = ES2 i j := fun i j => by rw [hES2]
  have eP1 : ∀ n x, inAt (cnL L1 e1) (cnL L2 e2) n x = P1 n x := fun n x => by rw [hP1]
  have eP2 : ∀ n x, inAt (cnL L2 e2) (cnL L1 e1) n x = P2 n x := fun n x => by rw [hP2]
  simp only [es1, es2, eP1, eP2] at Hsd1 Hsd2 Hin1 Hin2 Hyes Hno1 Hno2
  clear es1 es2 eP1 eP2 hES1 hES2 hP1 hP2
  generalize L1.length = m1 at *
  generalize L2.length = m2 at *
  have d5 : (((m1 + m2 : Nat) : Int) != (m1 : Int) + (m2 : Int)) = false := by simp
  have kl : Blk ((w.alloc (.cells #[.slice A np c, .slice B nh d] 25)).alloc (.cells #[.bool false, .int .i64 0, .int .i64 0, .int .i64 0, .int .i64 0, .slice (some ad) (m1 + m2) ic] 67)) w.heap.size [.slice A np c, .slice B nh d] := (Blk.new _ _).ext ((Ext.refl _).alloc _)
  have ka : Blk ((w.alloc (.cells #[.slice A np c, .slice B nh d] 25)).alloc (.cells #[.bool false, .int .i64 0, .int .i64 0, .int .i64 0, .int .i64 0, .slice (some ad) (m1 + m2) ic] 67)) (w.heap.size + 1) [.bool false, .int .i64 0, .int .i64 0, .int .i64 0, .int .i64 0, .slice (some ad) (m1 + m2) ic] := Blk.new' (cs := #[.bool false, .int .i64 0, .int .i64 0, .int .i64 0, .int .i64 0, .slice (some ad) (m1 + m2) ic]) (by simp)
  have b0 := kl.at_ 0 rfl
  have b1 := kl.at_ 1 rfl
  have a0 := ka.at_ 0 rfl
  have a1 := ka.at_ 1 rfl
  have a2 := ka.at_ 2 rfl
  have a3 := ka.at_ 3 rfl
  have a4 := ka.at_ 4 rfl
  have a5 := ka.at_ 5 rfl
  have hx0 : Ext w ((w.alloc (.cells #[.slice A np c, .slice B nh d] 25)).alloc (.cells #[.bool false, .int .i64 0, .int .i64 0, .int .i64 0, .int .i64 0, .slice (some ad) (m1 + m2) ic] 67)) := ((Ext.refl _).alloc _).alloc _
  have Hx0 := Lib.hid hx0
  clear kl ka hx0
  go_enter Try.func77, Try.ntmps77
  go_wp2_with (first
      | (go_at_call 67; ((with_reducible refine (Hc1.out _ Hx0.out).mono ?_); rintro e w1 ⟨X1, x1, rfl, hX1, hx1⟩); have hxx := Hx0.out.trans hx1; replace b0 : ∀ w', Ext w1 w' → _ := fun w' he => b0 w' (hx1.trans he); replace b1 : ∀ w', Ext w1 w' → _ := fun w' he => b1 w' (hx1.trans he); replace a0 : ∀ w', Ext w1 w' → _ := fun w' he => a0 w' (hx1.trans he); replace a1 : ∀ w', Ext w1 w' → _ := fun w' he => a1 w' (hx1.trans he); replace a2 : ∀ w', Ext w1 w' → _ := fun w' he => a2 w' (hx1.trans he); replace a3 : ∀ w', Ext w1 w' → _ := fun w' he => a3 w' (hx1.trans he); replace a4 : ∀ w', Ext w1 w' → _ := fun w' he => a4 w' (hx1.trans he); replace a5 : ∀ w', Ext w1 w' → _ := fun w' he => a5 w' (hx1.trans he))
      | (go_at_call 67; ((with_reducible refine (Hc2.out _ hxx).mono ?_); rintro e w2 ⟨X2, x2, rfl, hX2, hx2⟩); have hxy := hxx.trans hx2; replace b0 : ∀ w', Ext w2 w' → _ := fun w' he => b0 w' (hx2.trans he); replace b1 : ∀ w', Ext w2 w' → _ := fun w' he => b1 w' (hx2.trans he); replace a0 : ∀ w', Ext w2 w' → _ := fun w' he => a0 w' (hx2.trans he); replace a1 : ∀ w', Ext w2 w' → _ := fun w' he => a1 w' (hx2.trans he); replace a2 : ∀ w', Ext w2 w' → _ := fun w' he => a2 w' (hx2.trans he); replace a3 : ∀ w', Ext w2 w' → _ := fun w' he => a3 w' (hx2.trans he); replace a4 : ∀ w', Ext w2 w' → _ := fun w' he => a4 w' (hx2.trans he); replace a5 : ∀ w', Ext w2 w' → _ := fun w' he => a5 w' (hx2.trans he)))
  have hat := Hat0.out _ _ (hX1.ext hx2)
  have hbt := Hbt0.out _ _ hX2
  obtain ⟨xd, rfl, _⟩ := hat 0 (by omega)
  obtain ⟨yd, rfl, _⟩ := hbt 0 (by omega)
  have Hat := Lib.hid hat
  have Hbt := Lib.hid hbt
  have A5 := Lib.hid a5
  have Hxy := Lib.hid hxy
  clear hat hbt b0 b1 a0 a1 a2 a3 a4 a5 hxy hxx hx1 hx2 hX1 hX2 Hc1 Hc2 Hx0 Hat0 Hbt0 d5
  go_loopw [13] (fun i wr => ∃ k : Nat, k ≤ m1 ∧ i = .int .i64 k ∧ Ext w2 wr ∧ Hid (∀ j, j < k → P1 j (getI ins j))) (fun i _ => m1 - (intOf i).toNat)
  case atStart => exact ⟨0, by omega, rfl, Ext.refl _, Lib.hid fun j h => absurd h (by omega)⟩
  case round =>
    obtain ⟨k, hk, rfl, hex, Hall⟩ := hrel
    have g5 : ∀ w', Ext wr w' → _ := fun w' he => A5.out w' (hex.trans he)
    by_cases hlt : k < m1
    · obtain ⟨_, ee, p0⟩ := Hit.out k (by omega)
      cases ee
      have hxr := Hxy.out.trans hex
      have u0 : ∀ w', Ext wr w' → _ := fun w' he => p0 w' (hxr.trans he)
      have hn := Hno1.out k hlt
      have hin := Hin1.out k (getI ins k)
      have hnx : P1 k (getI ins k) → ∀ j, j < k + 1 → P1 j (getI ins j) := fun h j hj => by
        by_cases e : j = k
        · subst e; exact h
        · exact Hall.out j (by omega)
      have hw := fun w' => Hwi.out (getI ins k) 0 ((m2 : Int) - 1) w'
      have Hn := Lib.hid hn
      have Hin := Lib.hid hin
      have Hnx := Lib.hid hnx
      have Hw := Lib.hid hw
      have hkq : ((k : Nat) : Int) < ((m1 + m2 : Nat) : Int) := by omega
      have hkq2 : k < m1 + m2 := by omega
      clear p0 hn hin hnx hw Hno1 Hno2 Hin1 Hin2 Hyes Hall Hwi Hit
      generalize getI ins k = x at *
      cases h1 : withinB x 0 ((m2 : Int) - 1)
      · have hq := Hn.out (fun h => absurd (show 0 ≤ x ∧ x ≤ (m2 : Int) - 1 from ⟨(Hin.out.1 h).1, by have := (Hin.out.1 h).2.1; omega⟩) (withinB_false.1 h1))
        rw [h1] at Hw
        have Hq := Lib.hid hq
        clear hq Hn Hin Hnx h1 Hat Hbt Hsd1 Hsd2
        go_wp2
        refine wp_region_calm 28 (fun j _ v _ => j = 4 → v = .bool false) (fun _ _ _ _ _ _ h => h) (by kernel_rfl) (by kernel_rfl) ?_
        simp only [List.take_succ_cons, List.take_zero, List.drop_succ_cons, List.drop_zero]
        refine calm_quiet calm_mono_final 4 (by kernel_rfl) ?_
        simp only [List.take_succ_cons, List.take_zero, List.drop_succ_cons, List.drop_zero]
        repeat (go_big_quiet_step (fail))
        refine wpQuiet_nil ?_
        refine calm_call calm_mono_final 58 #[.int .i64 x, .int .i64 0, .int .i64 ((m2 : Int) - 1)] rfl (fun w => ?_) (fun w he hF => ?_) ?_
        · go_simp
        · exact (Hw.out w).mono fun e w'' ⟨he', hx⟩ => ⟨_, he', by rw [hx]; exact Ext.refl _, fun _ => rfl⟩
        rintro _ _ _ h
        cases h rfl
        simp only [Act.put, List.setIfInBounds_toArray, List.set_cons_succ, List.set_cons_zero]
        refine calm_quiet calm_mono_final 20 (by kernel_rfl) ?_
        simp only [List.take_succ_cons, List.take_zero, List.drop_succ_cons, List.drop_zero]
        repeat (go_big_quiet_step (fail))
        refine wpQuiet_nil ?_
        refine calm_skip (by kernel_rfl) ?_
        simp only [Act.put, List.setIfInBounds_toArray, List.set_cons_succ, List.set_cons_zero]
        refine calm_quiet calm_mono_final 2 (by kernel_rfl) ?_
        simp only [List.take_succ_cons, List.take_zero, List.drop_succ_cons, List.drop_zero]
        repeat (go_big_quiet_step (fail))
        refine wpQuiet_nil ?_
        refine calm_nil fun w3 he3 _ => ?_
        go_wp2
        go_ret
        exact ⟨ret_b Hq.out, hxr.trans he3⟩
      · rw [h1] at Hw
        have h1' := withinB_true.1 h1
        obtain ⟨j, rfl⟩ := Int.eq_ofNat_of_zero_le h1'.1
        have hjm : j < m2 := by omega
        have f2 : ((k : Int) + 1).tmod (m1 : Int) = (((k + 1) % m1 : Nat) : Int) := by
          rw [Int.tmod_eq_emod_of_nonneg (by omega)]; exact (by push_cast; rfl)
        have f3 : ((m1 : Int) = 0) = False := by simp; omega
        have hk1 := Nat.mod_lt (k + 1) (show 0 < m1 by omega)
        obtain ⟨_, ee, r0, r1⟩ := Hat.out k hlt
        cases ee
        obtain ⟨_, ee, s0, s1⟩ := Hat.out _ hk1
        cases ee
        obtain ⟨_, ee, t0, t1⟩ := Hbt.out j hjm
        cases ee
        replace r0 : ∀ w', Ext wr w' → _ := fun w' he => r0 w' (hex.trans he)
        replace r1 : ∀ w', Ext wr w' → _ := fun w' he => r1 w' (hex.trans he)
        replace s0 : ∀ w', Ext wr w' → _ := fun w' he => s0 w' (hex.trans he)
        replace s1 : ∀ w', Ext wr w' → _ := fun w' he => s1 w' (hex.trans he)
        replace t0 : ∀ w', Ext wr w' → _ := fun w' he => t0 w' (hex.trans he)
        replace t1 : ∀ w', Ext wr w' → _ := fun w' he => t1 w' (hex.trans he)
        have hs := Hsd1.out k hlt j hjm
        have hin2 := Hin.out
        simp only [Int.toNat_natCast] at hin2
        have Hs := Lib.hid hs
        have Hin' := Lib.hid hin2
        clear hs hin2 Hin Hat Hbt Hsd1 Hsd2 h1 h1'
        generalize (k + 1) % m1 = k1 at *
        generalize ES1 k j = D at *
        generalize ptA L1 k = a at *
        generalize ptA L1 k1 = b at *
        generalize ptA L2 j = z at *
        have hk1n : (k1 : Int) < (m1 : Int) := by omega
        have hkn' : (k : Int) < (m1 : Int) := by omega
        have hjm' : (j : Int) < (m2 : Int) := by omega
        by_cases hD : D ≤ 0
        · have hq := Hn.out (fun h => by have := (Hin'.out.1 h).2.2; omega)
          have Hq := Lib.hid hq
          have d5 : decide (D ≤ 0) = true := by simpa using hD
          clear hq Hnx Hn Hin' hD
          go_wp2
          refine wp_region_calm 28 (fun j _ v _ => (j = 4 → v = .bool true) ∧ (j = 25 → v = .int .i64 D)) (fun _ _ _ _ _ _ h => h) (by kernel_rfl) (by kernel_rfl) ?_
          simp only [List.take_succ_cons, List.take_zero, List.drop_succ_cons, List.drop_zero]
          refine calm_quiet calm_mono_final 4 (by kernel_rfl) ?_
          simp only [List.take_succ_cons, List.take_zero, List.drop_succ_cons, List.drop_zero]
          repeat (go_big_quiet_step (fail))
          refine wpQuiet_nil ?_
          refine calm_call calm_mono_final 58 #[.int .i64 j, .int .i64 0, .int .i64 ((m2 : Int) - 1)] rfl (fun w => ?_) (fun w he hF => ?_) ?_
          · go_simp
          · exact (Hw.out w).mono fun e w'' ⟨he', hx⟩ => ⟨_, he', by rw [hx]; exact Ext.refl _, And.intro (fun _ => rfl) (fun h => by cases h)⟩
          rintro _ _ _ ⟨h, _⟩
          cases h rfl
          simp only [Act.put, List.setIfInBounds_toArray, List.set_cons_succ, List.set_cons_zero]
          refine calm_quiet calm_mono_final 20 (by kernel_rfl) ?_
          simp only [List.take_succ_cons, List.take_zero, List.drop_succ_cons, List.drop_zero]
          repeat (go_big_quiet_step (fail))
          refine wpQuiet_nil ?_
          refine calm_call calm_mono_final 102 #[a.val, b.val, .int .i64 e1, z.val, .int .i64 e2] rfl (fun w => ?_) (fun w he hF => ?_) ?_
          · go_simp
          · exact (Hs.out w).mono fun e w'' ⟨he', hx⟩ => ⟨_, he', hx, And.intro (fun h => by cases h) (fun _ => rfl)⟩
          rintro _ _ _ ⟨_, h⟩
          cases h rfl
          simp only [Act.put, List.setIfInBounds_toArray, List.set_cons_succ, List.set_cons_zero]
          refine calm_quiet calm_mono_final 2 (by kernel_rfl) ?_
          simp only [List.take_succ_cons, List.take_zero, List.drop_succ_cons, List.drop_zero]
          repeat (go_big_quiet_step (fail))
          refine wpQuiet_nil ?_
          refine calm_nil fun w3 he3 _ => ?_
          go_wp2
          go_ret
          exact ⟨ret_b Hq.out, hxr.trans he3⟩
        · have hq := Hnx.out (Hin'.out.2 ⟨by omega, by omega, by omega⟩)
          have Hq := Lib.hid hq
          have d5 : decide (D ≤ 0) = false := by simpa using hD
          clear hq Hnx Hn Hin' hD
          go_wp2
          refine wp_region_calm 28 (fun j _ v _ => (j = 4 → v = .bool true) ∧ (j = 25 → v = .int .i64 D)) (fun _ _ _ _ _ _ h => h) (by kernel_rfl) (by kernel_rfl) ?_
          simp only [List.take_succ_cons, List.take_zero, List.drop_succ_cons, List.drop_zero]
          refine calm_quiet calm_mono_final 4 (by kernel_rfl) ?_
          simp only [List.take_succ_cons, List.take_zero, List.drop_succ_cons, List.drop_zero]
          repeat (go_big_quiet_step (fail))
          refine wpQuiet_nil ?_
          refine calm_call calm_mono_final 58 #[.int .i64 j, .int .i64 0, .int .i64 ((m2 : Int) - 1)] rfl (fun w => ?_) (fun w he hF => ?_) ?_
          · go_simp
          · exact (Hw.out w).mono fun e w'' ⟨he', hx⟩ => ⟨_, he', by rw [hx]; exact Ext.refl _, And.intro (fun _ => rfl) (fun h => by cases h)⟩
          rintro _ _ _ ⟨h, _⟩
          cases h rfl
          simp only [Act.put, List.setIfInBounds_toArray, List.set_cons_succ, List.set_cons_zero]
          refine calm_quiet calm_mono_final 20 (by kernel_rfl) ?_
          simp only [List.take_succ_cons, List.take_zero, List.drop_succ_cons, List.drop_zero]
          repeat (go_big_quiet_step (fail))
          refine wpQuiet_nil ?_
          refine calm_call calm_mono_final 102 #[a.val, b.val, .int .i64 e1, z.val, .int .i64 e2] rfl (fun w => ?_) (fun w he hF => ?_) ?_
          · go_simp
          · exact (Hs.out w).mono fun e w'' ⟨he', hx⟩ => ⟨_, he', hx, And.intro (fun h => by cases h) (fun _ => rfl)⟩
          rintro _ _ _ ⟨_, h⟩
          cases h rfl
          simp only [Act.put, List.setIfInBounds_toArray, List.set_cons_succ, List.set_cons_zero]
          refine calm_quiet calm_mono_final 2 (by kernel_rfl) ?_
          simp only [List.take_succ_cons, List.take_zero, List.drop_succ_cons, List.drop_zero]
          repeat (go_big_quiet_step (fail))
          refine wpQuiet_nil ?_
          refine calm_nil fun w3 he3 _ => ?_
          go_wp2
          go_roundw
          case rel => exact ⟨k + 1, by omega, by go_num, hex.trans he3, Lib.hid Hq.out⟩
          case measure => simp [intOf]; omega
    · obtain rfl : m1 = k := by omega
      have hy := Hyes.out Hall.out
      have Hy := Lib.hid hy
      clear hy Hyes Hall Hno1 Hin1
      go_wp2
      clear g5
      obtain ⟨wo, rfl⟩ : ∃ wo : World, wo = wr := ⟨_, rfl⟩
      go_loopw [15] (fun i wr => ∃ k : Nat, k ≤ m2 ∧ i = .int .i64 k ∧ Ext w2 wr ∧ Hid (∀ j, j < k → P2 j (getI ins (m1 + j)))) (fun i _ => m2 - (intOf i).toNat)
      case atStart => exact ⟨0, by omega, rfl, hex, Lib.hid fun j h => absurd h (by omega)⟩
      case round =>
        obtain ⟨k, hk, rfl, hex, Hall⟩ := hrel
        have g5 : ∀ w', Ext wr w' → _ := fun w' he => A5.out w' (hex.trans he)
        by_cases hlt : k < m2
        · obtain ⟨_, ee, p0⟩ := Hit.out (m1 + k) (by omega)
          cases ee
          have hxr := Hxy.out.trans hex
          have u0 : ∀ w', Ext wr w' → _ := fun w' he => p0 w' (hxr.trans he)
          have hn := Hno2.out k hlt
          have hin := Hin2.out k (getI ins (m1 + k))
          have hnx : P2 k (getI ins (m1 + k)) → ∀ j, j < k + 1 → P2 j (getI ins (m1 + j)) := fun h j hj => by
            by_cases e : j = k
            · subst e; exact h
            · exact Hall.out j (by omega)
          have hw := fun w' => Hwi.out (getI ins (m1 + k)) 0 ((m1 : Int) - 1) w'
          have Hn := Lib.hid hn
          have Hin := Lib.hid hin
          have Hnx := Lib.hid hnx
          have Hw := Lib.hid hw
          have hkq : (((m1 + k) : Nat) : Int) < ((m1 + m2 : Nat) : Int) := by omega
          have hkq2 : (m1 + k) < m1 + m2 := by omega
          clear p0 hn hin hnx hw Hno2 Hin2 Hall Hwi Hit Hy
          generalize getI ins (m1 + k) = x at *
          cases h1 : withinB x 0 ((m1 : Int) - 1)
          · have hq := Hn.out (fun h => absurd (show 0 ≤ x ∧ x ≤ (m1 : Int) - 1 from ⟨(Hin.out.1 h).1, by have := (Hin.out.1 h).2.1; omega⟩) (withinB_false.1 h1))
            rw [h1] at Hw
            have Hq := Lib.hid hq
            clear hq Hn Hin Hnx h1 Hat Hbt Hsd1 Hsd2
            go_wp2
            refine wp_region_calm 28 (fun j _ v _ => j = 4 → v = .bool false) (fun _ _ _ _ _ _ h => h) (by kernel_rfl) (by kernel_rfl) ?_
            simp only [List.take_succ_cons, List.take_zero, List.drop_succ_cons, List.drop_zero]
            refine calm_quiet calm_mono_final 4 (by kernel_rfl) ?_
            simp only [List.take_succ_cons, List.take_zero, List.drop_succ_cons, List.drop_zero]
            repeat (go_big_quiet_step (fail))
            refine wpQuiet_nil ?_
            refine calm_call calm_mono_final 58 #[.int .i64 x, .int .i64 0, .int .i64 ((m1 : Int) - 1)] rfl (fun w => ?_) (fun w he hF => ?_) ?_
            · go_simp
            · exact (Hw.out w).mono fun e w'' ⟨he', hx⟩ => ⟨_, he', by rw [hx]; exact Ext.refl _, fun _ => rfl⟩
            rintro _ _ _ h
            cases h rfl
            simp only [Act.put, List.setIfInBounds_toArray, List.set_cons_succ, List.set_cons_zero]
            refine calm_quiet calm_mono_final 20 (by kernel_rfl) ?_
            simp only [List.take_succ_cons, List.take_zero, List.drop_succ_cons, List.drop_zero]
            repeat (go_big_quiet_step (fail))
            refine wpQuiet_nil ?_
            refine calm_skip (by kernel_rfl) ?_
            simp only [Act.put, List.setIfInBounds_toArray, List.set_cons_succ, List.set_cons_zero]
            refine calm_quiet calm_mono_final 2 (by kernel_rfl) ?_
            simp only [List.take_succ_cons, List.take_zero, List.drop_succ_cons, List.drop_zero]
            repeat (go_big_quiet_step (fail))
            refine wpQuiet_nil ?_
            refine calm_nil fun w3 he3 _ => ?_
            go_wp2
            go_ret
            exact ⟨ret_b Hq.out, hxr.trans he3⟩
          · rw [h1] at Hw
            have h1' := withinB_true.1 h1
            obtain ⟨j, rfl⟩ := Int.eq_ofNat_of_zero_le h1'.1
            have hjm : j < m1 := by omega
            have f2 : ((k : Int) + 1).tmod (m2 : Int) = (((k + 1) % m2 : Nat) : Int) := by
              rw [Int.tmod_eq_emod_of_nonneg (by omega)]; exact (by push_cast; rfl)
            have f3 : ((m2 : Int) = 0) = False := by simp; omega
            have hk1 := Nat.mod_lt (k + 1) (show 0 < m2 by omega)
            obtain ⟨_, ee, r0, r1⟩ := Hbt.out k hlt
            cases ee
            obtain ⟨_, ee, s0, s1⟩ := Hbt.out _ hk1
            cases ee
            obtain ⟨_, ee, t0, t1⟩ := Hat.out j hjm
            cases ee
            replace r0 : ∀ w', Ext wr w' → _ := fun w' he => r0 w' (hex.trans he)
            replace r1 : ∀ w', Ext wr w' → _ := fun w' he => r1 w' (hex.trans he)
            replace s0 : ∀ w', Ext wr w' → _ := fun w' he => s0 w' (hex.trans he)
            replace s1 : ∀ w', Ext wr w' → _ := fun w' he => s1 w' (hex.trans he)
            replace t0 : ∀ w', Ext wr w' → _ := fun w' he => t0 w' (hex.trans he)
            replace t1 : ∀ w', Ext wr w' → _ := fun w' he => t1 w' (hex.trans he)
            have hs := Hsd2.out k hlt j hjm
            have hin2 := Hin.out
            simp only [Int.toNat_natCast] at hin2
            have Hs := Lib.hid hs
            have Hin' := Lib.hid hin2
            clear hs hin2 Hin Hat Hbt Hsd1 Hsd2 h1 h1'
            generalize (k + 1) % m2 = k1 at *
            generalize ES2 k j = D at *
            generalize ptA L2 k = a at *
            generalize ptA L2 k1 = b at *
            generalize ptA L1 j = z at *
            have hk1n : (k1 : Int) < (m2 : Int) := by omega
            have hkn' : (k : Int) < (m2 : Int) := by omega
            have hjm' : (j : Int) < (m1 : Int) := by omega
            by_cases hD : D ≤ 0
            · have hq := Hn.out (fun h => by have := (Hin'.out.1 h).2.2; omega)
              have Hq := Lib.hid hq
              have d5 : decide (D ≤ 0) = true := by simpa using hD
              clear hq Hnx Hn Hin' hD
              go_wp2
              refine wp_region_calm 28 (fun j _ v _ => (j = 4 → v = .bool true) ∧ (j = 25 → v = .int .i64 D)) (fun _ _ _ _ _ _ h => h) (by kernel_rfl) (by kernel_rfl) ?_
              simp only [List.take_succ_cons, List.take_zero, List.drop_succ_cons, List.drop_zero]
              refine calm_quiet calm_mono_final 4 (by kernel_rfl) ?_
              simp only [List.take_succ_cons, List.take_zero, List.drop_succ_cons, List.drop_zero]
              repeat (go_big_quiet_step (fail))
              refine wpQuiet_nil ?_
              refine calm_call calm_mono_final 58 #[.int .i64 j, .int .i64 0, .int .i64 ((m1 : Int) - 1)] rfl (fun w => ?_) (fun w he hF => ?_) ?_
              · go_simp
              · exact (Hw.out w).mono fun e w'' ⟨he', hx⟩ => ⟨_, he', by rw [hx]; exact Ext.refl _, And.intro (fun _ => rfl) (fun h => by cases h)⟩
              rintro _ _ _ ⟨h, _⟩
              cases h rfl
              simp only [Act.put, List.setIfInBounds_toArray, List.set_cons_succ, List.set_cons_zero]
              refine calm_quiet calm_mono_final 20 (by kernel_rfl) ?_
              simp only [List.take_succ_cons, List.take_zero, List.drop_succ_cons, List.drop_zero]
              repeat (go_big_quiet_step (fail))
              refine wpQuiet_nil ?_
              refine calm_call calm_mono_final 102 #[a.val, b.val, .int .i64 e2, z.val, .int .i64 e1] rfl (fun w => ?_) (fun w he hF => ?_) ?_
              · go_simp
              · exact (Hs.out w).mono fun e w'' ⟨he', hx⟩ => ⟨_, he', hx, And.intro (fun h => by cases h) (fun _ => rfl)⟩
              rintro _ _ _ ⟨_, h⟩
              cases h rfl
              simp only [Act.put, List.setIfInBounds_toArray, List.set_cons_succ, List.set_cons_zero]
              refine calm_quiet calm_mono_final 2 (by kernel_rfl) ?_
              simp only [List.take_succ_cons, List.take_zero, List.drop_succ_cons, List.drop_zero]
              repeat (go_big_quiet_step (fail))
              refine wpQuiet_nil ?_
              refine calm_nil fun w3 he3 _ => ?_
              go_wp2
              go_ret
              exact ⟨ret_b Hq.out, hxr.trans he3⟩
            · have hq := Hnx.out (Hin'.out.2 ⟨by omega, by omega, by omega⟩)
              have Hq := Lib.hid hq
              have d5 : decide (D ≤ 0) = false := by simpa using hD
              clear hq Hnx Hn Hin' hD
              go_wp2
              refine wp_region_calm 28 (fun j _ v _ => (j = 4 → v = .bool true) ∧ (j = 25 → v = .int .i64 D)) (fun _ _ _ _ _ _ h => h) (by kernel_rfl) (by kernel_rfl) ?_
              simp only [List.take_succ_cons, List.take_zero, List.drop_succ_cons, List.drop_zero]
              refine calm_quiet calm_mono_final 4 (by kernel_rfl) ?_
              simp only [List.take_succ_cons, List.take_zero, List.drop_succ_cons, List.drop_zero]
              repeat (go_big_quiet_step (fail))
              refine wpQuiet_nil ?_
              refine calm_call calm_mono_final 58 #[.int .i64 j, .int .i64 0, .int .i64 ((m1 : Int) - 1)] rfl (fun w => ?_) (fun w he hF => ?_) ?_
              · go_simp
              · exact (Hw.out w).mono fun e w'' ⟨he', hx⟩ => ⟨_, he', by rw [hx]; exact Ext.refl _, And.intro (fun _ => rfl) (fun h => by cases h)⟩
              rintro _ _ _ ⟨h, _⟩
              cases h rfl
              simp only [Act.put, List.setIfInBounds_toArray, List.set_cons_succ, List.set_cons_zero]
              refine calm_quiet calm_mono_final 20 (by kernel_rfl) ?_
              simp only [List.take_succ_cons, List.take_zero, List.drop_succ_cons, List.drop_zero]
              repeat (go_big_quiet_step (fail))
              refine wpQuiet_nil ?_
              refine calm_call calm_mono_final 102 #[a.val, b.val, .int .i64 e2, z.val, .int .i64 e1] rfl (fun w => ?_) (fun w he hF => ?_) ?_
              · go_simp
              · exact (Hs.out w).mono fun e w'' ⟨he', hx⟩ => ⟨_, he', hx, And.intro (fun h => by cases h) (fun _ => rfl)⟩
              rintro _ _ _ ⟨_, h⟩
              cases h rfl
              simp only [Act.put, List.setIfInBounds_toArray, List.set_cons_succ, List.set_cons_zero]
              refine calm_quiet calm_mono_final 2 (by kernel_rfl) ?_
              simp only [List.take_succ_cons, List.take_zero, List.drop_succ_cons, List.drop_zero]
              repeat (go_big_quiet_step (fail))
              refine wpQuiet_nil ?_
              refine calm_nil fun w3 he3 _ => ?_
              go_wp2
              go_roundw
              case rel => exact ⟨k + 1, by omega, by go_num, hex.trans he3, Lib.hid Hq.out⟩
              case measure => simp [intOf]; omega
        · obtain rfl : m2 = k := by omega
          have hy := Hy.out Hall.out
          have Hy' := Lib.hid hy
          clear hy Hall Hno2 Hin2 Hy Hit Hwi Hat Hbt Hsd1 Hsd2
          go_wp2
          go_ret
          exact ⟨ret_b Hy'.out, Hxy.out.trans hex⟩
end Go.Proofs.Yteilglljigjefaa

/- Which proofs are right: by the reference, whole. -/
namespace Go.Proofs.Yteilglljigjefaa
open Go.RowKit
theorem getI_getD (l : List Int) (n : Nat) : getI l n = l.getD n 0 := by simp [getI, List.getD]
theorem right_ref (A : Option Addr) (c : Nat) (ps : List (List Sp)) (B : Option Addr) (d : Nat) (hs : List Hg) (i k : Nat) (r : Apr) (I : Option Addr) (ic : Nat) (w : World) (hL : Lk w A ps B hs) (hr : AprIn w r I ic) (hl : linkP ps hs) (hi : i < ps.length) (hk : k < ps.length) :
    Calls Try.prog 77 #[.agg #[.slice A ps.length c, .slice B hs.length d], .int .i64 i, .int .i64 k, r.val I ic] w fun e w' => e = .returned (.bool (rightB r (pcrn ps hs i) (pcrn ps hs k))) ∧ Ext w w' := by
  have h1 := crIn_of (c := c) (d := d) hL hl hi
  have h2 := crIn_of (c := c) (d := d) hL hl hk
  have ok1 := pcrn_ok hl hi
  have ok2 := pcrn_ok hl hk
  rw [← pcrn_cnL] at ok1 ok2
  have len1 : (pcrn ps hs i).length = (crnS (posF hs i) (pnA ps i)).length := by rw [← pcrn_cnL, cnL_len]
  have len2 : (pcrn ps hs k).length = (crnS (posF hs k) (pnA ps k)).length := by rw [← pcrn_cnL, cnL_len]
  obtain ⟨rc, rA, rB, rC, rE, ins⟩ := r
  cases rc
  · rw [rightB_ins rfl]
    by_cases h : (rA = 0 ∧ rB = 0 ∧ rC = 0 ∧ rE = 0) ∧ ins.length = (crnS (posF hs i) (pnA ps i)).length + (crnS (posF hs k) (pnA ps k)).length
    · obtain ⟨h0, hln⟩ := h
      obtain ⟨rfl, rfl, rfl, rfl⟩ := id h0
      have hI := hr.ins
      have hn3 := ok1.len
      rw [cnL_len] at hn3
      obtain ⟨ad, rfl, _⟩ := hI 0 (by simp only [List.length_map]; omega)
      have key := rightr_left ad ic ins A ps.length c B hs.length d i k _ _ _ _ w h1 h2 (decide (insP ⟨false, 0, 0, 0, 0, ins⟩ (pcrn ps hs i) (pcrn ps hs k))) hI hln ok1 ok2
      rw [pcrn_cnL, pcrn_cnL] at key
      have hP : insP ⟨false, 0, 0, 0, 0, ins⟩ (pcrn ps hs i) (pcrn ps hs k) ↔ (∀ n, n < (crnS (posF hs i) (pnA ps i)).length → inAt (pcrn ps hs i) (pcrn ps hs k) n (getI ins n)) ∧ ∀ n, n < (crnS (posF hs k) (pnA ps k)).length → inAt (pcrn ps hs k) (pcrn ps hs i) n (getI ins ((crnS (posF hs i) (pnA ps i)).length + n)) := by
        unfold insP
        rw [len1, len2]
        simp only [getI_getD]
        exact ⟨fun h => h.2.2, fun h => ⟨by simp, hln, h⟩⟩
      exact key (fun g1 g2 => (decide_eq_true (hP.2 ⟨g1, g2⟩)).symm) (fun n hn g => (decide_eq_false fun hh => g ((hP.1 hh).1 n hn)).symm) (fun n hn g => (decide_eq_false fun hh => g ((hP.1 hh).2 n hn)).symm)
    · have hb1 := ok1.len.2
      have hb2 := ok2.len.2
      rw [cnL_len] at hb1 hb2
      have key := rightr_none rA rB rC rE I ins.length ic A ps.length c B hs.length d i k _ _ _ _ _ _ w h1 h2 hb1 hb2 h
      rw [show decide (insP ⟨false, rA, rB, rC, rE, ins⟩ (pcrn ps hs i) (pcrn ps hs k)) = false from decide_eq_false fun h' => h ⟨h'.1, by have := h'.2.1; rw [len1, len2] at this; exact this⟩]
      exact key
  · rw [rightB_clear rfl]
    have key := rightr_line rA rB rC rE I ins.length ic A ps.length c B hs.length d i k _ _ _ _ _ _ w h1 h2 (btwB ⟨true, rA, rB, rC, rE, ins⟩ (pcrn ps hs i) (pcrn ps hs k))
    rw [← pcrn_cnL, ← pcrn_cnL] at key ⊢
    exact key fun X Y x y w' hX hY => between_any ⟨true, rA, rB, rC, rE, ins⟩ I ic X x _ _ Y y _ _ w' hr.len hX hY ok1 ok2
set_option maxRecDepth 100000 in
set_option maxHeartbeats 4000000 in
theorem checkapart_ref (A : Option Addr) (c : Nat) (ps : List (List Sp)) (B : Option Addr) (d : Nat) (hs : List Hg) (i k : Int) (r : Apr) (I : Option Addr) (ic : Nat) (w : World) (hL : Lk w A ps B hs) (hr : AprIn w r I ic) :
    Calls Try.prog 45 #[.agg #[.slice A ps.length c, .slice B hs.length d], .int .i64 i, .int .i64 k, r.val I ic] w fun e w' => e = .returned (.int .i64 (apartE ps hs i k r)) ∧ Ext w w' := by
  have ht := fun w' (he : Ext w w') => two_ref A c ps B d hs i k w' (hL.ext he)
  rcases two_cases ps hs i k with ⟨h1, ⟨a, b, rfl, rfl, ha, hb, hne⟩, h2⟩ | ⟨h2, h3⟩
  · have hri := fun w' (he : Ext w w') => right_ref A c ps B d hs a b r I ic w' (hL.ext he) (hr.ext he) h1 ha hb
    rw [apartE_nat h2]
    rw [h2] at ht
    have Ht := Lib.hid ht
    have Hri := Lib.hid hri
    clear ht hri hL h1 h2 ha hb hne hr
    generalize rightB r (pcrn ps hs a) (pcrn ps hs b) = R at *
    obtain ⟨rc, rA, rB, rC, rE, ins⟩ := r
    generalize ps.length = np at *
    generalize hs.length = nh at *
    have kl : Blk ((w.alloc (.cells #[.slice A np c, .slice B nh d] 25)).alloc (.cells #[.bool rc, vint rA, vint rB, vint rC, vint rE, .slice I ins.length ic] 67)) w.heap.size [.slice A np c, .slice B nh d] := (Blk.new _ _).ext ((Ext.refl _).alloc _)
    have ka : Blk ((w.alloc (.cells #[.slice A np c, .slice B nh d] 25)).alloc (.cells #[.bool rc, vint rA, vint rB, vint rC, vint rE, .slice I ins.length ic] 67)) (w.heap.size + 1) [.bool rc, vint rA, vint rB, vint rC, vint rE, .slice I ins.length ic] := Blk.new' (cs := #[.bool rc, vint rA, vint rB, vint rC, vint rE, .slice I ins.length ic]) (by simp)
    have b0 := kl.at_ 0 rfl
    have b1 := kl.at_ 1 rfl
    have a0 := ka.at_ 0 rfl
    have a1 := ka.at_ 1 rfl
    have a2 := ka.at_ 2 rfl
    have a3 := ka.at_ 3 rfl
    have a4 := ka.at_ 4 rfl
    have a5 := ka.at_ 5 rfl
    have hx0 : Ext w ((w.alloc (.cells #[.slice A np c, .slice B nh d] 25)).alloc (.cells #[.bool rc, vint rA, vint rB, vint rC, vint rE, .slice I ins.length ic] 67)) := ((Ext.refl _).alloc _).alloc _
    have Hx0 := Lib.hid hx0
    clear kl ka hx0
    cases R
    all_goals
      go_enter Try.func45, Try.ntmps45
      go_wp2_with (first
        | (go_at_call 75; refine (Ht.out _ Hx0.out).mono ?_; rintro e w1 ⟨rfl, hx1⟩; have hxx := Hx0.out.trans hx1; replace b0 : ∀ w', Ext w1 w' → _ := fun w' he => b0 w' (hx1.trans he); replace b1 : ∀ w', Ext w1 w' → _ := fun w' he => b1 w' (hx1.trans he); replace a0 : ∀ w', Ext w1 w' → _ := fun w' he => a0 w' (hx1.trans he); replace a1 : ∀ w', Ext w1 w' → _ := fun w' he => a1 w' (hx1.trans he); replace a2 : ∀ w', Ext w1 w' → _ := fun w' he => a2 w' (hx1.trans he); replace a3 : ∀ w', Ext w1 w' → _ := fun w' he => a3 w' (hx1.trans he); replace a4 : ∀ w', Ext w1 w' → _ := fun w' he => a4 w' (hx1.trans he); replace a5 : ∀ w', Ext w1 w' → _ := fun w' he => a5 w' (hx1.trans he))
        | (go_at_call 77; refine (Hri.out _ hxx).mono ?_; rintro e w2 ⟨rfl, hx2⟩))
      go_ret
      exact ⟨rfl, hxx.trans hx2⟩
  · have hne : ¬ twoE ps hs i k = 0 := by omega
    rw [apartE, if_neg hne]
    have d1 : (twoE ps hs i k != 0) = true := by simpa using hne
    have Ht := Lib.hid ht
    clear ht hL h2 hne h3 hr
    generalize twoE ps hs i k = E at *
    obtain ⟨rc, rA, rB, rC, rE, ins⟩ := r
    generalize ps.length = np at *
    generalize hs.length = nh at *
    have kl : Blk ((w.alloc (.cells #[.slice A np c, .slice B nh d] 25)).alloc (.cells #[.bool rc, vint rA, vint rB, vint rC, vint rE, .slice I ins.length ic] 67)) w.heap.size [.slice A np c, .slice B nh d] := (Blk.new _ _).ext ((Ext.refl _).alloc _)
    have ka : Blk ((w.alloc (.cells #[.slice A np c, .slice B nh d] 25)).alloc (.cells #[.bool rc, vint rA, vint rB, vint rC, vint rE, .slice I ins.length ic] 67)) (w.heap.size + 1) [.bool rc, vint rA, vint rB, vint rC, vint rE, .slice I ins.length ic] := Blk.new' (cs := #[.bool rc, vint rA, vint rB, vint rC, vint rE, .slice I ins.length ic]) (by simp)
    have b0 := kl.at_ 0 rfl
    have b1 := kl.at_ 1 rfl
    have a0 := ka.at_ 0 rfl
    have a1 := ka.at_ 1 rfl
    have a2 := ka.at_ 2 rfl
    have a3 := ka.at_ 3 rfl
    have a4 := ka.at_ 4 rfl
    have a5 := ka.at_ 5 rfl
    have hx0 : Ext w ((w.alloc (.cells #[.slice A np c, .slice B nh d] 25)).alloc (.cells #[.bool rc, vint rA, vint rB, vint rC, vint rE, .slice I ins.length ic] 67)) := ((Ext.refl _).alloc _).alloc _
    have Hx0 := Lib.hid hx0
    clear kl ka hx0
    go_enter Try.func45, Try.ntmps45
    go_wp2_with (go_at_call 75; refine (Ht.out _ Hx0.out).mono ?_; rintro e w1 ⟨rfl, hx1⟩; have hxx := Hx0.out.trans hx1)
    go_ret
    exact ⟨rfl, hxx⟩
end Go.Proofs.Yteilglljigjefaa

/- The line of an edge, as a proof: by the code. -/
namespace Go.Proofs.Yteilglljigjefaa
open Go.RowKit
set_option maxRecDepth 100000 in
set_option maxHeartbeats 8000000 in
theorem through_any (A : Option Addr) (ca : Nat) (c : List Cn) (i : Nat) (sg : Int) (w : World) (hA : CRow w A c) (hc : CnsOk c) (hi : i < c.length) (hs : sg = 1 ∨ sg = -1) :
    Calls Try.prog 94 #[.slice A c.length ca, .int .i64 i, .int .i64 sg] w fun e w' => e = .returned ((thrA c i sg).val none 0) ∧ Ext w w' := by
  have hi1 : (i + 1) % c.length < c.length := Nat.mod_lt _ (by omega)
  obtain ⟨ad, rfl, p0, p1, p2⟩ := hA.at_ hi
  obtain ⟨_, ee, q0, q1, q2⟩ := hA.at_ hi1
  cases ee
  have hf := thr_ok hc hi hs
  have hed := hc.edge hi
  have hth : thrA c i sg = ⟨true, sg * ((cAt c ((i + 1) % c.length)).at_.y - (cAt c i).at_.y), sg * ((cAt c i).at_.x - (cAt c ((i + 1) % c.length)).at_.x), sg * ((cAt c ((i + 1) % c.length)).at_.y - (cAt c i).at_.y) * (cAt c i).at_.x + sg * ((cAt c i).at_.x - (cAt c ((i + 1) % c.length)).at_.x) * (cAt c i).at_.y, (cAt c i).d, []⟩ := rfl
  have hn8 := hc.len
  rw [hth] at hf ⊢
  clear hth hA hc
  generalize c.length = n at *
  have e2 : ((i : Int) + 1).tmod (n : Int) = (((i + 1) % n : Nat) : Int) := by
    rw [Int.tmod_eq_emod_of_nonneg (by omega)]; exact (by push_cast; rfl)
  have e3 : ((n : Int) = 0) = False := by simp; omega
  generalize (i + 1) % n = i1 at *
  obtain ⟨ha, hb, hx, hy, hd⟩ := hed
  generalize cAt c i = a at *
  generalize cAt c i1 = b at *
  obtain ⟨⟨ax, ay⟩, az⟩ := a
  obtain ⟨⟨bx, bY⟩, bz⟩ := b
  simp only at p0 p1 p2 q0 q1 q2 hf hx hy hd ⊢
  have b1 : (i1 : Int) < (n : Int) := by omega
  have b2 : (i : Int) < (n : Int) := by omega
  have hx0 : Ext w (w.alloc (.cells #[.bool false, vint 0, vint 0, vint 0, vint 0, .slice none 0 0] 67)) := (Ext.refl _).alloc _
  replace p0 : ∀ w', Ext (w.alloc (.cells #[.bool false, vint 0, vint 0, vint 0, vint 0, .slice none 0 0] 67)) w' → _ := fun w' he => p0 w' (hx0.trans he)
  replace p1 : ∀ w', Ext (w.alloc (.cells #[.bool false, vint 0, vint 0, vint 0, vint 0, .slice none 0 0] 67)) w' → _ := fun w' he => p1 w' (hx0.trans he)
  replace p2 : ∀ w', Ext (w.alloc (.cells #[.bool false, vint 0, vint 0, vint 0, vint 0, .slice none 0 0] 67)) w' → _ := fun w' he => p2 w' (hx0.trans he)
  replace q0 : ∀ w', Ext (w.alloc (.cells #[.bool false, vint 0, vint 0, vint 0, vint 0, .slice none 0 0] 67)) w' → _ := fun w' he => q0 w' (hx0.trans he)
  replace q1 : ∀ w', Ext (w.alloc (.cells #[.bool false, vint 0, vint 0, vint 0, vint 0, .slice none 0 0] 67)) w' → _ := fun w' he => q1 w' (hx0.trans he)
  replace q2 : ∀ w', Ext (w.alloc (.cells #[.bool false, vint 0, vint 0, vint 0, vint 0, .slice none 0 0] 67)) w' → _ := fun w' he => q2 w' (hx0.trans he)
  go_enter Try.func94, Try.ntmps94
  go_wp2
  have k6 : Blk (w.alloc (.cells #[.bool false, vint 0, vint 0, vint 0, vint 0, .slice none 0 0] 67)) w.heap.size [.bool false, vint 0, vint 0, vint 0, vint 0, .slice none 0 0] := Blk.new _ _
  generalize (w.alloc (.cells #[.bool false, vint 0, vint 0, vint 0, vint 0, .slice none 0 0] 67)) = W0 at *
  have e4 : ¬ n = 0 := by omega
  have Hx0 := Lib.hid hx0
  have K6 := Lib.hid k6
  clear hx0 k6
  have x1 : Ext W0 (W0.alloc (.cells #[vint 0, vint 0, vint 0] 114)) := (Ext.refl _).alloc _
  have p0_1 : ∀ w', Ext (W0.alloc (.cells #[vint 0, vint 0, vint 0] 114)) w' → _ := fun w' he => p0 w' (x1.trans he)
  have p1_1 : ∀ w', Ext (W0.alloc (.cells #[vint 0, vint 0, vint 0] 114)) w' → _ := fun w' he => p1 w' (x1.trans he)
  have p2_1 : ∀ w', Ext (W0.alloc (.cells #[vint 0, vint 0, vint 0] 114)) w' → _ := fun w' he => p2 w' (x1.trans he)
  have q0_1 : ∀ w', Ext (W0.alloc (.cells #[vint 0, vint 0, vint 0] 114)) w' → _ := fun w' he => q0 w' (x1.trans he)
  have q1_1 : ∀ w', Ext (W0.alloc (.cells #[vint 0, vint 0, vint 0] 114)) w' → _ := fun w' he => q1 w' (x1.trans he)
  have q2_1 : ∀ w', Ext (W0.alloc (.cells #[vint 0, vint 0, vint 0] 114)) w' → _ := fun w' he => q2 w' (x1.trans he)
  have x2 : Ext W0 (W0.alloc (.cells #[vint ax, vint ay, vint az] 114)) := (Ext.refl _).alloc _
  have p0_2 : ∀ w', Ext (W0.alloc (.cells #[vint ax, vint ay, vint az] 114)) w' → _ := fun w' he => p0 w' (x2.trans he)
  have p1_2 : ∀ w', Ext (W0.alloc (.cells #[vint ax, vint ay, vint az] 114)) w' → _ := fun w' he => p1 w' (x2.trans he)
  have p2_2 : ∀ w', Ext (W0.alloc (.cells #[vint ax, vint ay, vint az] 114)) w' → _ := fun w' he => p2 w' (x2.trans he)
  have q0_2 : ∀ w', Ext (W0.alloc (.cells #[vint ax, vint ay, vint az] 114)) w' → _ := fun w' he => q0 w' (x2.trans he)
  have q1_2 : ∀ w', Ext (W0.alloc (.cells #[vint ax, vint ay, vint az] 114)) w' → _ := fun w' he => q1 w' (x2.trans he)
  have q2_2 : ∀ w', Ext (W0.alloc (.cells #[vint ax, vint ay, vint az] 114)) w' → _ := fun w' he => q2 w' (x2.trans he)
  have x3 : Ext W0 (W0.alloc (.cells #[vint bx, vint bY, vint bz] 114)) := (Ext.refl _).alloc _
  have p0_3 : ∀ w', Ext (W0.alloc (.cells #[vint bx, vint bY, vint bz] 114)) w' → _ := fun w' he => p0 w' (x3.trans he)
  have p1_3 : ∀ w', Ext (W0.alloc (.cells #[vint bx, vint bY, vint bz] 114)) w' → _ := fun w' he => p1 w' (x3.trans he)
  have p2_3 : ∀ w', Ext (W0.alloc (.cells #[vint bx, vint bY, vint bz] 114)) w' → _ := fun w' he => p2 w' (x3.trans he)
  have q0_3 : ∀ w', Ext (W0.alloc (.cells #[vint bx, vint bY, vint bz] 114)) w' → _ := fun w' he => q0 w' (x3.trans he)
  have q1_3 : ∀ w', Ext (W0.alloc (.cells #[vint bx, vint bY, vint bz] 114)) w' → _ := fun w' he => q1 w' (x3.trans he)
  have q2_3 : ∀ w', Ext (W0.alloc (.cells #[vint bx, vint bY, vint bz] 114)) w' → _ := fun w' he => q2 w' (x3.trans he)
  have x4 : Ext W0 ((W0.alloc (.cells #[vint 0, vint 0, vint 0] 114)).alloc (.cells #[vint 0, vint 0, vint 0] 114)) := ((Ext.refl _).alloc _).alloc _
  have p0_4 : ∀ w', Ext ((W0.alloc (.cells #[vint 0, vint 0, vint 0] 114)).alloc (.cells #[vint 0, vint 0, vint 0] 114)) w' → _ := fun w' he => p0 w' (x4.trans he)
  have p1_4 : ∀ w', Ext ((W0.alloc (.cells #[vint 0, vint 0, vint 0] 114)).alloc (.cells #[vint 0, vint 0, vint 0] 114)) w' → _ := fun w' he => p1 w' (x4.trans he)
  have p2_4 : ∀ w', Ext ((W0.alloc (.cells #[vint 0, vint 0, vint 0] 114)).alloc (.cells #[vint 0, vint 0, vint 0] 114)) w' → _ := fun w' he => p2 w' (x4.trans he)
  have q0_4 : ∀ w', Ext ((W0.alloc (.cells #[vint 0, vint 0, vint 0] 114)).alloc (.cells #[vint 0, vint 0, vint 0] 114)) w' → _ := fun w' he => q0 w' (x4.trans he)
  have q1_4 : ∀ w', Ext ((W0.alloc (.cells #[vint 0, vint 0, vint 0] 114)).alloc (.cells #[vint 0, vint 0, vint 0] 114)) w' → _ := fun w' he => q1 w' (x4.trans he)
  have q2_4 : ∀ w', Ext ((W0.alloc (.cells #[vint 0, vint 0, vint 0] 114)).alloc (.cells #[vint 0, vint 0, vint 0] 114)) w' → _ := fun w' he => q2 w' (x4.trans he)
  have x5 : Ext W0 ((W0.alloc (.cells #[vint ax, vint ay, vint az] 114)).alloc (.cells #[vint 0, vint 0, vint 0] 114)) := ((Ext.refl _).alloc _).alloc _
  have p0_5 : ∀ w', Ext ((W0.alloc (.cells #[vint ax, vint ay, vint az] 114)).alloc (.cells #[vint 0, vint 0, vint 0] 114)) w' → _ := fun w' he => p0 w' (x5.trans he)
  have p1_5 : ∀ w', Ext ((W0.alloc (.cells #[vint ax, vint ay, vint az] 114)).alloc (.cells #[vint 0, vint 0, vint 0] 114)) w' → _ := fun w' he => p1 w' (x5.trans he)
  have p2_5 : ∀ w', Ext ((W0.alloc (.cells #[vint ax, vint ay, vint az] 114)).alloc (.cells #[vint 0, vint 0, vint 0] 114)) w' → _ := fun w' he => p2 w' (x5.trans he)
  have q0_5 : ∀ w', Ext ((W0.alloc (.cells #[vint ax, vint ay, vint az] 114)).alloc (.cells #[vint 0, vint 0, vint 0] 114)) w' → _ := fun w' he => q0 w' (x5.trans he)
  have q1_5 : ∀ w', Ext ((W0.alloc (.cells #[vint ax, vint ay, vint az] 114)).alloc (.cells #[vint 0, vint 0, vint 0] 114)) w' → _ := fun w' he => q1 w' (x5.trans he)
  have q2_5 : ∀ w', Ext ((W0.alloc (.cells #[vint ax, vint ay, vint az] 114)).alloc (.cells #[vint 0, vint 0, vint 0] 114)) w' → _ := fun w' he => q2 w' (x5.trans he)
  have x6 : Ext W0 ((W0.alloc (.cells #[vint 0, vint 0, vint 0] 114)).alloc (.cells #[vint ax, vint ay, vint az] 114)) := ((Ext.refl _).alloc _).alloc _
  have p0_6 : ∀ w', Ext ((W0.alloc (.cells #[vint 0, vint 0, vint 0] 114)).alloc (.cells #[vint ax, vint ay, vint az] 114)) w' → _ := fun w' he => p0 w' (x6.trans he)
  have p1_6 : ∀ w', Ext ((W0.alloc (.cells #[vint 0, vint 0, vint 0] 114)).alloc (.cells #[vint ax, vint ay, vint az] 114)) w' → _ := fun w' he => p1 w' (x6.trans he)
  have p2_6 : ∀ w', Ext ((W0.alloc (.cells #[vint 0, vint 0, vint 0] 114)).alloc (.cells #[vint ax, vint ay, vint az] 114)) w' → _ := fun w' he => p2 w' (x6.trans he)
  have q0_6 : ∀ w', Ext ((W0.alloc (.cells #[vint 0, vint 0, vint 0] 114)).alloc (.cells #[vint ax, vint ay, vint az] 114)) w' → _ := fun w' he => q0 w' (x6.trans he)
  have q1_6 : ∀ w', Ext ((W0.alloc (.cells #[vint 0, vint 0, vint 0] 114)).alloc (.cells #[vint ax, vint ay, vint az] 114)) w' → _ := fun w' he => q1 w' (x6.trans he)
  have q2_6 : ∀ w', Ext ((W0.alloc (.cells #[vint 0, vint 0, vint 0] 114)).alloc (.cells #[vint ax, vint ay, vint az] 114)) w' → _ := fun w' he => q2 w' (x6.trans he)
  have x7 : Ext W0 ((W0.alloc (.cells #[vint bx, vint bY, vint bz] 114)).alloc (.cells #[vint 0, vint 0, vint 0] 114)) := ((Ext.refl _).alloc _).alloc _
  have p0_7 : ∀ w', Ext ((W0.alloc (.cells #[vint bx, vint bY, vint bz] 114)).alloc (.cells #[vint 0, vint 0, vint 0] 114)) w' → _ := fun w' he => p0 w' (x7.trans he)
  have p1_7 : ∀ w', Ext ((W0.alloc (.cells #[vint bx, vint bY, vint bz] 114)).alloc (.cells #[vint 0, vint 0, vint 0] 114)) w' → _ := fun w' he => p1 w' (x7.trans he)
  have p2_7 : ∀ w', Ext ((W0.alloc (.cells #[vint bx, vint bY, vint bz] 114)).alloc (.cells #[vint 0, vint 0, vint 0] 114)) w' → _ := fun w' he => p2 w' (x7.trans he)
  have q0_7 : ∀ w', Ext ((W0.alloc (.cells #[vint bx, vint bY, vint bz] 114)).alloc (.cells #[vint 0, vint 0, vint 0] 114)) w' → _ := fun w' he => q0 w' (x7.trans he)
  have q1_7 : ∀ w', Ext ((W0.alloc (.cells #[vint bx, vint bY, vint bz] 114)).alloc (.cells #[vint 0, vint 0, vint 0] 114)) w' → _ := fun w' he => q1 w' (x7.trans he)
  have q2_7 : ∀ w', Ext ((W0.alloc (.cells #[vint bx, vint bY, vint bz] 114)).alloc (.cells #[vint 0, vint 0, vint 0] 114)) w' → _ := fun w' he => q2 w' (x7.trans he)
  have x8 : Ext W0 ((W0.alloc (.cells #[vint 0, vint 0, vint 0] 114)).alloc (.cells #[vint bx, vint bY, vint bz] 114)) := ((Ext.refl _).alloc _).alloc _
  have p0_8 : ∀ w', Ext ((W0.alloc (.cells #[vint 0, vint 0, vint 0] 114)).alloc (.cells #[vint bx, vint bY, vint bz] 114)) w' → _ := fun w' he => p0 w' (x8.trans he)
  have p1_8 : ∀ w', Ext ((W0.alloc (.cells #[vint 0, vint 0, vint 0] 114)).alloc (.cells #[vint bx, vint bY, vint bz] 114)) w' → _ := fun w' he => p1 w' (x8.trans he)
  have p2_8 : ∀ w', Ext ((W0.alloc (.cells #[vint 0, vint 0, vint 0] 114)).alloc (.cells #[vint bx, vint bY, vint bz] 114)) w' → _ := fun w' he => p2 w' (x8.trans he)
  have q0_8 : ∀ w', Ext ((W0.alloc (.cells #[vint 0, vint 0, vint 0] 114)).alloc (.cells #[vint bx, vint bY, vint bz] 114)) w' → _ := fun w' he => q0 w' (x8.trans he)
  have q1_8 : ∀ w', Ext ((W0.alloc (.cells #[vint 0, vint 0, vint 0] 114)).alloc (.cells #[vint bx, vint bY, vint bz] 114)) w' → _ := fun w' he => q1 w' (x8.trans he)
  have q2_8 : ∀ w', Ext ((W0.alloc (.cells #[vint 0, vint 0, vint 0] 114)).alloc (.cells #[vint bx, vint bY, vint bz] 114)) w' → _ := fun w' he => q2 w' (x8.trans he)
  go_region
  all_goals clear p0_1 p0_2 p0_3 p0_4 p0_5 p0_6 p0_7 p0_8 p1_1 p1_2 p1_3 p1_4 p1_5 p1_6 p1_7 p1_8 p2_1 p2_2 p2_3 p2_4 p2_5 p2_6 p2_7 p2_8 q0_1 q0_2 q0_3 q0_4 q0_5 q0_6 q0_7 q0_8 q1_1 q1_2 q1_3 q1_4 q1_5 q1_6 q1_7 q1_8 q2_1 q2_2 q2_3 q2_4 q2_5 q2_6 q2_7 q2_8 x1 x2 x3 x4 x5 x6 x7 x8 p0 p1 p2 q0 q1 q2
  · have ka : Blk ((W0.alloc (.cells #[.int .i64 ax, .int .i64 ay, .int .i64 az] 114)).alloc (.cells #[.int .i64 bx, .int .i64 bY, .int .i64 az] 114)).drew W0.heap.size [.int .i64 ax, .int .i64 ay, .int .i64 az] := ((Blk.new (W := W0) #[.int .i64 ax, .int .i64 ay, .int .i64 az] 114).ext ((Ext.refl _).alloc _)).ext (Ext.refl _).drew
    have kb : Blk ((W0.alloc (.cells #[.int .i64 ax, .int .i64 ay, .int .i64 az] 114)).alloc (.cells #[.int .i64 bx, .int .i64 bY, .int .i64 az] 114)).drew (W0.heap.size + 1) [.int .i64 bx, .int .i64 bY, .int .i64 az] := (Blk.new' (W := W0.alloc (.cells #[.int .i64 ax, .int .i64 ay, .int .i64 az] 114)) (cs := #[.int .i64 bx, .int .i64 bY, .int .i64 az]) (t := 114) (n := W0.heap.size + 1) (by simp)).ext (Ext.refl _).drew
    have hxd : Ext W0 ((W0.alloc (.cells #[.int .i64 ax, .int .i64 ay, .int .i64 az] 114)).alloc (.cells #[.int .i64 bx, .int .i64 bY, .int .i64 az] 114)).drew := (((Ext.refl _).alloc _).alloc _).drew
    generalize ((W0.alloc (.cells #[.int .i64 ax, .int .i64 ay, .int .i64 az] 114)).alloc (.cells #[.int .i64 bx, .int .i64 bY, .int .i64 az] 114)).drew = w2 at ka kb hxd ⊢
    generalize (W0.heap.size + 1) = gb at *
    generalize W0.heap.size = ga at *
    have a0 := ka.at_ 0 rfl
    have a1 := ka.at_ 1 rfl
    have a2 := ka.at_ 2 rfl
    have c0 := kb.at_ 0 rfl
    have c1 := kb.at_ 1 rfl
    have k6' := K6.out.ext hxd
    have r0 := k6'.at_ 0 rfl
    have r1 := k6'.at_ 1 rfl
    have r2 := k6'.at_ 2 rfl
    have r3 := k6'.at_ 3 rfl
    have r4 := k6'.at_ 4 rfl
    have r5 := k6'.at_ 5 rfl
    have rf := fun j => k6'.free j
    have hw2 := Hx0.out.trans hxd
    clear ka kb
    go_wp2
    have kf := (((((((k6'.ext ((Ext.refl w2).alloc (.cells #[.bool true, .int .i64 (sg * (bY - ay)), .int .i64 (sg * (ax - bx)), .int .i64 (sg * (bY - ay) * ax + sg * (ax - bx) * ay), .int .i64 az, .slice none 0 0] 67))).set (j := 0) (by simp) (.bool true)).set (j := 1) (by simp) (.int .i64 (sg * (bY - ay)))).set (j := 2) (by simp) (.int .i64 (sg * (ax - bx)))).set (j := 3) (by simp) (.int .i64 (sg * (bY - ay) * ax + sg * (ax - bx) * ay))).set (j := 4) (by simp) (.int .i64 az)).set (j := 5) (by simp) (.slice none 0 0))
    refine bodyPost_ret (results_apart rfl _ _ rfl kf) rfl ⟨rfl, ?_⟩
    exact (((((((hw2.alloc _).setCell (Nat.le_refl _) _).setCell (Nat.le_refl _) _).setCell (Nat.le_refl _) _).setCell (Nat.le_refl _) _).setCell (Nat.le_refl _) _).setCell (Nat.le_refl _) _)
  · have ka : Blk ((W0.alloc (.cells #[.int .i64 bx, .int .i64 bY, .int .i64 az] 114)).alloc (.cells #[.int .i64 ax, .int .i64 ay, .int .i64 az] 114)).drew (W0.heap.size + 1) [.int .i64 ax, .int .i64 ay, .int .i64 az] := (Blk.new' (W := W0.alloc (.cells #[.int .i64 bx, .int .i64 bY, .int .i64 az] 114)) (cs := #[.int .i64 ax, .int .i64 ay, .int .i64 az]) (t := 114) (n := W0.heap.size + 1) (by simp)).ext (Ext.refl _).drew
    have kb : Blk ((W0.alloc (.cells #[.int .i64 bx, .int .i64 bY, .int .i64 az] 114)).alloc (.cells #[.int .i64 ax, .int .i64 ay, .int .i64 az] 114)).drew W0.heap.size [.int .i64 bx, .int .i64 bY, .int .i64 az] := ((Blk.new (W := W0) #[.int .i64 bx, .int .i64 bY, .int .i64 az] 114).ext ((Ext.refl _).alloc _)).ext (Ext.refl _).drew
    have hxd : Ext W0 ((W0.alloc (.cells #[.int .i64 bx, .int .i64 bY, .int .i64 az] 114)).alloc (.cells #[.int .i64 ax, .int .i64 ay, .int .i64 az] 114)).drew := (((Ext.refl _).alloc _).alloc _).drew
    generalize ((W0.alloc (.cells #[.int .i64 bx, .int .i64 bY, .int .i64 az] 114)).alloc (.cells #[.int .i64 ax, .int .i64 ay, .int .i64 az] 114)).drew = w2 at ka kb hxd ⊢
    generalize (W0.heap.size + 1) = ga at *
    generalize W0.heap.size = gb at *
    have a0 := ka.at_ 0 rfl
    have a1 := ka.at_ 1 rfl
    have a2 := ka.at_ 2 rfl
    have c0 := kb.at_ 0 rfl
    have c1 := kb.at_ 1 rfl
    have k6' := K6.out.ext hxd
    have r0 := k6'.at_ 0 rfl
    have r1 := k6'.at_ 1 rfl
    have r2 := k6'.at_ 2 rfl
    have r3 := k6'.at_ 3 rfl
    have r4 := k6'.at_ 4 rfl
    have r5 := k6'.at_ 5 rfl
    have rf := fun j => k6'.free j
    have hw2 := Hx0.out.trans hxd
    clear ka kb
    go_wp2
    have kf := (((((((k6'.ext ((Ext.refl w2).alloc (.cells #[.bool true, .int .i64 (sg * (bY - ay)), .int .i64 (sg * (ax - bx)), .int .i64 (sg * (bY - ay) * ax + sg * (ax - bx) * ay), .int .i64 az, .slice none 0 0] 67))).set (j := 0) (by simp) (.bool true)).set (j := 1) (by simp) (.int .i64 (sg * (bY - ay)))).set (j := 2) (by simp) (.int .i64 (sg * (ax - bx)))).set (j := 3) (by simp) (.int .i64 (sg * (bY - ay) * ax + sg * (ax - bx) * ay))).set (j := 4) (by simp) (.int .i64 az)).set (j := 5) (by simp) (.slice none 0 0))
    refine bodyPost_ret (results_apart rfl _ _ rfl kf) rfl ⟨rfl, ?_⟩
    exact (((((((hw2.alloc _).setCell (Nat.le_refl _) _).setCell (Nat.le_refl _) _).setCell (Nat.le_refl _) _).setCell (Nat.le_refl _) _).setCell (Nat.le_refl _) _).setCell (Nat.le_refl _) _)
end Go.Proofs.Yteilglljigjefaa

/- Proofs of whether panels clash: by the code. -/
namespace Go.Proofs.Yteilglljigjefaa
open Go.RowKit
theorem Own.form2 {w1 w : World} {e : TypeId} {size : Nat} {v : Value} {n : Nat} {xs : List Value} (h : Own w1 w e size v n xs) : ∃ A c, v = .slice A n c ∧ n ≤ c := by
  rcases h.2.2 with ⟨rfl, rfl⟩ | ⟨g, cap, cur, rfl, _, _, hc, _⟩
  · exact ⟨none, 0, rfl, Nat.le_refl _⟩
  · exact ⟨_, cap, rfl, hc⟩
section
variable (Ac : Option Addr) (cc : Nat) (c : List Cn) (Ao : Option Addr) (co : Nat) (other : List Cn) (w : World) (hA : CRow w Ac c) (hO : CRow w Ao other) (hc : CnsOk c) (ho : CnsOk other)
include hA hO hc ho
theorem inside_out (h : partP c other) : Calls Try.prog 93 #[.slice Ac c.length cc, .slice Ao other.length co] w fun e w' => ∃ i : Nat, e = .returned (.tuple #[.slice none 0 0, .int .i64 i, .bool false]) ∧ Ext w w' ∧ i < c.length ∧ edgeOut c other i :=
  (inside_any Ac cc c Ao co other w hA hO hc ho).mono fun e w' ⟨v, x, b, he, hx, hr⟩ => by
    rcases hr with ⟨rfl, rfl, i, rfl, h1, h2⟩ | ⟨_, _, ins, _, _, h3⟩
    · exact ⟨i, he, hx, h1, h2⟩
    · exact absurd h (inAt_not fun n hn => ⟨_, h3 n hn⟩)
theorem inside_in (h : ¬ partP c other) : Calls Try.prog 93 #[.slice Ac c.length cc, .slice Ao other.length co] w fun e w' => ∃ (v : Value) (ins : List Int), e = .returned (.tuple #[v, .int .i64 0, .bool true]) ∧ Own w w' 3 1 v c.length (ins.map vint) ∧ ins.length = c.length ∧ ∀ n, n < c.length → inAt c other n (ins.getD n 0) :=
  (inside_any Ac cc c Ao co other w hA hO hc ho).mono fun e w' ⟨v, x, b, he, hx, hr⟩ => by
    rcases hr with ⟨_, _, i, _, h1, h2⟩ | ⟨rfl, rfl, ins, h1, h2, h3⟩
    · exact absurd ⟨i, h1, h2⟩ h
    · exact ⟨v, ins, he, by rw [← h2]; exact h1, h2, h3⟩
end
/-- What apart finds. -/
def ApartRes (w : World) (a b : List Cn) (e : Ending) (w' : World) : Prop := ∃ r I ic, e = .returned (r.val I ic) ∧ AprIn w' r I ic ∧ Ext w w' ∧ rightP r a b ∧ ∀ ad, I = some ad → w.heap.size ≤ ad.block
theorem apr_none {w : World} {r : Apr} (h : r.ins = []) : AprIn w r none 0 := ⟨by rw [h]; exact Ints.nil _ _, by rw [h]; simp, by rw [h]; simp⟩
theorem thr_ins (c : List Cn) (i : Nat) (sg : Int) : (thrA c i sg).ins = [] := rfl
set_option maxRecDepth 100000 in
set_option maxHeartbeats 8000000 in
theorem apart_any (A : Option Addr) (ca : Nat) (a : List Cn) (B : Option Addr) (cb : Nat) (b : List Cn) (w : World) (hA : CRow w A a) (hB : CRow w B b) (hc : CnsOk a) (ho : CnsOk b)
    (H1 : ∀ i, i < a.length → edgeOut a b i → rightP (thrA a i 1) a b) (H2 : ∀ i, i < b.length → edgeOut b a i → rightP (thrA b i (-1)) a b) :
    Calls Try.prog 74 #[.slice A a.length ca, .slice B b.length cb] w (ApartRes w a b) := by
  have kz : Blk (w.alloc (.cells #[.bool false, .int .i64 0, .int .i64 0, .int .i64 0, .int .i64 0, .slice none 0 0] 67)) w.heap.size [.bool false, .int .i64 0, .int .i64 0, .int .i64 0, .int .i64 0, .slice none 0 0] := Blk.new _ _
  have hx0 : Ext w (w.alloc (.cells #[.bool false, .int .i64 0, .int .i64 0, .int .i64 0, .int .i64 0, .slice none 0 0] 67)) := (Ext.refl _).alloc _
  have Hx0 := Lib.hid hx0
  have Kz := Lib.hid kz
  have r0 := kz.at_ 0 rfl
  have r1 := kz.at_ 1 rfl
  have r2 := kz.at_ 2 rfl
  have r3 := kz.at_ 3 rfl
  have r4 := kz.at_ 4 rfl
  have r5 := kz.at_ 5 rfl
  have rf := fun j => kz.free j
  clear hx0 kz
  by_cases h1 : partP a b
  · have ci := fun w' (he : Ext w w') => inside_out A ca a B cb b w' (hA.ext he) (hB.ext he) hc ho h1
    have ct := fun i (hi : i < a.length) w' (he : Ext w w') => through_any A ca a i 1 w' (hA.ext he) hc hi (.inl rfl)
    have hfin : ∀ (i : Nat) (w' : World), i < a.length → edgeOut a b i → Ext w w' → ApartRes w a b (.returned ((thrA a i 1).val none 0)) w' := fun i w' hi he hx => ⟨_, none, 0, rfl, apr_none (thr_ins _ _ _), hx, H1 i hi he, fun ad h => by cases h⟩
    have Ci := Lib.hid ci
    have Ct := Lib.hid ct
    have Hfin := Lib.hid hfin
    clear ci ct hfin H1 H2 hA hB hc ho h1
    obtain ⟨n, hn⟩ : ∃ n, n = a.length := ⟨_, rfl⟩
    rw [← hn] at Ci Ct Hfin ⊢
    clear hn
    generalize b.length = m at *
    go_enter Try.func74, Try.ntmps74
    go_wp2_with (first
      | (go_at_call 93; refine (Ci.out _ Hx0.out).mono ?_; rintro e w1 ⟨i, rfl, hx1, hi, he⟩; have hxx := Hx0.out.trans hx1; have Hi := Lib.hid hi; have He := Lib.hid he; clear hi he; replace r0 : ∀ w', Ext w1 w' → _ := fun w' he => r0 w' (hx1.trans he); replace r1 : ∀ w', Ext w1 w' → _ := fun w' he => r1 w' (hx1.trans he); replace r2 : ∀ w', Ext w1 w' → _ := fun w' he => r2 w' (hx1.trans he); replace r3 : ∀ w', Ext w1 w' → _ := fun w' he => r3 w' (hx1.trans he); replace r4 : ∀ w', Ext w1 w' → _ := fun w' he => r4 w' (hx1.trans he); replace r5 : ∀ w', Ext w1 w' → _ := fun w' he => r5 w' (hx1.trans he); replace rf : ∀ j w', Ext w1 w' → _ := fun j w' he => rf j w' (hx1.trans he))
      | (go_at_call 94; refine (Ct.out i Hi.out _ hxx).mono ?_; rintro e w2 ⟨rfl, hx2⟩; replace r0 : ∀ w', Ext w2 w' → _ := fun w' he => r0 w' (hx2.trans he); replace r1 : ∀ w', Ext w2 w' → _ := fun w' he => r1 w' (hx2.trans he); replace r2 : ∀ w', Ext w2 w' → _ := fun w' he => r2 w' (hx2.trans he); replace r3 : ∀ w', Ext w2 w' → _ := fun w' he => r3 w' (hx2.trans he); replace r4 : ∀ w', Ext w2 w' → _ := fun w' he => r4 w' (hx2.trans he); replace r5 : ∀ w', Ext w2 w' → _ := fun w' he => r5 w' (hx2.trans he); replace rf : ∀ j w', Ext w2 w' → _ := fun j w' he => rf j w' (hx2.trans he)))
    have kf := ((((((((Kz.out.ext hx1).ext hx2).set (j := 0) (by simp) (.bool (thrA a i 1).clear)).set (j := 1) (by simp) (.int .i64 (thrA a i 1).A)).set (j := 2) (by simp) (.int .i64 (thrA a i 1).B)).set (j := 3) (by simp) (.int .i64 (thrA a i 1).C)).set (j := 4) (by simp) (.int .i64 (thrA a i 1).E)).set (j := 5) (by simp) (.slice none 0 0))
    refine bodyPost_ret (results_apart rfl _ _ rfl kf) rfl (Hfin.out i _ Hi.out He.out ?_)
    exact (((((((hxx.trans hx2).setCell (Nat.le_refl _) _).setCell (Nat.le_refl _) _).setCell (Nat.le_refl _) _).setCell (Nat.le_refl _) _).setCell (Nat.le_refl _) _).setCell (Nat.le_refl _) _)
  · have ci := fun w' (he : Ext w w') => inside_in A ca a B cb b w' (hA.ext he) (hB.ext he) hc ho h1
    by_cases h2 : partP b a
    · have cj := fun w' (he : Ext w w') => inside_out B cb b A ca a w' (hB.ext he) (hA.ext he) ho hc h2
      have ct := fun i (hi : i < b.length) w' (he : Ext w w') => through_any B cb b i (-1) w' (hB.ext he) ho hi (.inr rfl)
      have hfin : ∀ (i : Nat) (w' : World), i < b.length → edgeOut b a i → Ext w w' → ApartRes w a b (.returned ((thrA b i (-1)).val none 0)) w' := fun i w' hi he hx => ⟨_, none, 0, rfl, apr_none (thr_ins _ _ _), hx, H2 i hi he, fun ad h => by cases h⟩
      have Ci := Lib.hid ci
      have Cj := Lib.hid cj
      have Ct := Lib.hid ct
      have Hfin := Lib.hid hfin
      clear ci cj ct hfin H1 H2 hA hB hc ho h1 h2
      generalize hn : a.length = n at Ci Cj Ct Hfin ⊢
      generalize hm : b.length = m at Ci Cj Ct Hfin ⊢
      go_enter Try.func74, Try.ntmps74
      go_wp2_with (first
        | (go_at_call 93; ((with_reducible refine (Ci.out _ Hx0.out).mono ?_); rintro e w0 ⟨v, ins, rfl, ho0, hil, hin⟩); have hx0 := ho0.ext; have hxy := Hx0.out.trans hx0; clear hin; replace r0 : ∀ w', Ext w0 w' → _ := fun w' he => r0 w' (hx0.trans he); replace r1 : ∀ w', Ext w0 w' → _ := fun w' he => r1 w' (hx0.trans he); replace r2 : ∀ w', Ext w0 w' → _ := fun w' he => r2 w' (hx0.trans he); replace r3 : ∀ w', Ext w0 w' → _ := fun w' he => r3 w' (hx0.trans he); replace r4 : ∀ w', Ext w0 w' → _ := fun w' he => r4 w' (hx0.trans he); replace r5 : ∀ w', Ext w0 w' → _ := fun w' he => r5 w' (hx0.trans he); replace rf : ∀ j w', Ext w0 w' → _ := fun j w' he => rf j w' (hx0.trans he))
        | (go_at_call 93; ((with_reducible refine (Cj.out _ hxy).mono ?_); rintro e w1 ⟨i, rfl, hx1, hi, he⟩); have hxx := hxy.trans hx1; have Hi := Lib.hid hi; have He := Lib.hid he; clear hi he; replace r0 : ∀ w', Ext w1 w' → _ := fun w' he => r0 w' (hx1.trans he); replace r1 : ∀ w', Ext w1 w' → _ := fun w' he => r1 w' (hx1.trans he); replace r2 : ∀ w', Ext w1 w' → _ := fun w' he => r2 w' (hx1.trans he); replace r3 : ∀ w', Ext w1 w' → _ := fun w' he => r3 w' (hx1.trans he); replace r4 : ∀ w', Ext w1 w' → _ := fun w' he => r4 w' (hx1.trans he); replace r5 : ∀ w', Ext w1 w' → _ := fun w' he => r5 w' (hx1.trans he); replace rf : ∀ j w', Ext w1 w' → _ := fun j w' he => rf j w' (hx1.trans he))
        | (go_at_call 94; refine (Ct.out i Hi.out _ hxx).mono ?_; rintro e w2 ⟨rfl, hx2⟩; replace r0 : ∀ w', Ext w2 w' → _ := fun w' he => r0 w' (hx2.trans he); replace r1 : ∀ w', Ext w2 w' → _ := fun w' he => r1 w' (hx2.trans he); replace r2 : ∀ w', Ext w2 w' → _ := fun w' he => r2 w' (hx2.trans he); replace r3 : ∀ w', Ext w2 w' → _ := fun w' he => r3 w' (hx2.trans he); replace r4 : ∀ w', Ext w2 w' → _ := fun w' he => r4 w' (hx2.trans he); replace r5 : ∀ w', Ext w2 w' → _ := fun w' he => r5 w' (hx2.trans he); replace rf : ∀ j w', Ext w2 w' → _ := fun j w' he => rf j w' (hx2.trans he)))
      have kf := (((((((((Kz.out.ext hx0).ext hx1).ext hx2).set (j := 0) (by simp) (.bool (thrA b i (-1)).clear)).set (j := 1) (by simp) (.int .i64 (thrA b i (-1)).A)).set (j := 2) (by simp) (.int .i64 (thrA b i (-1)).B)).set (j := 3) (by simp) (.int .i64 (thrA b i (-1)).C)).set (j := 4) (by simp) (.int .i64 (thrA b i (-1)).E)).set (j := 5) (by simp) (.slice none 0 0))
      refine bodyPost_ret (results_apart rfl _ _ rfl kf) rfl (Hfin.out i _ Hi.out He.out ?_)
      exact (((((((hxx.trans hx2).setCell (Nat.le_refl _) _).setCell (Nat.le_refl _) _).setCell (Nat.le_refl _) _).setCell (Nat.le_refl _) _).setCell (Nat.le_refl _) _).setCell (Nat.le_refl _) _)
    · have cj := fun w' (he : Ext w w') => inside_in B cb b A ca a w' (hB.ext he) (hA.ext he) ho hc h2
      have hfin : ∀ (i1 i2 : List Int) (I : Option Addr) (ic : Nat) (w' : World), i1.length = a.length → i2.length = b.length → (∀ n, n < a.length → inAt a b n (i1.getD n 0)) → (∀ n, n < b.length → inAt b a n (i2.getD n 0)) → Ints w' I (i1 ++ i2) → a.length + b.length ≤ ic → (∀ ad, I = some ad → w.heap.size ≤ ad.block) → Ext w w' → ApartRes w a b (.returned (.agg #[.bool false, .int .i64 0, .int .i64 0, .int .i64 0, .int .i64 0, .slice I (a.length + b.length) ic])) w' := fun i1 i2 I ic w' l1 l2 h1 h2 hI hic hnew hx => by
        have hl : (i1 ++ i2).length = a.length + b.length := by simp [l1, l2]
        have h8 := hc.len
        have h9 := ho.len
        refine ⟨⟨false, 0, 0, 0, 0, i1 ++ i2⟩, I, ic, by rw [← hl], ⟨hI, by rw [hl]; exact hic, by simp only [hl]; omega⟩, hx, ?_, hnew⟩
        unfold rightP
        rw [if_neg (by simp)]
        refine ⟨⟨rfl, rfl, rfl, rfl⟩, hl, fun n hn => ?_, fun n hn => ?_⟩
        · have e : (i1 ++ i2).getD n 0 = i1.getD n 0 := by simp [List.getD, List.getElem?_append_left (show n < i1.length by omega)]
          simp only
          rw [e]; exact h1 n hn
        · have e : (i1 ++ i2).getD (a.length + n) 0 = i2.getD n 0 := by rw [← l1]; simp [List.getD, List.getElem?_append_right]
          simp only
          rw [e]; exact h2 n hn
      have hn8 := hc.len
      have hm8 := ho.len
      have Ci := Lib.hid ci
      have Cj := Lib.hid cj
      have Hfin := Lib.hid hfin
      clear ci cj hfin H1 H2 hA hB hc ho h1 h2
      generalize hn : a.length = n at Ci Cj Hfin hn8 ⊢
      generalize hm : b.length = m at Ci Cj Hfin hm8 ⊢
      go_enter Try.func74, Try.ntmps74
      go_wp2_with (first
        | (go_at_call 93; ((with_reducible refine (Ci.out _ Hx0.out).mono ?_); rintro e w1 ⟨v1, i1, rfl, ho1, hl1, hin1⟩); have hx1 := ho1.ext; have hxx := Hx0.out.trans hx1; have Hin1 := Lib.hid hin1; clear hin1; replace r0 : ∀ w', Ext w1 w' → _ := fun w' he => r0 w' (hx1.trans he); replace r1 : ∀ w', Ext w1 w' → _ := fun w' he => r1 w' (hx1.trans he); replace r2 : ∀ w', Ext w1 w' → _ := fun w' he => r2 w' (hx1.trans he); replace r3 : ∀ w', Ext w1 w' → _ := fun w' he => r3 w' (hx1.trans he); replace r4 : ∀ w', Ext w1 w' → _ := fun w' he => r4 w' (hx1.trans he); replace r5 : ∀ w', Ext w1 w' → _ := fun w' he => r5 w' (hx1.trans he); replace rf : ∀ j w', Ext w1 w' → _ := fun j w' he => rf j w' (hx1.trans he))
        | (go_at_call 93; ((with_reducible refine (Cj.out _ hxx).mono ?_); rintro e w2 ⟨v2, i2, rfl, ho2, hl2, hin2⟩); have hx2 := ho2.ext; have Hin2 := Lib.hid hin2; clear hin2; obtain ⟨g2, c2, rfl, _, _⟩ := ho2.at_ (by omega); replace r0 : ∀ w', Ext w2 w' → _ := fun w' he => r0 w' (hx2.trans he); replace r1 : ∀ w', Ext w2 w' → _ := fun w' he => r1 w' (hx2.trans he); replace r2 : ∀ w', Ext w2 w' → _ := fun w' he => r2 w' (hx2.trans he); replace r3 : ∀ w', Ext w2 w' → _ := fun w' he => r3 w' (hx2.trans he); replace r4 : ∀ w', Ext w2 w' → _ := fun w' he => r4 w' (hx2.trans he); replace r5 : ∀ w', Ext w2 w' → _ := fun w' he => r5 w' (hx2.trans he); replace rf : ∀ j w', Ext w2 w' → _ := fun j w' he => rf j w' (hx2.trans he))
        | (refine own_append_src (w1 := (w.alloc (.cells #[.bool false, .int .i64 0, .int .i64 0, .int .i64 0, .int .i64 0, .slice none 0 0] 67))) int_elem rfl _ _ 30 rfl Try.underlying30 _ n _ rfl (ho1.later hx2) _ m _ _ rfl (by simpa using hl2) ho2.row (ints_cells_one _) (by omega) (by unfold maxLen; omega) ?_; intro v3 w3 ho3 hg3; obtain ⟨A3, c3, rfl, hc3⟩ := ho3.form2; have hx3 := ho3.ext; replace r0 := (Kz.out.ext hx3).at_ 0 rfl; replace r1 := (Kz.out.ext hx3).at_ 1 rfl; replace r2 := (Kz.out.ext hx3).at_ 2 rfl; replace r3 := (Kz.out.ext hx3).at_ 3 rfl; replace r4 := (Kz.out.ext hx3).at_ 4 rfl; replace r5 := (Kz.out.ext hx3).at_ 5 rfl; replace rf := fun j => (Kz.out.ext hx3).free j))
      have kf := (((((((Kz.out.ext hx3).set (j := 0) (by simp) (.bool false)).set (j := 1) (by simp) (.int .i64 0)).set (j := 2) (by simp) (.int .i64 0)).set (j := 3) (by simp) (.int .i64 0)).set (j := 4) (by simp) (.int .i64 0)).set (j := 5) (by simp) (.slice A3 (n + m) c3))
      have hne : (Value.slice A3 (n + m) c3).ownBlock ≠ some w.heap.size := fun h => by
        have := (ho3.lt h).1
        simp at this
        omega
      have ho4 := (((((((ho3.since Hx0.out).other (p := ⟨w.heap.size, 0, none⟩) (Nat.le_refl _) hne (.bool false)).other (p := ⟨w.heap.size, 1, none⟩) (Nat.le_refl _) hne (.int .i64 0)).other (p := ⟨w.heap.size, 2, none⟩) (Nat.le_refl _) hne (.int .i64 0)).other (p := ⟨w.heap.size, 3, none⟩) (Nat.le_refl _) hne (.int .i64 0)).other (p := ⟨w.heap.size, 4, none⟩) (Nat.le_refl _) hne (.int .i64 0)).other (p := ⟨w.heap.size, 5, none⟩) (Nat.le_refl _) hne (.slice A3 (n + m) c3))
      have hI4 := ho4.row
      rw [← List.map_append] at hI4
      refine bodyPost_ret (results_apart rfl _ _ rfl kf) rfl (Hfin.out i1 i2 A3 c3 _ hl1 hl2 Hin1.out Hin2.out ?_ hc3 (fun ad e => by subst e; have := (ho3.lt (g := ad.block) (by simp [Value.ownBlock])).1; simp at this; omega) ?_)
      · exact hI4
      · exact (((((((Hx0.out.trans hx3).setCell (Nat.le_refl _) _).setCell (Nat.le_refl _) _).setCell (Nat.le_refl _) _).setCell (Nat.le_refl _) _).setCell (Nat.le_refl _) _).setCell (Nat.le_refl _) _)
end Go.Proofs.Yteilglljigjefaa

/- Clash: by the code. -/
namespace Go.Proofs.Yteilglljigjefaa
open Go.RowKit
theorem results_apart2 {fn : Func} {t s : Tmp} (h : fn.results = #[.cell t 67, .tmp s]) (tmps : Array Value) (w : World) {g : Nat} {u0 u1 u2 u3 u4 u5 : Value} (h8 : tmps.getD t undef = .pointer (some ⟨g, 0, none⟩)) (hb : Blk w g [u0, u1, u2, u3, u4, u5]) :
    (results fn tmps).run Try.prog w = .ok (.tuple #[.agg #[u0, u1, u2, u3, u4, u5], tmps.getD s undef]) w := by
  rw [Array.getD_eq_getD_getElem?] at h8
  have c0 := hb.c 0 _ rfl
  have c1 := hb.c 1 _ rfl
  have c2 := hb.c 2 _ rfl
  have c3 := hb.c 3 _ rfl
  have c4 := hb.c 4 _ rfl
  have c5 := hb.c 5 _ rfl
  simp [results, h, loadVar, h8, c0, c1, c2, c3, c4, c5, loadCells, loadCellsFrom, asAddr, Addr.add_lit, Result.andThen, go_sem]
def aprZ : Apr := ⟨false, 0, 0, 0, 0, []⟩
set_option maxRecDepth 100000 in
set_option maxHeartbeats 8000000 in
theorem clash_bad (A : Option Addr) (c : Nat) (ps : List (List Sp)) (B : Option Addr) (d : Nat) (hs : List Hg) (i k : Int) (w : World) (hL : Lk w A ps B hs) (h2 : twoE ps hs i k = 2 ∨ twoE ps hs i k = 50) (h3 : ¬ (linkP ps hs ∧ twoP ps i k)) :
    Calls Try.prog 42 #[.agg #[.slice A ps.length c, .slice B hs.length d], .int .i64 i, .int .i64 k] w fun e w' => e = .returned (.tuple #[aprZ.val none 0, .int .i64 (twoE ps hs i k)]) ∧ Ext w w' := by
  have ht := fun w' (he : Ext w w') => two_err A c ps B d hs i k w' (hL.ext he) h3
  have hne : ¬ twoE ps hs i k = 0 := by omega
  have d1 : (twoE ps hs i k != 0) = true := by simpa using hne
  have Ht := Lib.hid ht
  clear ht hL h2 hne h3
  generalize twoE ps hs i k = E at *
  generalize ps.length = np at *
  generalize hs.length = nh at *
  have kl : Blk ((w.alloc (.cells #[.slice A np c, .slice B nh d] 25)).alloc (.cells #[.bool false, .int .i64 0, .int .i64 0, .int .i64 0, .int .i64 0, .slice none 0 0] 67)) w.heap.size [.slice A np c, .slice B nh d] := (Blk.new _ _).ext ((Ext.refl _).alloc _)
  have kz : Blk ((w.alloc (.cells #[.slice A np c, .slice B nh d] 25)).alloc (.cells #[.bool false, .int .i64 0, .int .i64 0, .int .i64 0, .int .i64 0, .slice none 0 0] 67)) (w.heap.size + 1) [.bool false, .int .i64 0, .int .i64 0, .int .i64 0, .int .i64 0, .slice none 0 0] := Blk.new' (cs := #[.bool false, .int .i64 0, .int .i64 0, .int .i64 0, .int .i64 0, .slice none 0 0]) (by simp)
  have b0 := kl.at_ 0 rfl
  have b1 := kl.at_ 1 rfl
  have r0 := kz.at_ 0 rfl
  have r1 := kz.at_ 1 rfl
  have r2 := kz.at_ 2 rfl
  have r3 := kz.at_ 3 rfl
  have r4 := kz.at_ 4 rfl
  have r5 := kz.at_ 5 rfl
  have rf := fun j => kz.free j
  have hx0 : Ext w ((w.alloc (.cells #[.slice A np c, .slice B nh d] 25)).alloc (.cells #[.bool false, .int .i64 0, .int .i64 0, .int .i64 0, .int .i64 0, .slice none 0 0] 67)) := ((Ext.refl _).alloc _).alloc _
  have Hx0 := Lib.hid hx0
  have Kz := Lib.hid kz
  clear kl hx0 kz
  go_enter Try.func42, Try.ntmps42
  go_wp2_with (go_at_call 73; refine (Ht.out _ Hx0.out).mono ?_; rintro e w1 ⟨rfl, hx1⟩; have hxx := Hx0.out.trans hx1; replace b0 : ∀ w', Ext w1 w' → _ := fun w' he => b0 w' (hx1.trans he); replace b1 : ∀ w', Ext w1 w' → _ := fun w' he => b1 w' (hx1.trans he); replace r0 : ∀ w', Ext w1 w' → _ := fun w' he => r0 w' (hx1.trans he); replace r1 : ∀ w', Ext w1 w' → _ := fun w' he => r1 w' (hx1.trans he); replace r2 : ∀ w', Ext w1 w' → _ := fun w' he => r2 w' (hx1.trans he); replace r3 : ∀ w', Ext w1 w' → _ := fun w' he => r3 w' (hx1.trans he); replace r4 : ∀ w', Ext w1 w' → _ := fun w' he => r4 w' (hx1.trans he); replace r5 : ∀ w', Ext w1 w' → _ := fun w' he => r5 w' (hx1.trans he); replace rf : ∀ j w', Ext w1 w' → _ := fun j w' he => rf j w' (hx1.trans he))
  have kf := (((((((Kz.out.ext hx1).set (j := 0) (by simp) (.bool false)).set (j := 1) (by simp) (.int .i64 0)).set (j := 2) (by simp) (.int .i64 0)).set (j := 3) (by simp) (.int .i64 0)).set (j := 4) (by simp) (.int .i64 0)).set (j := 5) (by simp) (.slice none 0 0))
  refine bodyPost_ret (results_apart2 rfl _ _ rfl kf) rfl ⟨rfl, ?_⟩
  exact ((((((hxx.setCell (Nat.le_succ _) _).setCell (Nat.le_succ _) _).setCell (Nat.le_succ _) _).setCell (Nat.le_succ _) _).setCell (Nat.le_succ _) _).setCell (Nat.le_succ _) _)
/-- A store elsewhere leaves a proof as it is. -/
theorem AprIn.far {w : World} {r : Apr} {I : Option Addr} {ic : Nat} (h : AprIn w r I ic) {p : Addr} (hp : ∀ ad, I = some ad → 0 < r.ins.length → ad.block ≠ p.block) (u : Value) : AprIn (w.setCell p u) r I ic := by
  refine ⟨fun k hk => ?_, h.cap, h.len⟩
  obtain ⟨ad, rfl, hc⟩ := h.ins k hk
  refine ⟨ad, rfl, ?_⟩
  rw [World.cell?_setCell_other _ _ _ _ (fun e => hp ad rfl (by simp at hk; omega) (by rw [e]; unfold Addr.add; split <;> rfl)), hc]
set_option maxRecDepth 100000 in
set_option maxHeartbeats 8000000 in
theorem clash_good (A : Option Addr) (c : Nat) (ps : List (List Sp)) (B : Option Addr) (d : Nat) (hs : List Hg) (i k : Nat) (w : World) (hL : Lk w A ps B hs) (hl : linkP ps hs) (hi : i < ps.length) (hk : k < ps.length) (hne : i ≠ k) :
    Calls Try.prog 42 #[.agg #[.slice A ps.length c, .slice B hs.length d], .int .i64 i, .int .i64 k] w fun e w' => ∃ r I ic, e = .returned (.tuple #[r.val I ic, .int .i64 (if clashB (pcrn ps hs i) (pcrn ps hs k) = true then 51 else 0)]) ∧ AprIn w' r I ic ∧ Ext w w' ∧ rightP r (pcrn ps hs i) (pcrn ps hs k) := by
  have ht := fun w' (he : Ext w w') => two_in A c ps B d hs i k w' (hL.ext he) hl hi hk hne
  have pi := link_pose hl hi
  have pk := link_pose hl hk
  have qi := (linkP_iff.1 hl).2.2.1 i hi
  have qk := (linkP_iff.1 hl).2.2.1 k hk
  have hat := fun (X Y : Option Addr) (x y : Nat) w' (hX : CRow w' X (pcrn ps hs i)) (hY : CRow w' Y (pcrn ps hs k)) => apart_any X x (pcrn ps hs i) Y y (pcrn ps hs k) w' hX hY (pcrn_ok hl hi) (pcrn_ok hl hk)
    (fun j hj h => thr_right1 pi qi (by rw [pcrn_len] at hj; exact hj) h) (fun j hj h => thr_right2 pk qk (by rw [pcrn_len] at hj; exact hj) h)
  have htl := fun r (h : rightP r (pcrn ps hs i) (pcrn ps hs k)) => right_tells pi pk qi qk h
  change ∀ r, rightP r (pcrn ps hs i) (pcrn ps hs k) → clashB (pcrn ps hs i) (pcrn ps hs k) = !r.clear at htl
  have Ht := Lib.hid ht
  have Hat := Lib.hid hat
  clear ht hat hL hl hi hk hne pi pk qi qk
  generalize pcrn ps hs i = C1 at *
  generalize pcrn ps hs k = C2 at *
  generalize ps.length = np at *
  generalize hs.length = nh at *
  generalize C1.length = m1 at *
  generalize C2.length = m2 at *
  have kl : Blk ((w.alloc (.cells #[.slice A np c, .slice B nh d] 25)).alloc (.cells #[.bool false, .int .i64 0, .int .i64 0, .int .i64 0, .int .i64 0, .slice none 0 0] 67)) w.heap.size [.slice A np c, .slice B nh d] := (Blk.new _ _).ext ((Ext.refl _).alloc _)
  have kz : Blk ((w.alloc (.cells #[.slice A np c, .slice B nh d] 25)).alloc (.cells #[.bool false, .int .i64 0, .int .i64 0, .int .i64 0, .int .i64 0, .slice none 0 0] 67)) (w.heap.size + 1) [.bool false, .int .i64 0, .int .i64 0, .int .i64 0, .int .i64 0, .slice none 0 0] := Blk.new' (cs := #[.bool false, .int .i64 0, .int .i64 0, .int .i64 0, .int .i64 0, .slice none 0 0]) (by simp)
  have b0 := kl.at_ 0 rfl
  have b1 := kl.at_ 1 rfl
  have r0 := kz.at_ 0 rfl
  have r1 := kz.at_ 1 rfl
  have r2 := kz.at_ 2 rfl
  have r3 := kz.at_ 3 rfl
  have r4 := kz.at_ 4 rfl
  have r5 := kz.at_ 5 rfl
  have rf := fun j => kz.free j
  have hx0 : Ext w ((w.alloc (.cells #[.slice A np c, .slice B nh d] 25)).alloc (.cells #[.bool false, .int .i64 0, .int .i64 0, .int .i64 0, .int .i64 0, .slice none 0 0] 67)) := ((Ext.refl _).alloc _).alloc _
  have Hx0 := Lib.hid hx0
  have Kz := Lib.hid kz
  clear kl hx0 kz
  cases hR : clashB C1 C2
  · have Htl := Lib.hid (show ∀ r, rightP r C1 C2 → r.clear = true from fun r h => by have := htl r h; rw [hR] at this; exact (show ∀ b : Bool, false = !b → b = true by decide) _ this)
    clear htl hR
    go_enter Try.func42, Try.ntmps42
    go_wp2_with (first
      | (go_at_call 73; refine (Ht.out _ Hx0.out).mono ?_; rintro e w1 ⟨X, x, Y, y, rfl, hX, hY, hx1⟩; have hxx := Hx0.out.trans hx1; replace b0 : ∀ w', Ext w1 w' → _ := fun w' he => b0 w' (hx1.trans he); replace b1 : ∀ w', Ext w1 w' → _ := fun w' he => b1 w' (hx1.trans he); replace r0 : ∀ w', Ext w1 w' → _ := fun w' he => r0 w' (hx1.trans he); replace r1 : ∀ w', Ext w1 w' → _ := fun w' he => r1 w' (hx1.trans he); replace r2 : ∀ w', Ext w1 w' → _ := fun w' he => r2 w' (hx1.trans he); replace r3 : ∀ w', Ext w1 w' → _ := fun w' he => r3 w' (hx1.trans he); replace r4 : ∀ w', Ext w1 w' → _ := fun w' he => r4 w' (hx1.trans he); replace r5 : ∀ w', Ext w1 w' → _ := fun w' he => r5 w' (hx1.trans he); replace rf : ∀ j w', Ext w1 w' → _ := fun j w' he => rf j w' (hx1.trans he))
      | (go_at_call 74; refine (Hat.out X Y x y _ hX hY).mono ?_; rintro e w2 ⟨⟨rc, rA, rB, rC, rE, ri⟩, I, ic, rfl, hin, hx2, hright, hnew⟩; have hcl : rc = true := Htl.out _ hright; subst hcl; have Hr := Lib.hid (And.intro hin (And.intro hright hnew)); clear hin hright hnew; have hxy := hxx.trans hx2; have hx12 := hx1.trans hx2; replace b0 : ∀ w', Ext w2 w' → _ := fun w' he => b0 w' (hx2.trans he); replace b1 : ∀ w', Ext w2 w' → _ := fun w' he => b1 w' (hx2.trans he); replace r0 : ∀ w', Ext w2 w' → _ := fun w' he => r0 w' (hx2.trans he); replace r1 : ∀ w', Ext w2 w' → _ := fun w' he => r1 w' (hx2.trans he); replace r2 : ∀ w', Ext w2 w' → _ := fun w' he => r2 w' (hx2.trans he); replace r3 : ∀ w', Ext w2 w' → _ := fun w' he => r3 w' (hx2.trans he); replace r4 : ∀ w', Ext w2 w' → _ := fun w' he => r4 w' (hx2.trans he); replace r5 : ∀ w', Ext w2 w' → _ := fun w' he => r5 w' (hx2.trans he); replace rf : ∀ j w', Ext w2 w' → _ := fun j w' he => rf j w' (hx2.trans he); have k9 := (Blk.new (W := w2) #[.bool true, .int .i64 rA, .int .i64 rB, .int .i64 rC, .int .i64 rE, .slice I ri.length ic] 67); have q0 := k9.at_ 0 rfl; have q1 := k9.at_ 1 rfl; have q2 := k9.at_ 2 rfl; have q3 := k9.at_ 3 rfl; have q4 := k9.at_ 4 rfl; have q5 := k9.at_ 5 rfl; clear k9))
    have kf := ((((((((Kz.out.ext hx12).ext ((Ext.refl w2).alloc (.cells #[.bool true, .int .i64 rA, .int .i64 rB, .int .i64 rC, .int .i64 rE, .slice I ri.length ic] 67))).set (j := 0) (by simp) (.bool true)).set (j := 1) (by simp) (.int .i64 rA)).set (j := 2) (by simp) (.int .i64 rB)).set (j := 3) (by simp) (.int .i64 rC)).set (j := 4) (by simp) (.int .i64 rE)).set (j := 5) (by simp) (.slice I ri.length ic))
    have hxf := (((((((hxy.alloc (.cells #[.bool true, .int .i64 rA, .int .i64 rB, .int .i64 rC, .int .i64 rE, .slice I ri.length ic] 67)).setCell (p := ⟨w.heap.size + 1, 0, none⟩) (Nat.le_succ _) (.bool true)).setCell (p := ⟨w.heap.size + 1, 1, none⟩) (Nat.le_succ _) (.int .i64 rA)).setCell (p := ⟨w.heap.size + 1, 2, none⟩) (Nat.le_succ _) (.int .i64 rB)).setCell (p := ⟨w.heap.size + 1, 3, none⟩) (Nat.le_succ _) (.int .i64 rC)).setCell (p := ⟨w.heap.size + 1, 4, none⟩) (Nat.le_succ _) (.int .i64 rE)).setCell (p := ⟨w.heap.size + 1, 5, none⟩) (Nat.le_succ _) (.slice I ri.length ic))
    have hge : w.heap.size + 1 + 1 ≤ w1.heap.size := by
      have := hx1.le
      simp at this
      omega
    have hfar : ∀ ad, I = some ad → 0 < ri.length → ad.block ≠ w.heap.size + 1 := fun ad e _ => by
      have := Hr.out.2.2 ad e
      omega
    refine bodyPost_ret (results_apart2 rfl _ _ rfl kf) rfl ⟨⟨true, rA, rB, rC, rE, ri⟩, I, ic, rfl, ?_, hxf, Hr.out.2.1⟩
    exact (((((((Hr.out.1.ext ((Ext.refl w2).alloc _)).far (p := ⟨w.heap.size + 1, 0, none⟩) hfar (.bool true)).far (p := ⟨w.heap.size + 1, 1, none⟩) hfar (.int .i64 rA)).far (p := ⟨w.heap.size + 1, 2, none⟩) hfar (.int .i64 rB)).far (p := ⟨w.heap.size + 1, 3, none⟩) hfar (.int .i64 rC)).far (p := ⟨w.heap.size + 1, 4, none⟩) hfar (.int .i64 rE)).far (p := ⟨w.heap.size + 1, 5, none⟩) hfar (.slice I ri.length ic))
  · have Htl := Lib.hid (show ∀ r, rightP r C1 C2 → r.clear = false from fun r h => by have := htl r h; rw [hR] at this; exact (show ∀ b : Bool, true = !b → b = false by decide) _ this)
    clear htl hR
    go_enter Try.func42, Try.ntmps42
    go_wp2_with (first
      | (go_at_call 73; refine (Ht.out _ Hx0.out).mono ?_; rintro e w1 ⟨X, x, Y, y, rfl, hX, hY, hx1⟩; have hxx := Hx0.out.trans hx1; replace b0 : ∀ w', Ext w1 w' → _ := fun w' he => b0 w' (hx1.trans he); replace b1 : ∀ w', Ext w1 w' → _ := fun w' he => b1 w' (hx1.trans he); replace r0 : ∀ w', Ext w1 w' → _ := fun w' he => r0 w' (hx1.trans he); replace r1 : ∀ w', Ext w1 w' → _ := fun w' he => r1 w' (hx1.trans he); replace r2 : ∀ w', Ext w1 w' → _ := fun w' he => r2 w' (hx1.trans he); replace r3 : ∀ w', Ext w1 w' → _ := fun w' he => r3 w' (hx1.trans he); replace r4 : ∀ w', Ext w1 w' → _ := fun w' he => r4 w' (hx1.trans he); replace r5 : ∀ w', Ext w1 w' → _ := fun w' he => r5 w' (hx1.trans he); replace rf : ∀ j w', Ext w1 w' → _ := fun j w' he => rf j w' (hx1.trans he))
      | (go_at_call 74; refine (Hat.out X Y x y _ hX hY).mono ?_; rintro e w2 ⟨⟨rc, rA, rB, rC, rE, ri⟩, I, ic, rfl, hin, hx2, hright, hnew⟩; have hcl : rc = false := Htl.out _ hright; subst hcl; have Hr := Lib.hid (And.intro hin (And.intro hright hnew)); clear hin hright hnew; have hxy := hxx.trans hx2; have hx12 := hx1.trans hx2; replace b0 : ∀ w', Ext w2 w' → _ := fun w' he => b0 w' (hx2.trans he); replace b1 : ∀ w', Ext w2 w' → _ := fun w' he => b1 w' (hx2.trans he); replace r0 : ∀ w', Ext w2 w' → _ := fun w' he => r0 w' (hx2.trans he); replace r1 : ∀ w', Ext w2 w' → _ := fun w' he => r1 w' (hx2.trans he); replace r2 : ∀ w', Ext w2 w' → _ := fun w' he => r2 w' (hx2.trans he); replace r3 : ∀ w', Ext w2 w' → _ := fun w' he => r3 w' (hx2.trans he); replace r4 : ∀ w', Ext w2 w' → _ := fun w' he => r4 w' (hx2.trans he); replace r5 : ∀ w', Ext w2 w' → _ := fun w' he => r5 w' (hx2.trans he); replace rf : ∀ j w', Ext w2 w' → _ := fun j w' he => rf j w' (hx2.trans he); have k9 := (Blk.new (W := w2) #[.bool false, .int .i64 rA, .int .i64 rB, .int .i64 rC, .int .i64 rE, .slice I ri.length ic] 67); have q0 := k9.at_ 0 rfl; have q1 := k9.at_ 1 rfl; have q2 := k9.at_ 2 rfl; have q3 := k9.at_ 3 rfl; have q4 := k9.at_ 4 rfl; have q5 := k9.at_ 5 rfl; clear k9))
    have kf := ((((((((Kz.out.ext hx12).ext ((Ext.refl w2).alloc (.cells #[.bool false, .int .i64 rA, .int .i64 rB, .int .i64 rC, .int .i64 rE, .slice I ri.length ic] 67))).set (j := 0) (by simp) (.bool false)).set (j := 1) (by simp) (.int .i64 rA)).set (j := 2) (by simp) (.int .i64 rB)).set (j := 3) (by simp) (.int .i64 rC)).set (j := 4) (by simp) (.int .i64 rE)).set (j := 5) (by simp) (.slice I ri.length ic))
    have hxf := (((((((hxy.alloc (.cells #[.bool false, .int .i64 rA, .int .i64 rB, .int .i64 rC, .int .i64 rE, .slice I ri.length ic] 67)).setCell (p := ⟨w.heap.size + 1, 0, none⟩) (Nat.le_succ _) (.bool false)).setCell (p := ⟨w.heap.size + 1, 1, none⟩) (Nat.le_succ _) (.int .i64 rA)).setCell (p := ⟨w.heap.size + 1, 2, none⟩) (Nat.le_succ _) (.int .i64 rB)).setCell (p := ⟨w.heap.size + 1, 3, none⟩) (Nat.le_succ _) (.int .i64 rC)).setCell (p := ⟨w.heap.size + 1, 4, none⟩) (Nat.le_succ _) (.int .i64 rE)).setCell (p := ⟨w.heap.size + 1, 5, none⟩) (Nat.le_succ _) (.slice I ri.length ic))
    have hge : w.heap.size + 1 + 1 ≤ w1.heap.size := by
      have := hx1.le
      simp at this
      omega
    have hfar : ∀ ad, I = some ad → 0 < ri.length → ad.block ≠ w.heap.size + 1 := fun ad e _ => by
      have := Hr.out.2.2 ad e
      omega
    refine bodyPost_ret (results_apart2 rfl _ _ rfl kf) rfl ⟨⟨false, rA, rB, rC, rE, ri⟩, I, ic, rfl, ?_, hxf, Hr.out.2.1⟩
    exact (((((((Hr.out.1.ext ((Ext.refl w2).alloc _)).far (p := ⟨w.heap.size + 1, 0, none⟩) hfar (.bool false)).far (p := ⟨w.heap.size + 1, 1, none⟩) hfar (.int .i64 rA)).far (p := ⟨w.heap.size + 1, 2, none⟩) hfar (.int .i64 rB)).far (p := ⟨w.heap.size + 1, 3, none⟩) hfar (.int .i64 rC)).far (p := ⟨w.heap.size + 1, 4, none⟩) hfar (.int .i64 rE)).far (p := ⟨w.heap.size + 1, 5, none⟩) hfar (.slice I ri.length ic))
end Go.Proofs.Yteilglljigjefaa
