/- The examples of the outright laws: a square, two squares with a hinge. -/
import Derived.Test.YteilglljigjefaaHo01
namespace Go.Proofs.Yteilglljigjefaa
open Go.RowKit
def sqL : List Sp := [⟨0, 0⟩, ⟨4, 0⟩, ⟨4, 4⟩, ⟨0, 4⟩]
def twL : List (List Sp) := [sqL, sqL]
def twH (n : Int) : List Hg := [⟨⟨4, 0⟩, ⟨0, 0⟩, n⟩]
set_option maxRecDepth 100000 in
theorem square_any (w : World) :
    Calls Try.prog 49 #[] w fun e w' => ∃ g, e = .returned (.slice (some ⟨g, 0, none⟩) 4 4) ∧ OwnS w w' (.slice (some ⟨g, 0, none⟩) 4 4) sqL := by
  have hrow : OwnS w (w.alloc (.cells #[.int .i64 0, .int .i64 0, .int .i64 4, .int .i64 0, .int .i64 4, .int .i64 4, .int .i64 0, .int .i64 4] 27)) (.slice (some ⟨w.heap.size, 0, none⟩) 4 4) sqL := Own.lit (e := 27) (size := 2) (Ext.refl _) #[.int .i64 0, .int .i64 0, .int .i64 4, .int .i64 0, .int .i64 4, .int .i64 4, .int .i64 0, .int .i64 4] 4 (by unfold maxLen; omega) rfl
  have H := Lib.hid hrow
  clear hrow
  go_enter Try.func49, Try.ntmps49
  go_wp2
  go_ret
  exact ⟨_, rfl, H.out⟩
theorem twL_ok {n : Nat} (hn : n < 36) : linkP twL (twH n) := by
  refine ⟨by decide, rfl, by decide, fun h hh => ?_⟩
  simp only [twH, List.mem_singleton] at hh
  subst hh
  exact ⟨(by decide : spotB ⟨4, 0⟩), (by decide : spotB ⟨0, 0⟩), by show (0 : Int) ≤ n; omega, by show (n : Int) ≤ 35; omega⟩
set_option maxRecDepth 100000 in
set_option maxHeartbeats 4000000 in
theorem two_link (n : Int) (w : World) :
    Calls Try.prog 48 #[.int .i64 n] w fun e w' => ∃ A B, e = .returned (.agg #[.slice A 2 2, .slice B 1 1]) ∧ Lk w' A twL B (twH n) ∧ Ext w w' := by
  have hz : Whole (w.alloc (.cells #[.slice none 0 0, .slice none 0 0] 25)) w.heap.size #[.slice none 0 0, .slice none 0 0] 25 := Whole.new rfl
  have hx0 : Ext w (w.alloc (.cells #[.slice none 0 0, .slice none 0 0] 25)) := (Ext.refl _).alloc _
  have hQ0 := Pans.nil w (w.alloc (.cells #[.slice none 0 0, .slice none 0 0] 25))
  have Hz := Lib.hid hz
  have HQ0 := Lib.hid hQ0
  have Hx0 := Lib.hid hx0
  clear hz hx0 hQ0
  go_enter Try.func48, Try.ntmps48
  go_wp2_with (first
    | (go_at_call 49; refine (square_any (w.alloc (.cells #[.slice none 0 0, .slice none 0 0] 25))).mono ?_; rintro e w1 ⟨g1, rfl, ho1⟩; have hQ1 := (HQ0.out.later ho1.ext).snoc HQ0.out Hx0.out ho1; have hZ1 := Whole.ext Hz.out ho1.ext; have hx1 := Hx0.out.trans ho1.ext; clear ho1)
    | (go_at_call 49; refine (square_any w1).mono ?_; rintro e w2 ⟨g2, rfl, ho2⟩; have hQ2 := (hQ1.later ho2.ext).snoc hQ1 hx1 ho2; have hZ2 := hZ1.ext ho2.ext; have hx2 := hx1.trans ho2.ext; clear ho2 hQ1 hZ1 hx1; have hZ3 := (hZ2.ext ((Ext.refl w2).alloc (.cells #[.slice (some ⟨g1, 0, none⟩) 4 4, .slice (some ⟨g2, 0, none⟩) 4 4] 40))).blk; have z0 := hZ3.at_ 0 rfl; have z1 := hZ3.at_ 1 rfl; have zf := hZ3.free; clear hZ3; have HH := Lib.hid (And.intro hQ2 (And.intro hZ2 hx2)); clear hQ2 hZ2 hx2))
  obtain ⟨hQ2, hZ2, hx2⟩ := HH.out
  have hx34 : Ext w2 ((w2.alloc (.cells #[.slice (some ⟨g1, 0, none⟩) 4 4, .slice (some ⟨g2, 0, none⟩) 4 4] 40)).alloc (.cells #[.int .i64 4, .int .i64 0, .int .i64 0, .int .i64 0, .int .i64 n] 85)) := ((Ext.refl _).alloc _).alloc _
  have hQ4 := hQ2.later hx34
  have hZ4 := hZ2.ext hx34
  have hP4 : Own w ((w2.alloc (.cells #[.slice (some ⟨g1, 0, none⟩) 4 4, .slice (some ⟨g2, 0, none⟩) 4 4] 40)).alloc (.cells #[.int .i64 4, .int .i64 0, .int .i64 0, .int .i64 0, .int .i64 n] 85)) 40 1 (.slice (some ⟨w2.heap.size, 0, none⟩) 2 2) 2 [.slice (some ⟨g1, 0, none⟩) 4 4, .slice (some ⟨g2, 0, none⟩) 4 4] := (Own.lit (e := 40) (size := 1) hx2 #[.slice (some ⟨g1, 0, none⟩) 4 4, .slice (some ⟨g2, 0, none⟩) 4 4] 2 (by unfold maxLen; omega) rfl).alloc _
  have hH4 : Own w ((w2.alloc (.cells #[.slice (some ⟨g1, 0, none⟩) 4 4, .slice (some ⟨g2, 0, none⟩) 4 4] 40)).alloc (.cells #[.int .i64 4, .int .i64 0, .int .i64 0, .int .i64 0, .int .i64 n] 85)) 85 5 (.slice (some ⟨w2.heap.size + 1, 0, none⟩) 1 1) 1 ((twH n).map Hg.cells).flatten := by
    have h := Own.lit (e := 85) (size := 5) (hx2.alloc (.cells #[.slice (some ⟨g1, 0, none⟩) 4 4, .slice (some ⟨g2, 0, none⟩) 4 4] 40)) #[.int .i64 4, .int .i64 0, .int .i64 0, .int .i64 0, .int .i64 n] 1 (by unfold maxLen; omega) rfl
    have e : (w2.alloc (.cells #[.slice (some ⟨g1, 0, none⟩) 4 4, .slice (some ⟨g2, 0, none⟩) 4 4] 40)).heap.size = w2.heap.size + 1 := by simp
    rw [e] at h
    exact h
  have hge : w.heap.size ≤ w.heap.size := Nat.le_refl _
  have hP5 := (hP4.other (p := ⟨w.heap.size, 0, none⟩) hge (hP4.ne_whole hZ4 (by decide)) (.slice (some ⟨w2.heap.size, 0, none⟩) 2 2)).other (p := ⟨w.heap.size, 1, none⟩) hge (hP4.ne_whole hZ4 (by decide)) (.slice (some ⟨w2.heap.size + 1, 0, none⟩) 1 1)
  have hH5 := (hH4.other (p := ⟨w.heap.size, 0, none⟩) hge (hH4.ne_whole hZ4 (by decide)) (.slice (some ⟨w2.heap.size, 0, none⟩) 2 2)).other (p := ⟨w.heap.size, 1, none⟩) hge (hH4.ne_whole hZ4 (by decide)) (.slice (some ⟨w2.heap.size + 1, 0, none⟩) 1 1)
  have hQ5 := (hQ4.other (p := ⟨w.heap.size, 0, none⟩) hge (fun j hj => (hQ4.own j hj).ne_whole hZ4 (by decide)) (.slice (some ⟨w2.heap.size, 0, none⟩) 2 2)).other (p := ⟨w.heap.size, 1, none⟩) hge (fun j hj => (hQ4.own j hj).ne_whole hZ4 (by decide)) (.slice (some ⟨w2.heap.size + 1, 0, none⟩) 1 1)
  have hK5 := ((hZ4.setCell 0 (.slice (some ⟨w2.heap.size, 0, none⟩) 2 2)).setCell 1 (.slice (some ⟨w2.heap.size + 1, 0, none⟩) 1 1)).blk
  have hL : Lk ((((w2.alloc (.cells #[.slice (some ⟨g1, 0, none⟩) 4 4, .slice (some ⟨g2, 0, none⟩) 4 4] 40)).alloc (.cells #[.int .i64 4, .int .i64 0, .int .i64 0, .int .i64 0, .int .i64 n] 85)).setCell ⟨w.heap.size, 0, none⟩ (.slice (some ⟨w2.heap.size, 0, none⟩) 2 2)).setCell ⟨w.heap.size, 1, none⟩ (.slice (some ⟨w2.heap.size + 1, 0, none⟩) 1 1)) (some ⟨w2.heap.size, 0, none⟩) twL (some ⟨w2.heap.size + 1, 0, none⟩) (twH n) :=
    ⟨hQ5.row hP5, OwnH.row hH5, by decide, by simp [twH], fun k hk => by
      rcases (by simp [twL] at hk; omega : k = 0 ∨ k = 1) with rfl | rfl <;> decide⟩
  refine bodyPost_ret (results_link rfl _ _ rfl hK5) rfl ?_
  exact ⟨_, _, rfl, hL, hP5.ext⟩
end Go.Proofs.Yteilglljigjefaa

/- The examples of the outright laws, in numbers. -/
namespace Go.Proofs.Yteilglljigjefaa
set_option maxRecDepth 100000
set_option maxHeartbeats 4000000
theorem ex_trn : trn 9 = (3, 4, 5) := by decide
theorem ex_poses : posesL (twH 9) = [⟨1, 0, 0, 0, 1⟩, ⟨3, 4, 20, 0, 5⟩] := by decide
theorem ex_crn : (crnS (posF (twH 9) 1) (pnA twL 1)) = [⟨20, 0⟩, ⟨32, 16⟩, ⟨16, 28⟩, ⟨4, 12⟩] := by decide
theorem ex_d : (posF (twH 9) 1).d = 5 := by decide
theorem ex_clash9 : clashB (pcrn twL (twH 9) 0) (pcrn twL (twH 9) 1) = true := by decide
theorem ex_clash3 : clashB (pcrn twL (twH 3) 0) (pcrn twL (twH 3) 1) = false := by decide
theorem ex_gap : gapS (lastP (twH 2)) ⟨4, 0⟩ ⟨4, 4⟩ = ⟨0, 0⟩ ∧ (lastP (twH 2)).d = 1 := by decide
theorem ex_clo : clo ⟨4, 0⟩ ⟨4, 4⟩ (twH 9) pose0 = some [2] := by decide
end Go.Proofs.Yteilglljigjefaa

/- The examples of the outright laws: what the code answers. -/
namespace Go.Proofs.Yteilglljigjefaa
open Go.RowKit
theorem link9 : linkP twL (twH (9 : Nat)) := twL_ok (by decide)
theorem ex_angle (w : World) : Calls Try.prog 23 #[.int .i64 9] w fun e w' => e = .returned (.tuple #[.int .i64 3, .int .i64 4, .int .i64 5, .int .i64 0]) ∧ Ext w w' := angle_any 9 w
theorem ex_posesC (A B : Option Addr) (w : World) (hL : Lk w A twL B (twH 9)) :
    Calls Try.prog 27 #[.agg #[.slice A 2 2, .slice B 1 1]] w fun e w' => ∃ X x, e = .returned (.tuple #[.slice X 2 x, .int .i64 0]) ∧ PRow w' X [⟨1, 0, 0, 0, 1⟩, ⟨3, 4, 20, 0, 5⟩] ∧ Ext w w' := by
  have hl : linkB twL (twH 9) = true := decide_eq_true link9
  refine (poses_all A 2 twL B 1 (twH 9) w hL).mono fun e w' ⟨v, he, ho⟩ => ?_
  unfold posesR at ho
  rw [if_pos hl, ex_poses] at ho
  unfold checkE at he
  rw [if_pos hl] at he
  obtain ⟨X, x, rfl⟩ := ho.form
  exact ⟨X, x, he, ho.row, ho.ext⟩
theorem link_n {n : Nat} (hn : n < 36) : linkB twL (twH n) = true := decide_eq_true (twL_ok hn)
theorem ex_cornC (A B : Option Addr) (w : World) (hL : Lk w A twL B (twH 9)) :
    Calls Try.prog 32 #[.agg #[.slice A 2 2, .slice B 1 1], .int .i64 1] w fun e w' => ∃ X x, e = .returned (.tuple #[.slice X 4 x, .int .i64 5, .int .i64 0]) ∧ SRow w' X [⟨20, 0⟩, ⟨32, 16⟩, ⟨16, 28⟩, ⟨4, 12⟩] ∧ Ext w w' := by
  refine (corners_all A 2 twL B 1 (twH 9) 1 w hL).mono fun e w' ⟨v, he, ho⟩ => ?_
  have h : linkP twL (twH 9) ∧ inP twL 1 := ⟨link9, by decide⟩
  have e1 : cornL twL (twH 9) 1 = [⟨20, 0⟩, ⟨32, 16⟩, ⟨16, 28⟩, ⟨4, 12⟩] := by rw [cornL, if_pos h]; exact ex_crn
  have e2 : cornD twL (twH 9) 1 = 5 := by rw [cornD, if_pos h]; exact ex_d
  have e3 : cornE twL (twH 9) 1 = 0 := by rw [cornE, if_pos h.1, if_pos h.2]
  rw [e1] at ho
  rw [e2, e3] at he
  obtain ⟨X, x, rfl⟩ := ho.form
  exact ⟨X, x, he, ho.row, ho.ext⟩
/-- A proof of the example's, accepted ever after. -/
def TellsOk (n : Nat) (w : World) (v : Value) : Prop := ∀ w' A B, Ext w w' → Lk w' A twL B (twH n) → Calls Try.prog 44 #[.agg #[.slice A 2 2, .slice B 1 1], .int .i64 0, .int .i64 1, v] w' fun e w'' => e = .returned (.int .i64 0) ∧ Ext w' w''
theorem ex_clashC {n : Nat} (hn : n < 36) {b : Bool} (hb : clashB (pcrn twL (twH n) 0) (pcrn twL (twH n) 1) = b) (A B : Option Addr) (w : World) (hL : Lk w A twL B (twH n)) :
    Calls Try.prog 42 #[.agg #[.slice A 2 2, .slice B 1 1], .int .i64 0, .int .i64 1] w fun e w' => ∃ (v0 : Bool) (v1 v2 v3 v4 : Int) (v5 : Option Addr) (v6 v7 : Nat), e = .returned (.tuple #[.agg #[.bool v0, .int .i64 v1, .int .i64 v2, .int .i64 v3, .int .i64 v4, .slice v5 v6 v7], .int .i64 (if b = true then 51 else 0)]) ∧ TellsOk n w' (.agg #[.bool v0, .int .i64 v1, .int .i64 v2, .int .i64 v3, .int .i64 v4, .slice v5 v6 v7]) ∧ Ext w w' := by
  refine (clash_good A 2 twL B 1 (twH n) 0 1 w hL (twL_ok hn) (by decide) (by decide) (by decide)).mono fun e w' ⟨r, I, ic, he, hr, hx, hp⟩ => ?_
  rw [hb] at he
  refine ⟨_, _, _, _, _, _, _, _, he, fun w2 A2 B2 hx2 hL2 => ?_, hx⟩
  refine (checkapart_any A2 2 twL B2 1 (twH n) (0 : Nat) (1 : Nat) r I ic w2 hL2 (hr.ext hx2)).mono fun e w3 ⟨he, hx3⟩ => ⟨?_, hx3⟩
  have h0 : twoE twL (twH n) ((0 : Nat) : Int) ((1 : Nat) : Int) = 0 := by
    rcases two_cases twL (twH n) ((0 : Nat) : Int) ((1 : Nat) : Int) with ⟨_, _, h⟩ | ⟨_, h⟩
    · exact h
    · exact absurd ⟨twL_ok hn, by decide⟩ h
  rw [apartE_nat h0, rightB, decide_eq_true hp, if_pos rfl] at he
  exact he
theorem ex_gapC (A B : Option Addr) (w : World) (hL : Lk w A twL B (twH 2)) :
    Calls Try.prog 35 #[.agg #[.slice A 2 2, .slice B 1 1], .agg #[.int .i64 4, .int .i64 0], .agg #[.int .i64 4, .int .i64 4]] w fun e w' => e = .returned (.tuple #[.int .i64 0, .int .i64 0, .int .i64 1, .int .i64 0]) ∧ Ext w w' := by
  have ha : askE twL (twH 2) ⟨4, 0⟩ ⟨4, 4⟩ = 0 := ask_good (twL_ok (n := 2) (by decide)) (by decide)
  have e1 : gapE twL (twH 2) ⟨4, 0⟩ ⟨4, 4⟩ = .tuple #[.int .i64 0, .int .i64 0, .int .i64 1, .int .i64 0] := by rw [gapE, if_pos ha, ex_gap.1, ex_gap.2]
  have h := gap_all A 2 twL B 1 (twH 2) ⟨4, 0⟩ ⟨4, 4⟩ w hL
  rw [e1] at h
  exact h
theorem ex_closeC (A B : Option Addr) (w : World) (hL : Lk w A twL B (twH 9)) :
    Calls Try.prog 19 #[.agg #[.slice A 2 2, .slice B 1 1], .agg #[.int .i64 4, .int .i64 0], .agg #[.int .i64 4, .int .i64 4]] w fun e w' => ∃ X x, e = .returned (.tuple #[.slice X 1 x, .int .i64 0]) ∧ Ints w' X [2] ∧ Ext w w' := by
  have ha : askE twL (twH 9) ⟨4, 0⟩ ⟨4, 4⟩ = 0 := ask_good link9 (by decide)
  refine (close_any A 2 twL B 1 (twH 9) ⟨4, 0⟩ ⟨4, 4⟩ w hL).mono fun e w' ⟨v, he, ho⟩ => ?_
  have e1 : cloE twL (twH 9) ⟨4, 0⟩ ⟨4, 4⟩ = 0 := by rw [cloE, if_pos ha, ex_clo]; rfl
  have e2 : cloL twL (twH 9) ⟨4, 0⟩ ⟨4, 4⟩ = [2] := by rw [cloL, if_pos ha, ex_clo]; rfl
  rw [e1] at he
  rw [e2] at ho
  obtain ⟨X, x, rfl⟩ := ho.form
  exact ⟨X, x, he, ho.ints, ho.ext⟩
end Go.Proofs.Yteilglljigjefaa

/- The outright laws' examples answer as they should: alive. -/
namespace Go.Proofs.Yteilglljigjefaa
open Go.RowKit
theorem TellsOk.ext {n : Nat} {w w' : World} {v : Value} (h : TellsOk n w v) (he : Ext w w') : TellsOk n w' v := fun w2 A B hx hL => h w2 A B (he.trans hx) hL
set_option maxRecDepth 100000 in
set_option maxHeartbeats 16000000 in
theorem alive_any (w : World) : Calls Try.prog 46 #[] w fun e w' => e = .returned (.bool true) ∧ Ext w w' := by
  have hw := Ext.refl w
  go_enter Try.func46, Try.ntmps46
  go_wp2_with (first
    | (go_at_call 19; refine (ex_closeC A12 B12 w12 hL12).mono ?_; rintro e w13 ⟨X13, x13, rfl, hI, hx⟩; replace hP := hP.ext hx; replace hS := hS.ext hx; replace hT := hT.ext hx; replace o0 : ∀ w', Ext _ w' → _ := fun w' he => o0 w' (hx.trans he); replace o1 : ∀ w', Ext _ w' → _ := fun w' he => o1 w' (hx.trans he); replace o2 : ∀ w', Ext _ w' → _ := fun w' he => o2 w' (hx.trans he); replace o3 : ∀ w', Ext _ w' → _ := fun w' he => o3 w' (hx.trans he); replace o4 : ∀ w', Ext _ w' → _ := fun w' he => o4 w' (hx.trans he); replace o5 : ∀ w', Ext _ w' → _ := fun w' he => o5 w' (hx.trans he); replace hU := hU.ext hx; replace q0 : ∀ w', Ext _ w' → _ := fun w' he => q0 w' (hx.trans he); replace q1 : ∀ w', Ext _ w' → _ := fun w' he => q1 w' (hx.trans he); replace q2 : ∀ w', Ext _ w' → _ := fun w' he => q2 w' (hx.trans he); replace q3 : ∀ w', Ext _ w' → _ := fun w' he => q3 w' (hx.trans he); replace q4 : ∀ w', Ext _ w' → _ := fun w' he => q4 w' (hx.trans he); replace q5 : ∀ w', Ext _ w' → _ := fun w' he => q5 w' (hx.trans he); have hw13 := hw.trans hx; replace hw := hw13; clear hx hw13)
    | (go_at_call 48; refine (two_link 9 w11).mono ?_; rintro e w12 ⟨A12, B12, rfl, hL12, hx⟩; replace hP := hP.ext hx; replace hS := hS.ext hx; replace hT := hT.ext hx; replace o0 : ∀ w', Ext _ w' → _ := fun w' he => o0 w' (hx.trans he); replace o1 : ∀ w', Ext _ w' → _ := fun w' he => o1 w' (hx.trans he); replace o2 : ∀ w', Ext _ w' → _ := fun w' he => o2 w' (hx.trans he); replace o3 : ∀ w', Ext _ w' → _ := fun w' he => o3 w' (hx.trans he); replace o4 : ∀ w', Ext _ w' → _ := fun w' he => o4 w' (hx.trans he); replace o5 : ∀ w', Ext _ w' → _ := fun w' he => o5 w' (hx.trans he); replace hU := hU.ext hx; replace q0 : ∀ w', Ext _ w' → _ := fun w' he => q0 w' (hx.trans he); replace q1 : ∀ w', Ext _ w' → _ := fun w' he => q1 w' (hx.trans he); replace q2 : ∀ w', Ext _ w' → _ := fun w' he => q2 w' (hx.trans he); replace q3 : ∀ w', Ext _ w' → _ := fun w' he => q3 w' (hx.trans he); replace q4 : ∀ w', Ext _ w' → _ := fun w' he => q4 w' (hx.trans he); replace q5 : ∀ w', Ext _ w' → _ := fun w' he => q5 w' (hx.trans he); have hw12 := hw.trans hx; replace hw := hw12; clear hx hw12)
    | (go_at_call 35; refine (ex_gapC A10 B10 w10 hL10).mono ?_; rintro e w11 ⟨rfl, hx⟩; replace hP := hP.ext hx; replace hS := hS.ext hx; replace hT := hT.ext hx; replace o0 : ∀ w', Ext _ w' → _ := fun w' he => o0 w' (hx.trans he); replace o1 : ∀ w', Ext _ w' → _ := fun w' he => o1 w' (hx.trans he); replace o2 : ∀ w', Ext _ w' → _ := fun w' he => o2 w' (hx.trans he); replace o3 : ∀ w', Ext _ w' → _ := fun w' he => o3 w' (hx.trans he); replace o4 : ∀ w', Ext _ w' → _ := fun w' he => o4 w' (hx.trans he); replace o5 : ∀ w', Ext _ w' → _ := fun w' he => o5 w' (hx.trans he); replace hU := hU.ext hx; replace q0 : ∀ w', Ext _ w' → _ := fun w' he => q0 w' (hx.trans he); replace q1 : ∀ w', Ext _ w' → _ := fun w' he => q1 w' (hx.trans he); replace q2 : ∀ w', Ext _ w' → _ := fun w' he => q2 w' (hx.trans he); replace q3 : ∀ w', Ext _ w' → _ := fun w' he => q3 w' (hx.trans he); replace q4 : ∀ w', Ext _ w' → _ := fun w' he => q4 w' (hx.trans he); replace q5 : ∀ w', Ext _ w' → _ := fun w' he => q5 w' (hx.trans he); have hw11 := hw.trans hx; replace hw := hw11; clear hx hw11)
    | (go_at_call 48; refine (two_link 2 (w9.alloc (.cells #[.bool u0, .int .i64 u1, .int .i64 u2, .int .i64 u3, .int .i64 u4, .slice u5 u6 u7] 67))).mono ?_; rintro e w10 ⟨A10, B10, rfl, hL10, hx⟩; replace hP := hP.ext hx; replace hS := hS.ext hx; replace hT := hT.ext hx; replace o0 : ∀ w', Ext _ w' → _ := fun w' he => o0 w' (hx.trans he); replace o1 : ∀ w', Ext _ w' → _ := fun w' he => o1 w' (hx.trans he); replace o2 : ∀ w', Ext _ w' → _ := fun w' he => o2 w' (hx.trans he); replace o3 : ∀ w', Ext _ w' → _ := fun w' he => o3 w' (hx.trans he); replace o4 : ∀ w', Ext _ w' → _ := fun w' he => o4 w' (hx.trans he); replace o5 : ∀ w', Ext _ w' → _ := fun w' he => o5 w' (hx.trans he); replace hU := hU.ext hx; replace q0 : ∀ w', Ext _ w' → _ := fun w' he => q0 w' (hx.trans he); replace q1 : ∀ w', Ext _ w' → _ := fun w' he => q1 w' (hx.trans he); replace q2 : ∀ w', Ext _ w' → _ := fun w' he => q2 w' (hx.trans he); replace q3 : ∀ w', Ext _ w' → _ := fun w' he => q3 w' (hx.trans he); replace q4 : ∀ w', Ext _ w' → _ := fun w' he => q4 w' (hx.trans he); replace q5 : ∀ w', Ext _ w' → _ := fun w' he => q5 w' (hx.trans he); have hw10 := hw.trans hx; replace hw := hw10; clear hx hw10)
    | (go_at_call 42; refine (ex_clashC (n := 3) (by decide) ex_clash3 A8 B8 w8 hL8).mono ?_; rintro e w9 ⟨u0, u1, u2, u3, u4, u5, u6, u7, rfl, hU, hx⟩; replace hP := hP.ext hx; replace hS := hS.ext hx; replace hT := hT.ext hx; replace o0 : ∀ w', Ext _ w' → _ := fun w' he => o0 w' (hx.trans he); replace o1 : ∀ w', Ext _ w' → _ := fun w' he => o1 w' (hx.trans he); replace o2 : ∀ w', Ext _ w' → _ := fun w' he => o2 w' (hx.trans he); replace o3 : ∀ w', Ext _ w' → _ := fun w' he => o3 w' (hx.trans he); replace o4 : ∀ w', Ext _ w' → _ := fun w' he => o4 w' (hx.trans he); replace o5 : ∀ w', Ext _ w' → _ := fun w' he => o5 w' (hx.trans he); have hw9 := hw.trans hx; replace hw := hw9; clear hx hw9; have hx := (Ext.refl w9).alloc (.cells #[.bool u0, .int .i64 u1, .int .i64 u2, .int .i64 u3, .int .i64 u4, .slice u5 u6 u7] 67); replace hP := hP.ext hx; replace hS := hS.ext hx; replace hT := hT.ext hx; replace o0 : ∀ w', Ext _ w' → _ := fun w' he => o0 w' (hx.trans he); replace o1 : ∀ w', Ext _ w' → _ := fun w' he => o1 w' (hx.trans he); replace o2 : ∀ w', Ext _ w' → _ := fun w' he => o2 w' (hx.trans he); replace o3 : ∀ w', Ext _ w' → _ := fun w' he => o3 w' (hx.trans he); replace o4 : ∀ w', Ext _ w' → _ := fun w' he => o4 w' (hx.trans he); replace o5 : ∀ w', Ext _ w' → _ := fun w' he => o5 w' (hx.trans he); replace hU := hU.ext hx; replace hw := hw.trans hx; clear hx; have ko := (Blk.new (W := w9) #[.bool u0, .int .i64 u1, .int .i64 u2, .int .i64 u3, .int .i64 u4, .slice u5 u6 u7] 67); have q0 := ko.at_ 0 rfl; have q1 := ko.at_ 1 rfl; have q2 := ko.at_ 2 rfl; have q3 := ko.at_ 3 rfl; have q4 := ko.at_ 4 rfl; have q5 := ko.at_ 5 rfl; clear ko)
    | (go_at_call 48; refine (two_link 3 (w7.alloc (.cells #[.bool v0, .int .i64 v1, .int .i64 v2, .int .i64 v3, .int .i64 v4, .slice v5 v6 v7] 67))).mono ?_; rintro e w8 ⟨A8, B8, rfl, hL8, hx⟩; replace hP := hP.ext hx; replace hS := hS.ext hx; replace hT := hT.ext hx; replace o0 : ∀ w', Ext _ w' → _ := fun w' he => o0 w' (hx.trans he); replace o1 : ∀ w', Ext _ w' → _ := fun w' he => o1 w' (hx.trans he); replace o2 : ∀ w', Ext _ w' → _ := fun w' he => o2 w' (hx.trans he); replace o3 : ∀ w', Ext _ w' → _ := fun w' he => o3 w' (hx.trans he); replace o4 : ∀ w', Ext _ w' → _ := fun w' he => o4 w' (hx.trans he); replace o5 : ∀ w', Ext _ w' → _ := fun w' he => o5 w' (hx.trans he); have hw8 := hw.trans hx; replace hw := hw8; clear hx hw8)
    | (go_at_call 42; refine (ex_clashC (n := 9) (by decide) ex_clash9 A6 B6 w6 hL6).mono ?_; rintro e w7 ⟨v0, v1, v2, v3, v4, v5, v6, v7, rfl, hT, hx⟩; replace hP := hP.ext hx; replace hS := hS.ext hx; have hw7 := hw.trans hx; replace hw := hw7; clear hx hw7; have hx := (Ext.refl w7).alloc (.cells #[.bool v0, .int .i64 v1, .int .i64 v2, .int .i64 v3, .int .i64 v4, .slice v5 v6 v7] 67); replace hP := hP.ext hx; replace hS := hS.ext hx; replace hT := hT.ext hx; replace hw := hw.trans hx; clear hx; have ko := (Blk.new (W := w7) #[.bool v0, .int .i64 v1, .int .i64 v2, .int .i64 v3, .int .i64 v4, .slice v5 v6 v7] 67); have o0 := ko.at_ 0 rfl; have o1 := ko.at_ 1 rfl; have o2 := ko.at_ 2 rfl; have o3 := ko.at_ 3 rfl; have o4 := ko.at_ 4 rfl; have o5 := ko.at_ 5 rfl; clear ko)
    | (go_at_call 48; refine (two_link 9 w5).mono ?_; rintro e w6 ⟨A6, B6, rfl, hL6, hx⟩; replace hP := hP.ext hx; replace hS := hS.ext hx; have hw6 := hw.trans hx; replace hw := hw6; clear hx hw6)
    | (go_at_call 32; refine (ex_cornC A4 B4 w4 hL4).mono ?_; rintro e w5 ⟨X5, x5, rfl, hS, hx⟩; replace hP := hP.ext hx; have hw5 := hw.trans hx; replace hw := hw5; clear hx hw5)
    | (go_at_call 48; refine (two_link 9 w3).mono ?_; rintro e w4 ⟨A4, B4, rfl, hL4, hx⟩; replace hP := hP.ext hx; have hw4 := hw.trans hx; replace hw := hw4; clear hx hw4)
    | (go_at_call 27; refine (ex_posesC A2 B2 w2 hL2).mono ?_; rintro e w3 ⟨X3, x3, rfl, hP, hx⟩; have hw3 := hw.trans hx; replace hw := hw3; clear hx hw3)
    | (go_at_call 48; refine (two_link 9 w1).mono ?_; rintro e w2 ⟨A2, B2, rfl, hL2, hx⟩; have hw2 := hw.trans hx; replace hw := hw2; clear hx hw2)
    | (go_at_call 23; refine (ex_angle w).mono ?_; rintro e w1 ⟨rfl, hx⟩; have hw1 := hw.trans hx; replace hw := hw1; clear hx hw1))
  have HP := Lib.hid hP
  have HS := Lib.hid hS
  have HT := Lib.hid hT
  have HU := Lib.hid hU
  have HI := Lib.hid hI
  have Hw := Lib.hid hw
  clear hP hS hT hU hI hw hL2 hL4 hL6 hL8 hL10 hL12
  generalize w13 = W0 at *
  refine Cg.wp_region_calm (p := Cg.extPre) (fr := (fun _ => false)) 87 (fun j _ v w => (j = 23 → v = .bool true) ∧ (j = 40 → v = .bool true) ∧ (j = 47 → ∃ A B, v = .agg #[.slice A 2 2, .slice B 1 1] ∧ Lk w A twL B (twH 9)) ∧ (j = 49 → v = .int .i64 0) ∧ (j = 57 → ∃ A B, v = .agg #[.slice A 2 2, .slice B 1 1] ∧ Lk w A twL B (twH 3)) ∧ (j = 59 → v = .int .i64 0) ∧ (j = 85 → v = .bool true)) (fun j args v w w' hR h => ⟨h.1, h.2.1, fun e => (by obtain ⟨A, B, e1, e2⟩ := h.2.2.1 e; exact ⟨A, B, e1, e2.ext hR⟩), h.2.2.2.1, fun e => (by obtain ⟨A, B, e1, e2⟩ := h.2.2.2.2.1 e; exact ⟨A, B, e1, e2.ext hR⟩), h.2.2.2.2.2.1, h.2.2.2.2.2.2⟩) (by kernel_rfl) (by kernel_rfl) ?_
  simp only [List.append_eq, List.cons_append, List.nil_append, List.take_succ_cons, List.take_zero, List.drop_succ_cons, List.drop_zero]
  refine Cg.calm_quiet Cg.calm_mono_final W0 (fun _ h => h) 20 (by kernel_rfl) ?_
  simp only [List.take_succ_cons, List.take_zero, List.drop_succ_cons, List.drop_zero]
  repeat (go_big_quiet_step (fail))
  refine wpQuiet_nil ?_
  refine Cg.calm_value Cg.calm_mono_final (fun v _ => v = (.agg #[.int .i64 1, .int .i64 0, .int .i64 0, .int .i64 0, .int .i64 1]) ∧ True) (fun _ _ _ _ h => h) rfl (fun w' _ _ => ⟨(.agg #[.int .i64 1, .int .i64 0, .int .i64 0, .int .i64 0, .int .i64 1]), w', by go_simp, Ext.refl _, ⟨rfl, trivial⟩, fun hf => by cases hf⟩) ?_
  rintro _ _ _ ⟨rfl, _⟩ _
  simp only [Act.put, List.setIfInBounds_toArray, List.set_cons_succ, List.set_cons_zero, List.length_cons, List.length_nil, Nat.zero_add, Nat.reduceAdd]
  refine Cg.calm_value Cg.calm_mono_final (fun v _ => v = (.agg #[.int .i64 3, .int .i64 4, .int .i64 20, .int .i64 0, .int .i64 5]) ∧ True) (fun _ _ _ _ h => h) rfl (fun w' _ _ => ⟨(.agg #[.int .i64 3, .int .i64 4, .int .i64 20, .int .i64 0, .int .i64 5]), w', by go_simp, Ext.refl _, ⟨rfl, trivial⟩, fun hf => by cases hf⟩) ?_
  rintro _ _ _ ⟨rfl, _⟩ _
  simp only [Act.put, List.setIfInBounds_toArray, List.set_cons_succ, List.set_cons_zero, Nat.reduceAdd]
  refine Cg.calm_value Cg.calm_mono_final (fun v w => ∃ b, v = .slice (some ⟨b, 0, none⟩) 2 2 ∧ w.heap[b]? = some (Obj.cells #[.int .i64 1, .int .i64 0, .int .i64 0, .int .i64 0, .int .i64 1, .int .i64 3, .int .i64 4, .int .i64 20, .int .i64 0, .int .i64 5] 82)) (fun _ w' w'' hR ⟨b, e, hh⟩ => ⟨b, e, (show Ext w' w'' from hR).heap hh⟩) rfl (fun w' hR _ => ⟨.slice (some ⟨w'.heap.size, 0, none⟩) 2 2, w'.alloc (.cells #[.int .i64 1, .int .i64 0, .int .i64 0, .int .i64 0, .int .i64 1, .int .i64 3, .int .i64 4, .int .i64 20, .int .i64 0, .int .i64 5] 82), by go_simp, (Ext.refl w').alloc _, ⟨_, rfl, heap_alloc_new _ _⟩, fun hf => by cases hf⟩) ?_
  rintro _ _ _ ⟨bp, rfl, _⟩ _
  simp only [Act.put, List.setIfInBounds_toArray, List.set_cons_succ, List.set_cons_zero, Nat.reduceAdd]
  refine Cg.calm_call Cg.calm_mono_final 29 #[.slice X3 2 x3, .slice (some ⟨bp, 0, none⟩) 2 2] rfl (fun w => ?_) (fun w' hR hF => ?_) ?_
  · go_simp
  · obtain ⟨b', eb, hb⟩ := (hF 22 (by kernel_rfl)).2 rfl
    simp only [Value.slice.injEq, Option.some.injEq, Addr.mk.injEq, and_true] at eb
    subst eb
    exact (same_poses X3 (some ⟨bp, 0, none⟩) x3 2 [⟨1, 0, 0, 0, 1⟩, ⟨3, 4, 20, 0, 5⟩] w' (HP.out.ext hR) (row_heap hb) (by decide)).mono fun e w'' ⟨he', hx⟩ => ⟨_, he', hx, ⟨fun _ => rfl, fun h => (by cases h), fun h => (by cases h), fun h => (by cases h), fun h => (by cases h), fun h => (by cases h), fun h => (by cases h)⟩, fun hf => by cases hf⟩
  rintro _ _ _ h _
  cases h.1 rfl
  simp only [Act.put, List.setIfInBounds_toArray, List.set_cons_succ, List.set_cons_zero, Nat.reduceAdd]
  refine Cg.calm_quiet Cg.calm_mono_final W0 (fun _ h => h) 11 (by kernel_rfl) ?_
  simp only [List.take_succ_cons, List.take_zero, List.drop_succ_cons, List.drop_zero]
  repeat (go_big_quiet_step (fail))
  refine wpQuiet_nil ?_
  refine Cg.calm_value Cg.calm_mono_final (fun v _ => v = (.agg #[.int .i64 20, .int .i64 0]) ∧ True) (fun _ _ _ _ h => h) rfl (fun w' _ _ => ⟨(.agg #[.int .i64 20, .int .i64 0]), w', by go_simp, Ext.refl _, ⟨rfl, trivial⟩, fun hf => by cases hf⟩) ?_
  rintro _ _ _ ⟨rfl, _⟩ _
  simp only [Act.put, List.setIfInBounds_toArray, List.set_cons_succ, List.set_cons_zero, List.length_cons, List.length_nil, Nat.zero_add, Nat.reduceAdd]
  refine Cg.calm_value Cg.calm_mono_final (fun v _ => v = (.agg #[.int .i64 32, .int .i64 16]) ∧ True) (fun _ _ _ _ h => h) rfl (fun w' _ _ => ⟨(.agg #[.int .i64 32, .int .i64 16]), w', by go_simp, Ext.refl _, ⟨rfl, trivial⟩, fun hf => by cases hf⟩) ?_
  rintro _ _ _ ⟨rfl, _⟩ _
  simp only [Act.put, List.setIfInBounds_toArray, List.set_cons_succ, List.set_cons_zero, Nat.reduceAdd]
  refine Cg.calm_value Cg.calm_mono_final (fun v _ => v = (.agg #[.int .i64 16, .int .i64 28]) ∧ True) (fun _ _ _ _ h => h) rfl (fun w' _ _ => ⟨(.agg #[.int .i64 16, .int .i64 28]), w', by go_simp, Ext.refl _, ⟨rfl, trivial⟩, fun hf => by cases hf⟩) ?_
  rintro _ _ _ ⟨rfl, _⟩ _
  simp only [Act.put, List.setIfInBounds_toArray, List.set_cons_succ, List.set_cons_zero, Nat.reduceAdd]
  refine Cg.calm_value Cg.calm_mono_final (fun v _ => v = (.agg #[.int .i64 4, .int .i64 12]) ∧ True) (fun _ _ _ _ h => h) rfl (fun w' _ _ => ⟨(.agg #[.int .i64 4, .int .i64 12]), w', by go_simp, Ext.refl _, ⟨rfl, trivial⟩, fun hf => by cases hf⟩) ?_
  rintro _ _ _ ⟨rfl, _⟩ _
  simp only [Act.put, List.setIfInBounds_toArray, List.set_cons_succ, List.set_cons_zero, Nat.reduceAdd]
  refine Cg.calm_value Cg.calm_mono_final (fun v w => ∃ b, v = .slice (some ⟨b, 0, none⟩) 4 4 ∧ w.heap[b]? = some (Obj.cells #[.int .i64 20, .int .i64 0, .int .i64 32, .int .i64 16, .int .i64 16, .int .i64 28, .int .i64 4, .int .i64 12] 27)) (fun _ w' w'' hR ⟨b, e, hh⟩ => ⟨b, e, (show Ext w' w'' from hR).heap hh⟩) rfl (fun w' hR _ => ⟨.slice (some ⟨w'.heap.size, 0, none⟩) 4 4, w'.alloc (.cells #[.int .i64 20, .int .i64 0, .int .i64 32, .int .i64 16, .int .i64 16, .int .i64 28, .int .i64 4, .int .i64 12] 27), by go_simp, (Ext.refl w').alloc _, ⟨_, rfl, heap_alloc_new _ _⟩, fun hf => by cases hf⟩) ?_
  rintro _ _ _ ⟨bs, rfl, _⟩ _
  simp only [Act.put, List.setIfInBounds_toArray, List.set_cons_succ, List.set_cons_zero, Nat.reduceAdd]
  refine Cg.calm_call Cg.calm_mono_final 34 #[.slice X5 4 x5, .slice (some ⟨bs, 0, none⟩) 4 4] rfl (fun w => ?_) (fun w' hR hF => ?_) ?_
  · go_simp
  · obtain ⟨b', eb, hb⟩ := (hF 39 (by kernel_rfl)).2 rfl
    simp only [Value.slice.injEq, Option.some.injEq, Addr.mk.injEq, and_true] at eb
    subst eb
    exact (same_spots X5 (some ⟨bs, 0, none⟩) x5 4 [⟨20, 0⟩, ⟨32, 16⟩, ⟨16, 28⟩, ⟨4, 12⟩] w' (HS.out.ext hR) (row_heap hb) (by decide)).mono fun e w'' ⟨he', hx⟩ => ⟨_, he', hx, ⟨fun h => (by cases h), fun _ => rfl, fun h => (by cases h), fun h => (by cases h), fun h => (by cases h), fun h => (by cases h), fun h => (by cases h)⟩, fun hf => by cases hf⟩
  rintro _ _ _ h _
  cases h.2.1 rfl
  simp only [Act.put, List.setIfInBounds_toArray, List.set_cons_succ, List.set_cons_zero, Nat.reduceAdd]
  refine Cg.calm_quiet Cg.calm_mono_final W0 (fun _ h => h) 6 (by kernel_rfl) ?_
  simp only [List.take_succ_cons, List.take_zero, List.drop_succ_cons, List.drop_zero]
  repeat (go_big_quiet_step (fail))
  refine wpQuiet_nil ?_
  refine Cg.calm_call Cg.calm_mono_final 48 #[.int .i64 9] rfl (fun w => ?_) (fun w' hR hF => ?_) ?_
  · go_simp
  · exact (two_link 9 w').mono fun e w'' ⟨A, B, he', hL, hx⟩ => ⟨_, he', hx, ⟨fun h => (by cases h), fun h => (by cases h), fun _ => ⟨A, B, rfl, hL⟩, fun h => (by cases h), fun h => (by cases h), fun h => (by cases h), fun h => (by cases h)⟩, fun hf => by cases hf⟩
  rintro _ _ _ h _
  obtain ⟨Ap, Bp, rfl, _⟩ := h.2.2.1 rfl
  simp only [Act.put, List.setIfInBounds_toArray, List.set_cons_succ, List.set_cons_zero, List.length_cons, List.length_nil, Nat.zero_add, Nat.reduceAdd]
  refine Cg.calm_quiet Cg.calm_mono_final W0 (fun _ h => h) 1 (by kernel_rfl) ?_
  simp only [List.take_succ_cons, List.take_zero, List.drop_succ_cons, List.drop_zero]
  repeat (go_big_quiet_step (fail))
  refine wpQuiet_nil ?_
  refine Cg.calm_call Cg.calm_mono_final 44 #[.agg #[.slice Ap 2 2, .slice Bp 1 1], .int .i64 0, .int .i64 1, .agg #[.bool v0, .int .i64 v1, .int .i64 v2, .int .i64 v3, .int .i64 v4, .slice v5 v6 v7]] rfl (fun w => ?_) (fun w' hR hF => ?_) ?_
  · go_simp
  · obtain ⟨A', B', eL, hL⟩ := (((hF 47 (by kernel_rfl)).2 rfl).2.2.1) (by trivial)
    simp only [Value.agg.injEq, Array.mk.injEq, List.cons.injEq, Value.slice.injEq, and_true] at eL
    obtain ⟨rfl, rfl⟩ := eL
    exact (HT.out w' _ _ hR hL).mono fun e w'' ⟨he', hx⟩ => ⟨_, he', hx, ⟨fun h => (by cases h), fun h => (by cases h), fun h => (by cases h), fun _ => rfl, fun h => (by cases h), fun h => (by cases h), fun h => (by cases h)⟩, fun hf => by cases hf⟩
  rintro _ _ _ h _
  cases h.2.2.2.1 rfl
  simp only [Act.put, List.setIfInBounds_toArray, List.set_cons_succ, List.set_cons_zero, List.length_cons, List.length_nil, Nat.zero_add, Nat.reduceAdd]
  refine Cg.calm_quiet Cg.calm_mono_final W0 (fun _ h => h) 7 (by kernel_rfl) ?_
  simp only [List.take_succ_cons, List.take_zero, List.drop_succ_cons, List.drop_zero]
  repeat (go_big_quiet_step (fail))
  refine wpQuiet_nil ?_
  refine Cg.calm_call Cg.calm_mono_final 48 #[.int .i64 3] rfl (fun w => ?_) (fun w' hR hF => ?_) ?_
  · go_simp
  · exact (two_link 3 w').mono fun e w'' ⟨A, B, he', hL, hx⟩ => ⟨_, he', hx, ⟨fun h => (by cases h), fun h => (by cases h), fun h => (by cases h), fun h => (by cases h), fun _ => ⟨A, B, rfl, hL⟩, fun h => (by cases h), fun h => (by cases h)⟩, fun hf => by cases hf⟩
  rintro _ _ _ h _
  obtain ⟨Aq, Bq, rfl, _⟩ := h.2.2.2.2.1 rfl
  simp only [Act.put, List.setIfInBounds_toArray, List.set_cons_succ, List.set_cons_zero, List.length_cons, List.length_nil, Nat.zero_add, Nat.reduceAdd]
  refine Cg.calm_quiet Cg.calm_mono_final W0 (fun _ h => h) 1 (by kernel_rfl) ?_
  simp only [List.take_succ_cons, List.take_zero, List.drop_succ_cons, List.drop_zero]
  repeat (go_big_quiet_step (fail))
  refine wpQuiet_nil ?_
  refine Cg.calm_call Cg.calm_mono_final 44 #[.agg #[.slice Aq 2 2, .slice Bq 1 1], .int .i64 0, .int .i64 1, .agg #[.bool u0, .int .i64 u1, .int .i64 u2, .int .i64 u3, .int .i64 u4, .slice u5 u6 u7]] rfl (fun w => ?_) (fun w' hR hF => ?_) ?_
  · go_simp
  · obtain ⟨A', B', eL, hL⟩ := (((hF 57 (by kernel_rfl)).2 rfl).2.2.2.2.1) (by trivial)
    simp only [Value.agg.injEq, Array.mk.injEq, List.cons.injEq, Value.slice.injEq, and_true] at eL
    obtain ⟨rfl, rfl⟩ := eL
    exact (HU.out w' _ _ hR hL).mono fun e w'' ⟨he', hx⟩ => ⟨_, he', hx, ⟨fun h => (by cases h), fun h => (by cases h), fun h => (by cases h), fun h => (by cases h), fun h => (by cases h), fun _ => rfl, fun h => (by cases h)⟩, fun hf => by cases hf⟩
  rintro _ _ _ h _
  cases h.2.2.2.2.2.1 rfl
  simp only [Act.put, List.setIfInBounds_toArray, List.set_cons_succ, List.set_cons_zero, List.length_cons, List.length_nil, Nat.zero_add, Nat.reduceAdd]
  refine Cg.calm_quiet Cg.calm_mono_final W0 (fun _ h => h) 24 (by kernel_rfl) ?_
  simp only [List.take_succ_cons, List.take_zero, List.drop_succ_cons, List.drop_zero]
  repeat (go_big_quiet_step (fail))
  refine wpQuiet_nil ?_
  refine Cg.calm_value Cg.calm_mono_final (fun v w => ∃ b, v = .slice (some ⟨b, 0, none⟩) 1 1 ∧ w.heap[b]? = some (Obj.cells #[.int .i64 2] 3)) (fun _ w' w'' hR ⟨b, e, hh⟩ => ⟨b, e, (show Ext w' w'' from hR).heap hh⟩) rfl (fun w' hR _ => ⟨.slice (some ⟨w'.heap.size, 0, none⟩) 1 1, w'.alloc (.cells #[.int .i64 2] 3), by go_simp, (Ext.refl w').alloc _, ⟨_, rfl, heap_alloc_new _ _⟩, fun hf => by cases hf⟩) ?_
  rintro _ _ _ ⟨bi, rfl, _⟩ _
  simp only [Act.put, List.setIfInBounds_toArray, List.set_cons_succ, List.set_cons_zero, List.length_cons, List.length_nil, Nat.zero_add, Nat.reduceAdd]
  refine Cg.calm_call Cg.calm_mono_final 21 #[.slice X13 1 x13, .slice (some ⟨bi, 0, none⟩) 1 1] rfl (fun w => ?_) (fun w' hR hF => ?_) ?_
  · go_simp
  · obtain ⟨b', eb, hb⟩ := (hF 84 (by kernel_rfl)).2 rfl
    simp only [Value.slice.injEq, Option.some.injEq, Addr.mk.injEq, and_true] at eb
    subst eb
    exact (same_ints X13 (some ⟨bi, 0, none⟩) x13 1 [2] w' (HI.out.ext hR) (row_heap hb) (by decide)).mono fun e w'' ⟨he', hx⟩ => ⟨_, he', hx, ⟨fun h => (by cases h), fun h => (by cases h), fun h => (by cases h), fun h => (by cases h), fun h => (by cases h), fun h => (by cases h), fun _ => rfl⟩, fun hf => by cases hf⟩
  rintro _ _ _ h _
  cases h.2.2.2.2.2.2 rfl
  simp only [Act.put, List.setIfInBounds_toArray, List.set_cons_succ, List.set_cons_zero, Nat.reduceAdd]
  refine Cg.calm_quiet Cg.calm_mono_final W0 (fun _ h => h) 1 (by kernel_rfl) ?_
  simp only [List.take_succ_cons, List.take_zero, List.drop_succ_cons, List.drop_zero]
  repeat (go_big_quiet_step (fail))
  refine wpQuiet_nil ?_
  refine Cg.calm_nil fun w3 he3 _ => ?_
  go_wp2
  go_ret
  exact ⟨rfl, Hw.out.trans he3⟩
end Go.Proofs.Yteilglljigjefaa

/- The law HingeGap. -/
namespace Go.Proofs.Yteilglljigjefaa
open Go.RowKit
set_option maxRecDepth 100000 in
theorem eql_spot (a b x y : Int) (w : World) : (binOp .eql 27 (.agg #[.int .i64 a, .int .i64 b]) (.agg #[.int .i64 x, .int .i64 y])).run Try.prog w = .ok (.bool (a == x && b == y)) w := by
  by_cases h1 : a = x <;> by_cases h2 : b = y <;> simp [go_sem, h1, h2]
set_option maxRecDepth 100000 in
set_option maxHeartbeats 8000000 in
theorem gap_law_out (A : Option Addr) (c : Nat) (ps : List (List Sp)) (B : Option Addr) (d : Nat) (hs : List Hg) (a b : Sp) (w : World) (hA : PnRow w A ps) (hg : greatP ps hs) :
    Calls Try.prog 12 #[.agg #[.slice A ps.length c, .slice B hs.length d], a.val, b.val] w fun e w' => e = .returned (.bool true) ∧ Ext w w' := by
  have hgr := fun w' (he : Ext w w') => great_any A c ps B d hs w' (hA.ext he)
  rw [← greatB_yes hg] at hgr
  have Hgr := Lib.hid hgr
  clear hgr hA hg
  generalize ps.length = np at *
  generalize hs.length = nh at *
  obtain ⟨ax, ay⟩ := a
  obtain ⟨bx, bY⟩ := b
  have kl : Blk (((w.alloc (.cells #[.slice A np c, .slice B nh d] 25)).alloc (.cells #[vint ax, vint ay] 27)).alloc (.cells #[vint bx, vint bY] 27)) w.heap.size [.slice A np c, .slice B nh d] := (Blk.new _ _).ext (((Ext.refl _).alloc _).alloc _)
  have ka : Blk (((w.alloc (.cells #[.slice A np c, .slice B nh d] 25)).alloc (.cells #[vint ax, vint ay] 27)).alloc (.cells #[vint bx, vint bY] 27)) (w.heap.size + 1) [vint ax, vint ay] := (Blk.new' (cs := #[vint ax, vint ay]) (by simp)).ext ((Ext.refl _).alloc _)
  have kb : Blk (((w.alloc (.cells #[.slice A np c, .slice B nh d] 25)).alloc (.cells #[vint ax, vint ay] 27)).alloc (.cells #[vint bx, vint bY] 27)) (w.heap.size + 1 + 1) [vint bx, vint bY] := (Blk.new' (cs := #[vint bx, vint bY]) (by simp))
  have l0 := kl.at_ 0 rfl
  have l1 := kl.at_ 1 rfl
  have a0 := ka.at_ 0 rfl
  have a1 := ka.at_ 1 rfl
  have b0 := kb.at_ 0 rfl
  have b1 := kb.at_ 1 rfl
  have hx0 : Ext w (((w.alloc (.cells #[.slice A np c, .slice B nh d] 25)).alloc (.cells #[vint ax, vint ay] 27)).alloc (.cells #[vint bx, vint bY] 27)) := ((((Ext.refl _).alloc _).alloc _).alloc _)
  have Hx0 := Lib.hid hx0
  have hb0 : Ext (((w.alloc (.cells #[.slice A np c, .slice B nh d] 25)).alloc (.cells #[vint ax, vint ay] 27)).alloc (.cells #[vint bx, vint bY] 27)) (((w.alloc (.cells #[.slice A np c, .slice B nh d] 25)).alloc (.cells #[vint ax, vint ay] 27)).alloc (.cells #[vint bx, vint bY] 27)) := Ext.refl _
  clear kl ka kb hx0
  go_enter Try.func12, Try.ntmps12
  go_wp2_with (first
    | (go_at_call 17; refine (Hgr.out _ (Hx0.out.trans hb1)).mono ?_; rintro e w2 ⟨rfl, hx2⟩; have hb2 := hb1.trans hx2; clear hb1 hx2)
    | (go_at_call 46; refine (alive_any _).mono ?_; rintro e w1 ⟨rfl, hx1⟩; have hb1 := hb0.trans hx1; clear hb0 hx1))
  go_ret
  exact ⟨rfl, Hx0.out.trans hb2⟩
set_option maxRecDepth 100000 in
set_option maxHeartbeats 8000000 in
theorem gap_law_bad (A : Option Addr) (c : Nat) (ps : List (List Sp)) (B : Option Addr) (d : Nat) (hs : List Hg) (a b : Sp) (w : World) (hA : PnRow w A ps) (hB : HRow w B hs) (hg : ¬ greatP ps hs) (hq : askE ps hs a b = 2 ∨ askE ps hs a b = 50) :
    Calls Try.prog 12 #[.agg #[.slice A ps.length c, .slice B hs.length d], a.val, b.val] w fun e w' => e = .returned (.bool true) ∧ Ext w w' := by
  have hL := lk_of hA hB hg
  have hgr := fun w' (he : Ext w w') => great_any A c ps B d hs w' (hA.ext he)
  rw [← greatB_no hg] at hgr
  have hga := fun w' (he : Ext w w') => gap_all A c ps B d hs a b w' (hL.ext he)
  have hpo := fun w' (he : Ext w w') => (poses_all A c ps B d hs w' (hL.ext he)).mono (R' := fun e w'' => ∃ X x, e = .returned (.tuple #[.slice X (posesR ps hs).length x, .int .i64 (checkE ps hs)]) ∧ Ext w' w'') fun e w'' ⟨v, he, ho⟩ => by obtain ⟨X, x, rfl⟩ := ho.form; exact ⟨X, x, he, ho.ext⟩
  have hz : gapE ps hs a b = .tuple #[.int .i64 0, .int .i64 0, .int .i64 0, .int .i64 (askE ps hs a b)] := if_neg (by omega)
  rw [hz] at hga
  have hne : (askE ps hs a b != 0) = true := by rcases hq with h | h <;> rw [h] <;> rfl
  generalize askE ps hs a b = E at *
  generalize checkE ps hs = F at *
  have Hgr := Lib.hid hgr
  have Hga := Lib.hid hga
  have Hpo := Lib.hid hpo
  clear hgr hga hpo hL hA hB hg hz hq
  generalize (posesR ps hs).length = np' at *
  generalize ps.length = np at *
  generalize hs.length = nh at *
  obtain ⟨ax, ay⟩ := a
  obtain ⟨bx, bY⟩ := b
  have kl : Blk (((w.alloc (.cells #[.slice A np c, .slice B nh d] 25)).alloc (.cells #[vint ax, vint ay] 27)).alloc (.cells #[vint bx, vint bY] 27)) w.heap.size [.slice A np c, .slice B nh d] := (Blk.new _ _).ext (((Ext.refl _).alloc _).alloc _)
  have ka : Blk (((w.alloc (.cells #[.slice A np c, .slice B nh d] 25)).alloc (.cells #[vint ax, vint ay] 27)).alloc (.cells #[vint bx, vint bY] 27)) (w.heap.size + 1) [vint ax, vint ay] := (Blk.new' (cs := #[vint ax, vint ay]) (by simp)).ext ((Ext.refl _).alloc _)
  have kb : Blk (((w.alloc (.cells #[.slice A np c, .slice B nh d] 25)).alloc (.cells #[vint ax, vint ay] 27)).alloc (.cells #[vint bx, vint bY] 27)) (w.heap.size + 1 + 1) [vint bx, vint bY] := (Blk.new' (cs := #[vint bx, vint bY]) (by simp))
  have l0 := kl.at_ 0 rfl
  have l1 := kl.at_ 1 rfl
  have a0 := ka.at_ 0 rfl
  have a1 := ka.at_ 1 rfl
  have b0 := kb.at_ 0 rfl
  have b1 := kb.at_ 1 rfl
  have hx0 : Ext w (((w.alloc (.cells #[.slice A np c, .slice B nh d] 25)).alloc (.cells #[vint ax, vint ay] 27)).alloc (.cells #[vint bx, vint bY] 27)) := ((((Ext.refl _).alloc _).alloc _).alloc _)
  have Hx0 := Lib.hid hx0
  have hb0 : Ext (((w.alloc (.cells #[.slice A np c, .slice B nh d] 25)).alloc (.cells #[vint ax, vint ay] 27)).alloc (.cells #[vint bx, vint bY] 27)) (((w.alloc (.cells #[.slice A np c, .slice B nh d] 25)).alloc (.cells #[vint ax, vint ay] 27)).alloc (.cells #[vint bx, vint bY] 27)) := Ext.refl _
  clear kl ka kb hx0
  go_enter Try.func12, Try.ntmps12
  go_wp2_with (first
    | (go_at_call 27; refine (Hpo.out _ (Hx0.out.trans hb3)).mono ?_; rintro e w4 ⟨X, x, rfl, hx4⟩; have hb4 := hb3.trans hx4; clear hb3 hx4)
    | (go_at_call 35; refine (Hga.out _ (Hx0.out.trans hb2)).mono ?_; rintro e w3 ⟨rfl, hx3⟩; have hb3 := hb2.trans hx3; clear hb2 hx3)
    | (go_at_call 17; refine (Hgr.out _ (Hx0.out.trans hb1)).mono ?_; rintro e w2 ⟨rfl, hx2⟩; have hb2 := hb1.trans hx2; clear hb1 hx2)
    | (go_at_call 46; refine (alive_any _).mono ?_; rintro e w1 ⟨rfl, hx1⟩; have hb1 := hb0.trans hx1; clear hb0 hx1))
  go_ret
  exact ⟨rfl, Hx0.out.trans hb4⟩
set_option maxRecDepth 100000 in
set_option maxHeartbeats 16000000 in
theorem gap_law_in (A : Option Addr) (c : Nat) (ps : List (List Sp)) (B : Option Addr) (d : Nat) (hs : List Hg) (a b : Sp) (w : World) (hA : PnRow w A ps) (hB : HRow w B hs) (hg : ¬ greatP ps hs) (hl : linkP ps hs) (hsa : spotB a) (hsb : spotB b) (hq : askE ps hs a b = 0) :
    Calls Try.prog 12 #[.agg #[.slice A ps.length c, .slice B hs.length d], a.val, b.val] w fun e w' => e = .returned (.bool true) ∧ Ext w w' := by
  have hL := lk_of hA hB hg
  have hgr := fun w' (he : Ext w w') => great_any A c ps B d hs w' (hA.ext he)
  rw [← greatB_no hg] at hgr
  have hga := fun w' (he : Ext w w') => gap_all A c ps B d hs a b w' (hL.ext he)
  have hpr : posesR ps hs = posesL hs := by unfold posesR linkB; rw [if_pos (decide_eq_true hl)]
  have hce : checkE ps hs = 0 := (checkE_good hl).symm
  have hpo := fun w' (he : Ext w w') => (poses_all A c ps B d hs w' (hL.ext he)).mono (R' := fun e w'' => ∃ X x, e = .returned (.tuple #[.slice X (hs.length + 1) x, .int .i64 0]) ∧ PRow w'' X (posesL hs) ∧ Ext w' w'') fun e w'' ⟨v, he, ho⟩ => by
    rw [hpr] at ho
    rw [hce] at he
    obtain ⟨X, x, rfl⟩ := ho.form
    exact ⟨X, x, by rw [posesL_len] at he; exact he, OwnP.row ho, ho.ext⟩
  have hz : gapE ps hs a b = .tuple #[.int .i64 ((plc (lastP hs) a).x - b.x * (lastP hs).d), .int .i64 ((plc (lastP hs) a).y - b.y * (lastP hs).d), .int .i64 (lastP hs).d, .int .i64 0] := if_pos hq
  rw [hz] at hga
  have hok := psOk (lastP_ok hl)
  have hat := fun w' => at_any (lastP hs) a w' hok hsa
  have hsm := gap_small hok hsa
  have hpA := lastP_at hs
  have hpl2 := posesL_len hs
  have hd := hok.bd
  have hn3 := hl.nh
  have e1 := prod_le hsb.1.1 hsb.1.2 (s := (lastP hs).d) (m := 15625) (by omega) (by omega)
  have e2 := prod_le hsb.2.1 hsb.2.2 (s := (lastP hs).d) (m := 15625) (by omega) (by omega)
  simp only [Int.reduceMul] at e1 e2
  have hone : hs.length = 0 → plc (lastP hs) a = a ∧ (lastP hs).d = 1 := fun h => by
    have h2 : lastP hs = pose0 := by unfold lastP; rw [h]; rfl
    rw [h2]
    exact ⟨plc_pose0 a, rfl⟩
  have Hgr := Lib.hid hgr
  have Hga := Lib.hid hga
  have Hpo := Lib.hid hpo
  have Hat := Lib.hid hat
  have HpA := Lib.hid hpA
  have Hpl2 := Lib.hid hpl2
  clear hgr hga hpo hat hpA hpl2 hL hl hok hA hB hg hz hq hpr hce
  generalize posesL hs = PL at *
  generalize plc (lastP hs) a = z at *
  generalize lastP hs = p at *
  generalize ps.length = np at *
  generalize hs.length = nh at *
  obtain ⟨zx, zy⟩ := z
  obtain ⟨ax, ay⟩ := a
  obtain ⟨bx, bY⟩ := b
  obtain ⟨pp, pq, px, py, pd⟩ := p
  simp only at hsm e1 e2 hd Hga
  have hone' : nh = 0 → zx = ax ∧ zy = ay ∧ pd = 1 := fun h => by
    obtain ⟨h1, h2⟩ := hone h
    injection h1 with h1 h3
    exact ⟨h1, h3, h2⟩
  have hm1 : IntKind.i64.wrap (bx * pd) = bx * pd := by rw [IntKind.wrap_i64]; omega
  have hm2 : IntKind.i64.wrap (bY * pd) = bY * pd := by rw [IntKind.wrap_i64]; omega
  have hs1 : IntKind.i64.wrap (zx - bx * pd) = zx - bx * pd := by rw [IntKind.wrap_i64]; omega
  have hs2 : IntKind.i64.wrap (zy - bY * pd) = zy - bY * pd := by rw [IntKind.wrap_i64]; omega
  have hn1 : IntKind.i64.wrap ((nh : Int) + 1 - 1) = (nh : Int) := by rw [IntKind.wrap_i64]; omega
  clear hsm e1 e2 hone hd hsa hsb
  have kl : Blk (((w.alloc (.cells #[.slice A np c, .slice B nh d] 25)).alloc (.cells #[vint ax, vint ay] 27)).alloc (.cells #[vint bx, vint bY] 27)) w.heap.size [.slice A np c, .slice B nh d] := (Blk.new _ _).ext (((Ext.refl _).alloc _).alloc _)
  have ka : Blk (((w.alloc (.cells #[.slice A np c, .slice B nh d] 25)).alloc (.cells #[vint ax, vint ay] 27)).alloc (.cells #[vint bx, vint bY] 27)) (w.heap.size + 1) [vint ax, vint ay] := (Blk.new' (cs := #[vint ax, vint ay]) (by simp)).ext ((Ext.refl _).alloc _)
  have kb : Blk (((w.alloc (.cells #[.slice A np c, .slice B nh d] 25)).alloc (.cells #[vint ax, vint ay] 27)).alloc (.cells #[vint bx, vint bY] 27)) (w.heap.size + 1 + 1) [vint bx, vint bY] := (Blk.new' (cs := #[vint bx, vint bY]) (by simp))
  have l0 := kl.at_ 0 rfl
  have l1 := kl.at_ 1 rfl
  have a0 := ka.at_ 0 rfl
  have a1 := ka.at_ 1 rfl
  have b0 := kb.at_ 0 rfl
  have b1 := kb.at_ 1 rfl
  have hx0 : Ext w (((w.alloc (.cells #[.slice A np c, .slice B nh d] 25)).alloc (.cells #[vint ax, vint ay] 27)).alloc (.cells #[vint bx, vint bY] 27)) := ((((Ext.refl _).alloc _).alloc _).alloc _)
  have Hx0 := Lib.hid hx0
  have hb0 : Ext (((w.alloc (.cells #[.slice A np c, .slice B nh d] 25)).alloc (.cells #[vint ax, vint ay] 27)).alloc (.cells #[vint bx, vint bY] 27)) (((w.alloc (.cells #[.slice A np c, .slice B nh d] 25)).alloc (.cells #[vint ax, vint ay] 27)).alloc (.cells #[vint bx, vint bY] 27)) := Ext.refl _
  clear kl ka kb hx0
  have he := eql_spot ax ay bx bY
  by_cases hone0 : nh = 0
  · have hone1 := hone' hone0
    clear hone'
    have hn00 : decide ((1 : Int) < (nh : Int) + 1) = false := by simp; omega
    have hthree : ((zx - bx * pd == 0) = true ∧ (zy - bY * pd == 0) = true ∧ (ax == bx && ay == bY) = true) ∨ ((zx - bx * pd == 0) = false ∧ (ax == bx && ay == bY) = false) ∨ ((zx - bx * pd == 0) = true ∧ (zy - bY * pd == 0) = false ∧ (ax == bx && ay == bY) = false) := by
      obtain ⟨rfl, rfl, rfl⟩ := hone1
      by_cases h1 : zx = bx
      · by_cases h2 : zy = bY
        · exact .inl ⟨by simp; omega, by simp; omega, by simp [h1, h2]⟩
        · exact .inr (.inr ⟨by simp; omega, by simp; omega, by simp [h2]⟩)
      · exact .inr (.inl ⟨by simp; omega, by simp [h1]⟩)
    clear hone1 hone0
    rcases hthree with ⟨t1, t2, t3⟩ | ⟨t1, t3⟩ | ⟨t1, t2, t3⟩
    all_goals
      rw [t3] at he
      clear t3
      go_enter Try.func12, Try.ntmps12
      go_wp2_with (first
        | (go_at_call 47; refine (Hat.out _).mono ?_; rintro e w5 ⟨rfl, hx5⟩; have hb5 := (hb4.alloc (.cells #[vint pp, vint pq, vint px, vint py, vint pd] 82)).trans hx5; have hq := ((Blk.new (W := w4) #[vint pp, vint pq, vint px, vint py, vint pd] 82).ext hx5).at_ 4 rfl; clear hb4)
        | (go_at_call 27; refine (Hpo.out _ (Hx0.out.trans hb3)).mono ?_; rintro e w4 ⟨X, x, rfl, hX, hx4⟩; have hb4 := hb3.trans hx4; obtain ⟨_, ee, p0, p1, p2, p3, p4⟩ := hX.at_ (k := nh) (by rw [Hpl2.out]; omega); subst ee; simp only [HpA.out] at p0 p1 p2 p3 p4; clear hb3 hx4 hX)
        | (go_at_call 35; refine (Hga.out _ (Hx0.out.trans hb2)).mono ?_; rintro e w3 ⟨rfl, hx3⟩; have hb3 := hb2.trans hx3; clear hb2 hx3)
        | (go_at_call 17; refine (Hgr.out _ (Hx0.out.trans hb1)).mono ?_; rintro e w2 ⟨rfl, hx2⟩; have hb2 := hb1.trans hx2; clear hb1 hx2)
        | (go_at_call 46; refine (alive_any _).mono ?_; rintro e w1 ⟨rfl, hx1⟩; have hb1 := hb0.trans hx1; clear hb0 hx1))
      go_ret
      exact ⟨rfl, (Hx0.out.trans hb5).alloc _⟩
  · clear hone' he
    go_enter Try.func12, Try.ntmps12
    go_wp2_with (first
      | (go_at_call 47; refine (Hat.out _).mono ?_; rintro e w5 ⟨rfl, hx5⟩; have hb5 := (hb4.alloc (.cells #[vint pp, vint pq, vint px, vint py, vint pd] 82)).trans hx5; have hq := ((Blk.new (W := w4) #[vint pp, vint pq, vint px, vint py, vint pd] 82).ext hx5).at_ 4 rfl; clear hb4)
      | (go_at_call 27; refine (Hpo.out _ (Hx0.out.trans hb3)).mono ?_; rintro e w4 ⟨X, x, rfl, hX, hx4⟩; have hb4 := hb3.trans hx4; obtain ⟨_, ee, p0, p1, p2, p3, p4⟩ := hX.at_ (k := nh) (by rw [Hpl2.out]; omega); subst ee; simp only [HpA.out] at p0 p1 p2 p3 p4; clear hb3 hx4 hX)
      | (go_at_call 35; refine (Hga.out _ (Hx0.out.trans hb2)).mono ?_; rintro e w3 ⟨rfl, hx3⟩; have hb3 := hb2.trans hx3; clear hb2 hx3)
      | (go_at_call 17; refine (Hgr.out _ (Hx0.out.trans hb1)).mono ?_; rintro e w2 ⟨rfl, hx2⟩; have hb2 := hb1.trans hx2; clear hb1 hx2)
      | (go_at_call 46; refine (alive_any _).mono ?_; rintro e w1 ⟨rfl, hx1⟩; have hb1 := hb0.trans hx1; clear hb0 hx1))
    go_ret
    exact ⟨rfl, (Hx0.out.trans hb5).alloc _⟩
theorem gap_law (A : Option Addr) (c : Nat) (ps : List (List Sp)) (B : Option Addr) (d : Nat) (hs : List Hg) (a b : Sp) (w : World) (hA : PnRow w A ps) (hB : HRow w B hs) :
    Calls Try.prog 12 #[.agg #[.slice A ps.length c, .slice B hs.length d], a.val, b.val] w fun e w' => e = .returned (.bool true) ∧ Ext w w' := by
  by_cases hg : greatP ps hs
  · exact gap_law_out A c ps B d hs a b w hA hg
  · rcases ask_cases ps hs a b with ⟨h1, h2, h3, h4⟩ | ⟨h4, _⟩
    · exact gap_law_in A c ps B d hs a b w hA hB hg h1 h2 h3 h4
    · exact gap_law_bad A c ps B d hs a b w hA hB hg h4
end Go.Proofs.Yteilglljigjefaa
