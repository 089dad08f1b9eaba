/- Lines between: by the reference. -/
import Derived.Test.YteilglljigjefaaR17
namespace Go.Proofs.Yteilglljigjefaa
open Go.RowKit
def btwB (r : Apr) (a b : List Cn) : Bool := decide (btwP r a b)
def headP (r : Apr) : Prop := r.ins.length = 0 ∧ (-10000000 ≤ r.A ∧ r.A ≤ 10000000) ∧ (-10000000 ≤ r.B ∧ r.B ≤ 10000000) ∧ ¬ (r.A = 0 ∧ r.B = 0) ∧ (-100000000000000 ≤ r.C ∧ r.C ≤ 100000000000000) ∧ (1 ≤ r.E ∧ r.E ≤ 20000)
instance (r : Apr) : Decidable (headP r) := by unfold headP; infer_instance
theorem btwP_iff {r : Apr} {a b : List Cn} : btwP r a b ↔ headP r ∧ (∀ k, k < a.length → lineN r (cAt a k) ≤ r.C * (cAt a k).d) ∧ ∀ k, k < b.length → r.C * (cAt b k).d ≤ lineN r (cAt b k) := by
  unfold btwP headP
  constructor
  · rintro ⟨h1, h2, h3, h4, h5, h6, h7, h8⟩
    exact ⟨⟨h1, h2, h3, h4, h5, h6⟩, fun k hk => h7 _ (cAt_mem hk), fun k hk => h8 _ (cAt_mem hk)⟩
  · rintro ⟨⟨h1, h2, h3, h4, h5, h6⟩, h7, h8⟩
    refine ⟨h1, h2, h3, h4, h5, h6, fun c hc => ?_, fun c hc => ?_⟩
    · obtain ⟨k, hk, rfl⟩ := List.getElem_of_mem hc
      have := h7 k hk
      rwa [cAt_at hk] at this
    · obtain ⟨k, hk, rfl⟩ := List.getElem_of_mem hc
      have := h8 k hk
      rwa [cAt_at hk] at this
theorem btwB_yes {r : Apr} {a b : List Cn} (h : btwP r a b) : true = btwB r a b := (decide_eq_true h).symm
theorem btwB_no {r : Apr} {a b : List Cn} (h : ¬ btwP r a b) : false = btwB r a b := (decide_eq_false h).symm
/-- The numbers of a line. -/
theorem line_fit {A B C E x y d : Int} (hA : -10000000 ≤ A ∧ A ≤ 10000000) (hB : -10000000 ≤ B ∧ B ≤ 10000000) (hC : -100000000000000 ≤ C ∧ C ≤ 100000000000000) (hE : 1 ≤ E ∧ E ≤ 20000) (hx : -10937500 ≤ x ∧ x ≤ 10937500) (hy : -10937500 ≤ y ∧ y ≤ 10937500) (hd : 1 ≤ d ∧ d ≤ 15625) :
    (-109375000000000 ≤ A * x ∧ A * x ≤ 109375000000000) ∧ (-109375000000000 ≤ B * y ∧ B * y ≤ 109375000000000) ∧ (-4375000000000000000 ≤ E * (A * x + B * y) ∧ E * (A * x + B * y) ≤ 4375000000000000000) ∧ (-1562500000000000000 ≤ C * d ∧ C * d ≤ 1562500000000000000) := by
  have e1 := prod_le hA.1 hA.2 hx.1 hx.2
  have e2 := prod_le hB.1 hB.2 hy.1 hy.2
  simp only [Int.reduceMul] at e1 e2
  have e3 := prod_le (a := E) (d := 20000) (s := A * x + B * y) (m := 218750000000000) (by omega) (by omega) (by omega) (by omega)
  have e4 := prod_le (a := C) (d := 100000000000000) (s := d) (m := 15625) (by omega) (by omega) (by omega) (by omega)
  simp only [Int.reduceMul] at e3 e4
  exact ⟨e1, e2, e3, e4⟩
set_option maxRecDepth 100000 in
set_option maxHeartbeats 8000000 in
theorem between_head (rc : Bool) (rA rB rC rE : Int) (I : Option Addr) (q ic : Nat) (A : Option Addr) (n ca : Nat) (d : Int) (B : Option Addr) (m cb : Nat) (e : Int) (w : World) (hq : q ≤ 9223372036854775807)
    (hbad : ¬ (q = 0 ∧ (-10000000 ≤ rA ∧ rA ≤ 10000000) ∧ (-10000000 ≤ rB ∧ rB ≤ 10000000) ∧ ¬ (rA = 0 ∧ rB = 0) ∧ (-100000000000000 ≤ rC ∧ rC ≤ 100000000000000) ∧ (1 ≤ rE ∧ rE ≤ 20000))) :
    Calls Try.prog 101 #[.agg #[.bool rc, vint rA, vint rB, vint rC, vint rE, .slice I q ic], .slice A n ca, .int .i64 d, .slice B m cb, .int .i64 e] w fun en w' => en = .returned (.bool false) ∧ Ext w w' := by
  have hwi := fun (n lo hi : Int) (w' : World) => within_any n lo hi w'
  have hA := hwi rA (-10000000) 10000000
  have hB := hwi rB (-10000000) 10000000
  have hC := hwi rC (-100000000000000) 100000000000000
  have hE := hwi rE 1 20000
  have HwA := Lib.hid hA
  have HwB := Lib.hid hB
  have HwC := Lib.hid hC
  have HwE := Lib.hid hE
  clear hwi hA hB hC hE
  have hx0 : Ext w (w.alloc (.cells #[.bool rc, vint rA, vint rB, vint rC, vint rE, .slice I q ic] 67)) := (Ext.refl _).alloc _
  by_cases h1 : 0 < q
  · have d1 : decide ((0 : Int) < (q : Int)) = true := by simp; omega
    clear hbad
    go_enter Try.func101, Try.ntmps101
    go_wp2_with (first | (go_at_call 58; ((with_reducible refine (HwA.out _).mono ?_); rintro e w2 ⟨rfl, rfl⟩)) | (go_at_call 58; ((with_reducible refine (HwB.out _).mono ?_); rintro e w2 ⟨rfl, rfl⟩)) | (go_at_call 58; ((with_reducible refine (HwC.out _).mono ?_); rintro e w2 ⟨rfl, rfl⟩)) | (go_at_call 58; ((with_reducible refine (HwE.out _).mono ?_); rintro e w2 ⟨rfl, rfl⟩)))
    go_ret
    exact ⟨rfl, hx0⟩
  · have d1 : decide ((0 : Int) < (q : Int)) = false := by simp; omega
    cases h2 : withinB rA (-10000000) 10000000
    · rw [h2] at HwA
      clear hbad h2
      go_enter Try.func101, Try.ntmps101
      go_wp2_with (first | (go_at_call 58; ((with_reducible refine (HwA.out _).mono ?_); rintro e w2 ⟨rfl, rfl⟩)) | (go_at_call 58; ((with_reducible refine (HwB.out _).mono ?_); rintro e w2 ⟨rfl, rfl⟩)) | (go_at_call 58; ((with_reducible refine (HwC.out _).mono ?_); rintro e w2 ⟨rfl, rfl⟩)) | (go_at_call 58; ((with_reducible refine (HwE.out _).mono ?_); rintro e w2 ⟨rfl, rfl⟩)))
      go_ret
      exact ⟨rfl, hx0⟩
    · rw [h2] at HwA
      cases h3 : withinB rB (-10000000) 10000000
      · rw [h3] at HwB
        clear hbad h2 h3
        go_enter Try.func101, Try.ntmps101
        go_wp2_with (first | (go_at_call 58; ((with_reducible refine (HwA.out _).mono ?_); rintro e w2 ⟨rfl, rfl⟩)) | (go_at_call 58; ((with_reducible refine (HwB.out _).mono ?_); rintro e w2 ⟨rfl, rfl⟩)) | (go_at_call 58; ((with_reducible refine (HwC.out _).mono ?_); rintro e w2 ⟨rfl, rfl⟩)) | (go_at_call 58; ((with_reducible refine (HwE.out _).mono ?_); rintro e w2 ⟨rfl, rfl⟩)))
        go_ret
        exact ⟨rfl, hx0⟩
      · rw [h3] at HwB
        by_cases h4 : rA = 0 ∧ rB = 0
        · have d2 : (rA == 0) = true := by simpa using h4.1
          have d3 : (rB == 0) = true := by simpa using h4.2
          clear hbad h2 h3 h4
          go_enter Try.func101, Try.ntmps101
          go_wp2_with (first | (go_at_call 58; ((with_reducible refine (HwA.out _).mono ?_); rintro e w2 ⟨rfl, rfl⟩)) | (go_at_call 58; ((with_reducible refine (HwB.out _).mono ?_); rintro e w2 ⟨rfl, rfl⟩)) | (go_at_call 58; ((with_reducible refine (HwC.out _).mono ?_); rintro e w2 ⟨rfl, rfl⟩)) | (go_at_call 58; ((with_reducible refine (HwE.out _).mono ?_); rintro e w2 ⟨rfl, rfl⟩)))
          go_ret
          exact ⟨rfl, hx0⟩
        · cases h5 : withinB rC (-100000000000000) 100000000000000
          · rw [h5] at HwC
            by_cases h7 : rA = 0
            · have d2 : (rA == 0) = true := by simpa using h7
              have d3 : (rB == 0) = false := by simpa using fun h => h4 ⟨h7, h⟩
              clear hbad h2 h3 h4 h5 h7
              go_enter Try.func101, Try.ntmps101
              go_wp2_with (first | (go_at_call 58; ((with_reducible refine (HwA.out _).mono ?_); rintro e w2 ⟨rfl, rfl⟩)) | (go_at_call 58; ((with_reducible refine (HwB.out _).mono ?_); rintro e w2 ⟨rfl, rfl⟩)) | (go_at_call 58; ((with_reducible refine (HwC.out _).mono ?_); rintro e w2 ⟨rfl, rfl⟩)) | (go_at_call 58; ((with_reducible refine (HwE.out _).mono ?_); rintro e w2 ⟨rfl, rfl⟩)))
              go_ret
              exact ⟨rfl, hx0⟩
            · have d2 : (rA == 0) = false := by simpa using h7
              clear hbad h2 h3 h4 h5 h7
              go_enter Try.func101, Try.ntmps101
              go_wp2_with (first | (go_at_call 58; ((with_reducible refine (HwA.out _).mono ?_); rintro e w2 ⟨rfl, rfl⟩)) | (go_at_call 58; ((with_reducible refine (HwB.out _).mono ?_); rintro e w2 ⟨rfl, rfl⟩)) | (go_at_call 58; ((with_reducible refine (HwC.out _).mono ?_); rintro e w2 ⟨rfl, rfl⟩)) | (go_at_call 58; ((with_reducible refine (HwE.out _).mono ?_); rintro e w2 ⟨rfl, rfl⟩)))
              go_ret
              exact ⟨rfl, hx0⟩
          · rw [h5] at HwC
            have h6 : withinB rE 1 20000 = false := withinB_false.2 fun h => hbad ⟨by omega, withinB_true.1 h2, withinB_true.1 h3, h4, withinB_true.1 h5, h⟩
            rw [h6] at HwE
            by_cases h7 : rA = 0
            · have d2 : (rA == 0) = true := by simpa using h7
              have d3 : (rB == 0) = false := by simpa using fun h => h4 ⟨h7, h⟩
              clear hbad h2 h3 h4 h5 h7 h6
              go_enter Try.func101, Try.ntmps101
              go_wp2_with (first | (go_at_call 58; ((with_reducible refine (HwA.out _).mono ?_); rintro e w2 ⟨rfl, rfl⟩)) | (go_at_call 58; ((with_reducible refine (HwB.out _).mono ?_); rintro e w2 ⟨rfl, rfl⟩)) | (go_at_call 58; ((with_reducible refine (HwC.out _).mono ?_); rintro e w2 ⟨rfl, rfl⟩)) | (go_at_call 58; ((with_reducible refine (HwE.out _).mono ?_); rintro e w2 ⟨rfl, rfl⟩)))
              go_ret
              exact ⟨rfl, hx0⟩
            · have d2 : (rA == 0) = false := by simpa using h7
              clear hbad h2 h3 h4 h5 h7 h6
              go_enter Try.func101, Try.ntmps101
              go_wp2_with (first | (go_at_call 58; ((with_reducible refine (HwA.out _).mono ?_); rintro e w2 ⟨rfl, rfl⟩)) | (go_at_call 58; ((with_reducible refine (HwB.out _).mono ?_); rintro e w2 ⟨rfl, rfl⟩)) | (go_at_call 58; ((with_reducible refine (HwC.out _).mono ?_); rintro e w2 ⟨rfl, rfl⟩)) | (go_at_call 58; ((with_reducible refine (HwE.out _).mono ?_); rintro e w2 ⟨rfl, rfl⟩)))
              go_ret
              exact ⟨rfl, hx0⟩
set_option maxRecDepth 100000 in
set_option maxHeartbeats 8000000 in
theorem between_loops (rc : Bool) (rA rB rC rE : Int) (I : Option Addr) (ic : Nat) (A : Option Addr) (ca : Nat) (l : List Sp) (d : Int) (B : Option Addr) (cb : Nat) (o : List Sp) (e : Int) (w : World) (R : Bool) (hlA : SRow w A l) (hlB : SRow w B o) (hc : CnsOk (cnL l d)) (ho : CnsOk (cnL o e))
    (hA : -10000000 ≤ rA ∧ rA ≤ 10000000) (hB : -10000000 ≤ rB ∧ rB ≤ 10000000) (h0 : ¬ (rA = 0 ∧ rB = 0)) (hC : -100000000000000 ≤ rC ∧ rC ≤ 100000000000000) (hE : 1 ≤ rE ∧ rE ≤ 20000)
    (hyes : (∀ k, k < l.length → rE * (rA * (ptA l k).x + rB * (ptA l k).y) ≤ rC * d) → (∀ k, k < o.length → rC * e ≤ rE * (rA * (ptA o k).x + rB * (ptA o k).y)) → true = R)
    (hno1 : ∀ k, k < l.length → ¬ rE * (rA * (ptA l k).x + rB * (ptA l k).y) ≤ rC * d → false = R) (hno2 : ∀ k, k < o.length → ¬ rC * e ≤ rE * (rA * (ptA o k).x + rB * (ptA o k).y) → false = R) :
    Calls Try.prog 101 #[.agg #[.bool rc, vint rA, vint rB, vint rC, vint rE, .slice I 0 ic], .slice A l.length ca, .int .i64 d, .slice B o.length cb, .int .i64 e] w fun en w' => en = .returned (.bool R) ∧ Ext w w' := by
  have hwi := fun (n lo hi : Int) (w' : World) => within_any n lo hi w'
  have hA' := hwi rA (-10000000) 10000000
  have hB' := hwi rB (-10000000) 10000000
  have hC' := hwi rC (-100000000000000) 100000000000000
  have hE' := hwi rE 1 20000
  rw [withinB_true.2 hA] at hA'
  rw [withinB_true.2 hB] at hB'
  rw [withinB_true.2 hC] at hC'
  rw [withinB_true.2 hE] at hE'
  have HwA := Lib.hid hA'
  have HwB := Lib.hid hB'
  have HwC := Lib.hid hC'
  have HwE := Lib.hid hE'
  clear hwi hA' hB' hC' hE'
  have hat := fun k (hk : k < l.length) => hlA.at_ hk
  have hbt := fun k (hk : k < o.length) => hlB.at_ hk
  have hl8 := hc.len
  have ho8 := ho.len
  rw [cnL_len] at hl8 ho8
  have hok1 : ∀ k, k < l.length → CnOk ⟨ptA l k, d⟩ := fun k hk => by have := hc.at_ (k := k) (by rw [cnL_len]; exact hk); rwa [cnL_at hk] at this
  have hok2 : ∀ k, k < o.length → CnOk ⟨ptA o k, e⟩ := fun k hk => by have := ho.at_ (k := k) (by rw [cnL_len]; exact hk); rwa [cnL_at hk] at this
  have Hat := Lib.hid hat
  have Hbt := Lib.hid hbt
  have Hok1 := Lib.hid hok1
  have Hok2 := Lib.hid hok2
  have Hyes := Lib.hid hyes
  have Hno1 := Lib.hid hno1
  have Hno2 := Lib.hid hno2
  clear hat hbt hok1 hok2 hyes hno1 hno2 hlA hlB hc ho
  generalize l.length = n at *
  generalize o.length = m at *
  have kb : Blk (w.alloc (.cells #[.bool rc, vint rA, vint rB, vint rC, vint rE, .slice I 0 ic] 67)) w.heap.size [.bool rc, vint rA, vint rB, vint rC, vint rE, .slice I 0 ic] := Blk.new _ _
  have hx0 : Ext w (w.alloc (.cells #[.bool rc, vint rA, vint rB, vint rC, vint rE, .slice I 0 ic] 67)) := (Ext.refl _).alloc _
  have b1 := kb.at_ 1 rfl
  have b2 := kb.at_ 2 rfl
  have b3 := kb.at_ 3 rfl
  have b4 := kb.at_ 4 rfl
  have B1 := Lib.hid b1
  have B2 := Lib.hid b2
  have B3 := Lib.hid b3
  have B4 := Lib.hid b4
  have Hx0 := Lib.hid hx0
  clear hx0 kb
  have d1 : decide ((0 : Int) < ((0 : Nat) : Int)) = false := by simp
  have h7 : (rA == 0) = true ∧ (rB == 0) = false ∨ (rA == 0) = false := by
    by_cases h : rA = 0
    · exact .inl ⟨by simpa using h, by simpa using fun h' => h0 ⟨h, h'⟩⟩
    · exact .inr (by simpa using h)
  rcases h7 with ⟨d2, d3⟩ | d2
  all_goals
    go_enter Try.func101, Try.ntmps101
    go_wp2_with (first | (go_at_call 58; ((with_reducible refine (HwA.out _).mono ?_); rintro e w2 ⟨rfl, rfl⟩)) | (go_at_call 58; ((with_reducible refine (HwB.out _).mono ?_); rintro e w2 ⟨rfl, rfl⟩)) | (go_at_call 58; ((with_reducible refine (HwC.out _).mono ?_); rintro e w2 ⟨rfl, rfl⟩)) | (go_at_call 58; ((with_reducible refine (HwE.out _).mono ?_); rintro e w2 ⟨rfl, rfl⟩)))

    generalize (w.alloc (.cells #[.bool rc, vint rA, vint rB, vint rC, vint rE, .slice I 0 ic] 67)) = w0 at *
    clear b1 b2 b3 b4 d1 d2
    go_loopw [11] (fun i wr => ∃ k : Nat, k ≤ n ∧ i = .int .i64 k ∧ Ext w0 wr ∧ ∀ j, j < k → rE * (rA * (ptA l j).x + rB * (ptA l j).y) ≤ rC * d) (fun i _ => n - (intOf i).toNat)
    case atStart => exact ⟨0, by omega, rfl, Ext.refl _, fun j h => absurd h (by omega)⟩
    case round =>
      obtain ⟨k, hk, rfl, hex, hall⟩ := hrel
      have Hall := Lib.hid hall
      clear hall
      by_cases hlt : k < n
      · obtain ⟨ad, rfl, p0, p1⟩ := Hat.out k hlt
        have hxr := Hx0.out.trans hex
        have u0 : ∀ w', Ext wr w' → _ := fun w' he => p0 w' (hxr.trans he)
        have u1 : ∀ w', Ext wr w' → _ := fun w' he => p1 w' (hxr.trans he)
        have c1 : ∀ w', Ext wr w' → _ := fun w' he => B1.out w' (hex.trans he)
        have c2 : ∀ w', Ext wr w' → _ := fun w' he => B2.out w' (hex.trans he)
        have c3 : ∀ w', Ext wr w' → _ := fun w' he => B3.out w' (hex.trans he)
        have c4 : ∀ w', Ext wr w' → _ := fun w' he => B4.out w' (hex.trans he)
        have hok := Hok1.out k hlt
        have hn := Hno1.out k hlt
        have hnx : rE * (rA * (ptA l k).x + rB * (ptA l k).y) ≤ rC * d → ∀ j, j < k + 1 → rE * (rA * (ptA l j).x + rB * (ptA l j).y) ≤ rC * d := fun h j hj => by
          by_cases e : j = k
          · subst e; exact h
          · exact Hall.out j (by omega)
        have Hn := Lib.hid hn
        have Hnx := Lib.hid hnx
        clear p0 p1 hn hnx Hat Hbt Hok1 Hok2 Hyes Hno1 Hno2 Hall
        generalize ptA l k = s at *
        obtain ⟨x, y⟩ := s
        have hokx := hok.x
        have hoky := hok.y
        have hokd := hok.d
        simp only at u0 u1 hokx hoky hokd Hn Hnx
        obtain ⟨f1, f2, f3, f4⟩ := line_fit hA hB hC hE hokx hoky hokd
        clear hok hokx hoky hokd
        have hkn : (k : Int) < (n : Int) := by omega
        by_cases hp : rE * (rA * x + rB * y) ≤ rC * d
        · have hq := Hnx.out hp
          have Hq := Lib.hid hq
          have d9 : decide (rC * d < rE * (rA * x + rB * y)) = false := by simpa using hp
          clear hq Hnx Hn hp
          go_wp2
          refine wp_region_calm 25 (fun _ _ _ _ => True) (fun _ _ _ _ _ _ h => h) (by kernel_rfl) (by kernel_rfl) ?_
          simp only [List.take_succ_cons, List.take_zero, List.drop_succ_cons, List.drop_zero]
          refine calm_quiet calm_mono_final 25 (by kernel_rfl) ?_
          simp only [List.take_succ_cons, List.take_zero, List.drop_succ_cons, List.drop_zero]
          repeat (go_big_quiet_step (fail))
          refine wpQuiet_nil ?_
          refine calm_nil fun w3 he3 _ => ?_
          go_wp2
          go_roundw
          case rel => exact ⟨k + 1, by omega, by go_num, hex.trans he3, Hq.out⟩
          case measure => simp [intOf]; omega
        · have hq := Hn.out (by first | exact hp | omega)
          have Hq := Lib.hid hq
          have d9 : decide (rC * d < rE * (rA * x + rB * y)) = true := by simp; omega
          clear hq Hnx Hn hp
          go_wp2
          refine wp_region_calm 25 (fun _ _ _ _ => True) (fun _ _ _ _ _ _ h => h) (by kernel_rfl) (by kernel_rfl) ?_
          simp only [List.take_succ_cons, List.take_zero, List.drop_succ_cons, List.drop_zero]
          refine calm_quiet calm_mono_final 25 (by kernel_rfl) ?_
          simp only [List.take_succ_cons, List.take_zero, List.drop_succ_cons, List.drop_zero]
          repeat (go_big_quiet_step (fail))
          refine wpQuiet_nil ?_
          refine calm_nil fun w3 he3 _ => ?_
          go_wp2
          go_ret
          exact ⟨ret_b Hq.out, hxr.trans he3⟩
      · obtain rfl : n = k := by omega
        have hy := Hyes.out Hall.out
        have Hy := Lib.hid hy
        clear hy Hyes Hall Hat Hok1 Hno1
        go_wp2
        obtain ⟨wo, rfl⟩ : ∃ wo : World, wo = wr := ⟨_, rfl⟩
        go_loopw [12] (fun i wr => ∃ k : Nat, k ≤ m ∧ i = .int .i64 k ∧ Ext w0 wr ∧ ∀ j, j < k → rC * e ≤ rE * (rA * (ptA o j).x + rB * (ptA o j).y)) (fun i _ => m - (intOf i).toNat)
        case atStart => exact ⟨0, by omega, rfl, hex, fun j h => absurd h (by omega)⟩
        case round =>
          obtain ⟨k, hk, rfl, hex, hall⟩ := hrel
          have Hall := Lib.hid hall
          clear hall
          by_cases hlt : k < m
          · obtain ⟨bd, rfl, p0, p1⟩ := Hbt.out k hlt
            have hxr := Hx0.out.trans hex
            have u0 : ∀ w', Ext wr w' → _ := fun w' he => p0 w' (hxr.trans he)
            have u1 : ∀ w', Ext wr w' → _ := fun w' he => p1 w' (hxr.trans he)
            have c1 : ∀ w', Ext wr w' → _ := fun w' he => B1.out w' (hex.trans he)
            have c2 : ∀ w', Ext wr w' → _ := fun w' he => B2.out w' (hex.trans he)
            have c3 : ∀ w', Ext wr w' → _ := fun w' he => B3.out w' (hex.trans he)
            have c4 : ∀ w', Ext wr w' → _ := fun w' he => B4.out w' (hex.trans he)
            have hok := Hok2.out k hlt
            have hn := Hno2.out k hlt
            have hnx : rC * e ≤ rE * (rA * (ptA o k).x + rB * (ptA o k).y) → ∀ j, j < k + 1 → rC * e ≤ rE * (rA * (ptA o j).x + rB * (ptA o j).y) := fun h j hj => by
              by_cases e : j = k
              · subst e; exact h
              · exact Hall.out j (by omega)
            have Hn := Lib.hid hn
            have Hnx := Lib.hid hnx
            clear p0 p1 hn hnx Hbt Hok2 Hno2 Hall Hy
            generalize ptA o k = s at *
            obtain ⟨x, y⟩ := s
            have hokx := hok.x
            have hoky := hok.y
            have hokd := hok.d
            simp only at u0 u1 hokx hoky hokd Hn Hnx
            obtain ⟨f1, f2, f3, f4⟩ := line_fit hA hB hC hE hokx hoky hokd
            clear hok hokx hoky hokd
            have hkn : (k : Int) < (m : Int) := by omega
            by_cases hp : rC * e ≤ rE * (rA * x + rB * y)
            · have hq := Hnx.out hp
              have Hq := Lib.hid hq
              have d9 : decide (rE * (rA * x + rB * y) < rC * e) = false := by simpa using hp
              clear hq Hnx Hn hp
              go_wp2
              refine wp_region_calm 25 (fun _ _ _ _ => True) (fun _ _ _ _ _ _ h => h) (by kernel_rfl) (by kernel_rfl) ?_
              simp only [List.take_succ_cons, List.take_zero, List.drop_succ_cons, List.drop_zero]
              refine calm_quiet calm_mono_final 25 (by kernel_rfl) ?_
              simp only [List.take_succ_cons, List.take_zero, List.drop_succ_cons, List.drop_zero]
              repeat (go_big_quiet_step (fail))
              refine wpQuiet_nil ?_
              refine calm_nil fun w3 he3 _ => ?_
              go_wp2
              go_roundw
              case rel => exact ⟨k + 1, by omega, by go_num, hex.trans he3, Hq.out⟩
              case measure => simp [intOf]; omega
            · have hq := Hn.out (by first | exact hp | omega)
              have Hq := Lib.hid hq
              have d9 : decide (rE * (rA * x + rB * y) < rC * e) = true := by simp; omega
              clear hq Hnx Hn hp
              go_wp2
              refine wp_region_calm 25 (fun _ _ _ _ => True) (fun _ _ _ _ _ _ h => h) (by kernel_rfl) (by kernel_rfl) ?_
              simp only [List.take_succ_cons, List.take_zero, List.drop_succ_cons, List.drop_zero]
              refine calm_quiet calm_mono_final 25 (by kernel_rfl) ?_
              simp only [List.take_succ_cons, List.take_zero, List.drop_succ_cons, List.drop_zero]
              repeat (go_big_quiet_step (fail))
              refine wpQuiet_nil ?_
              refine calm_nil fun w3 he3 _ => ?_
              go_wp2
              go_ret
              exact ⟨ret_b Hq.out, hxr.trans he3⟩
          · obtain rfl : m = k := by omega
            have hy := Hy.out Hall.out
            have Hy' := Lib.hid hy
            clear hy Hall Hbt Hok2 Hno2 Hy
            go_wp2
            go_ret
            exact ⟨ret_b Hy'.out, Hx0.out.trans hex⟩
theorem between_any (r : Apr) (I : Option Addr) (ic : Nat) (A : Option Addr) (ca : Nat) (l : List Sp) (d : Int) (B : Option Addr) (cb : Nat) (o : List Sp) (e : Int) (w : World) (hq : r.ins.length ≤ 9223372036854775807) (hA : SRow w A l) (hB : SRow w B o) (hc : CnsOk (cnL l d)) (ho : CnsOk (cnL o e)) :
    Calls Try.prog 101 #[r.val I ic, .slice A l.length ca, .int .i64 d, .slice B o.length cb, .int .i64 e] w fun en w' => en = .returned (.bool (btwB r (cnL l d) (cnL o e))) ∧ Ext w w' := by
  obtain ⟨rc, rA, rB, rC, rE, ins⟩ := r
  by_cases hh : headP ⟨rc, rA, rB, rC, rE, ins⟩
  · obtain ⟨h1, h2, h3, h4, h5, h6⟩ := id hh
    have hl : ∀ k (hk : k < l.length), cAt (cnL l d) k = ⟨ptA l k, d⟩ := fun k hk => cnL_at hk
    have hm : ∀ k (hk : k < o.length), cAt (cnL o e) k = ⟨ptA o k, e⟩ := fun k hk => cnL_at hk
    have key := between_loops rc rA rB rC rE I ic A ca l d B cb o e w (btwB ⟨rc, rA, rB, rC, rE, ins⟩ (cnL l d) (cnL o e)) hA hB hc ho h2 h3 h4 h5 h6
      (fun g1 g2 => btwB_yes (btwP_iff.2 ⟨hh, fun k hk => by rw [cnL_len] at hk; rw [hl k hk]; exact g1 k hk, fun k hk => by rw [cnL_len] at hk; rw [hm k hk]; exact g2 k hk⟩))
      (fun k hk g => btwB_no fun h => g (by have := (btwP_iff.1 h).2.1 k (by rw [cnL_len]; exact hk); rw [hl k hk] at this; exact this))
      (fun k hk g => btwB_no fun h => g (by have := (btwP_iff.1 h).2.2 k (by rw [cnL_len]; exact hk); rw [hm k hk] at this; exact this))
    have h1 : ins.length = 0 := h1
    show Calls Try.prog 101 #[.agg #[.bool rc, vint rA, vint rB, vint rC, vint rE, .slice I ins.length ic], .slice A l.length ca, .int .i64 d, .slice B o.length cb, .int .i64 e] w _
    rw [h1]
    exact key
  · rw [← btwB_no fun h => hh (btwP_iff.1 h).1]
    exact between_head rc rA rB rC rE I ins.length ic A _ ca d B _ cb e w hq hh
end Go.Proofs.Yteilglljigjefaa
