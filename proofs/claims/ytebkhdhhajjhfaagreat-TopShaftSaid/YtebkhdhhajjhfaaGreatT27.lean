/- Which proofs are right: a line. -/
import Derived.Test.YtebkhdhhajjhfaaGreatT25
namespace Go.Proofs.YtebkhdhhajjhfaaGreat
open Go.RowKit
theorem zero_or {a b : Int} (h : ¬ (a = 0 ∧ b = 0)) : (a == 0) = true ∧ (b == 0) = false ∨ (a == 0) = false := by
  by_cases h1 : a = 0
  · exact .inl ⟨by simpa using h1, by simpa using fun h' => h ⟨h1, h'⟩⟩
  · exact .inr (by simpa using h1)
set_option maxRecDepth 100000 in
set_option maxHeartbeats 8000000 in
theorem right_line (rA rB rC rE : Int) (I : Option Addr) (ic : Nat) (A : Option Addr) (ca : Nat) (a : List Cn) (B : Option Addr) (cb : Nat) (b : List Cn) (w : World) (hlA : CRow w A a) (hlB : CRow w B b) (hc : CnsOk a) (ho : CnsOk b) (R : Bool)
    (hA : -10000000 ≤ rA ∧ rA ≤ 10000000) (hB : -10000000 ≤ rB ∧ rB ≤ 10000000) (h0 : ¬ (rA = 0 ∧ rB = 0)) (hC : -100000000000000 ≤ rC ∧ rC ≤ 100000000000000) (hE : 1 ≤ rE ∧ rE ≤ 20000)
    (hR : R = true ↔ (¬ ∃ k, k < a.length ∧ 0 < ovr rA rB rC rE (cAt a k)) ∧ ¬ ∃ k, k < b.length ∧ ovr rA rB rC rE (cAt b k) < 0) :
    Calls Tryz.prog 79 #[.agg #[.bool true, vint rA, vint rB, vint rC, vint rE, .slice I 0 ic], .slice A a.length ca, .slice B b.length cb] w fun en w' => en = .returned (.bool R) ∧ Ext w w' := by
  have kb : Blk (w.alloc (.cells #[.bool true, vint rA, vint rB, vint rC, vint rE, .slice I 0 ic] 111)) w.heap.size [.bool true, vint rA, vint rB, vint rC, vint rE, .slice I 0 ic] := Blk.new _ _
  have hx0 : Ext w (w.alloc (.cells #[.bool true, vint rA, vint rB, vint rC, vint rE, .slice I 0 ic] 111)) := (Ext.refl _).alloc _
  have hli : LineIn (w.alloc (.cells #[.bool true, vint rA, vint rB, vint rC, vint rE, .slice I 0 ic] 111)) w.heap.size rA rB rC rE := ⟨kb.at_ 1 rfl, kb.at_ 2 rfl, kb.at_ 3 rfl, kb.at_ 4 rfl, hA, hB, hC, hE⟩
  have k7 : Whole ((w.alloc (.cells #[.bool true, vint rA, vint rB, vint rC, vint rE, .slice I 0 ic] 111)).alloc (.cells #[.func (.func 112) #[] #[.pointer (some ⟨w.heap.size, 0, none⟩)]] 224)) (w.heap.size + 1) #[.func (.func 112) #[] #[.pointer (some ⟨w.heap.size, 0, none⟩)]] 224 := Whole.new (by simp)
  have hx1 : Ext (w.alloc (.cells #[.bool true, vint rA, vint rB, vint rC, vint rE, .slice I 0 ic] 111)) ((w.alloc (.cells #[.bool true, vint rA, vint rB, vint rC, vint rE, .slice I 0 ic] 111)).alloc (.cells #[.func (.func 112) #[] #[.pointer (some ⟨w.heap.size, 0, none⟩)]] 224)) := (Ext.refl _).alloc _
  have hov : OverIn ((w.alloc (.cells #[.bool true, vint rA, vint rB, vint rC, vint rE, .slice I 0 ic] 111)).alloc (.cells #[.func (.func 112) #[] #[.pointer (some ⟨w.heap.size, 0, none⟩)]] 224)) (w.heap.size + 1) w.heap.size rA rB rC rE := ⟨fun w' he => (Whole.ext k7 he).cell 0 rfl, hli.ext hx1⟩
  obtain ⟨S1, hS1, C1⟩ := contains2_any _ _ _ _ _ _ A ca a _ hov (hlA.ext (hx0.trans hx1)) hc
  obtain ⟨S2, hS2, C2⟩ := contains3_any _ _ _ _ _ _ B cb b _ hov (hlB.ext (hx0.trans hx1)) ho
  have hR' : R = (!S1 && !S2) := by
    rw [Bool.eq_iff_iff, hR, ← hS1, ← hS2]
    clear C1 C2 hR hS1 hS2
    cases S1 <;> cases S2 <;> simp
  have d1 : decide ((0 : Int) < ((0 : Nat) : Int)) = false := by simp
  have d2 : decide (rA < -10000000) = false := by simp; omega
  have d3 : decide (10000000 < rA) = false := by simp; omega
  have d2' : decide (rB < -10000000) = false := by simp; omega
  have d3' : decide (10000000 < rB) = false := by simp; omega
  have d45 := zero_or h0
  have d6 : decide (rC < -100000000000000) = false := by simp; omega
  have d7 : decide (100000000000000 < rC) = false := by simp; omega
  have d8 : decide (rE < 1) = false := by simp; omega
  have d9 : decide (20000 < rE) = false := by simp; omega
  have p1 : -10000000 ≤ rA := hA.1
  have p2 : rA ≤ 10000000 := hA.2
  have p3 : -10000000 ≤ rB := hB.1
  have p4 : rB ≤ 10000000 := hB.2
  have p5 : ¬ rA < -10000000 := by omega
  have p6 : ¬ rB < -10000000 := by omega
  have p7 : ¬ 10000000 < rA := by omega
  have p8 : ¬ 10000000 < rB := by omega
  have HC1 := Lib.hid C1
  have HC2 := Lib.hid C2
  have HR := Lib.hid hR'
  have Hx := Lib.hid (hx0.trans hx1)
  have hsf : ∀ (a : Addr) (f : Fn) (x y : Array Value) (w : World), (store a (.func f x y)).run Tryz.prog w = stored Tryz.prog w a (.func f x y) .plain := fun a f x y w => run_store Tryz.prog w a _ .plain rfl
  clear kb hli k7 hov C1 C2 hR hR' hS1 hS2 hlA hlB hc ho hA hB h0 hC hE hx0 hx1
  generalize a.length = n at *
  generalize b.length = m at *
  rcases d45 with ⟨d4, d5⟩ | d4
  all_goals
    cases S1
    all_goals
      go_enter Tryz.func79, Tryz.ntmps79
      go_wp2_with (first
        | (go_at_call 113; ((with_reducible refine (HC1.out _ (Ext.refl _)).mono ?_); rintro e w5 ⟨rfl, hx5⟩))
        | (go_at_call 113; ((with_reducible refine (HC2.out _ hx5).mono ?_); rintro e w6 ⟨rfl, hx6⟩)))
      all_goals go_ret
      all_goals first
        | exact ⟨ret_b (by rw [HR.out]; simp), (Hx.out.trans hx5).trans hx6⟩
        | exact ⟨ret_b (by rw [HR.out]; simp), Hx.out.trans hx5⟩
end Go.Proofs.YtebkhdhhajjhfaaGreat

/- Which proofs are right: no line. -/
namespace Go.Proofs.YtebkhdhhajjhfaaGreat
open Go.RowKit
set_option maxRecDepth 100000 in
set_option maxHeartbeats 16000000 in
theorem right_none (rA rB rC rE : Int) (I : Option Addr) (q ic : Nat) (A : Option Addr) (n ca : Nat) (B : Option Addr) (m cb : Nat) (w : World) (hn : n ≤ 8) (hm : m ≤ 8)
    (hbad : ¬ ((rA = 0 ∧ rB = 0 ∧ rC = 0 ∧ rE = 0) ∧ q = n + m)) :
    Calls Tryz.prog 79 #[.agg #[.bool false, vint rA, vint rB, vint rC, vint rE, .slice I q ic], .slice A n ca, .slice B m cb] w fun en w' => en = .returned (.bool false) ∧ Ext w w' := by
  have hx0 : Ext w (w.alloc (.cells #[.bool false, vint rA, vint rB, vint rC, vint rE, .slice I q ic] 111)) := (Ext.refl _).alloc _
  by_cases c0 : rA = 0
  · subst c0
    by_cases c1 : rB = 0
    · subst c1
      by_cases c2 : rC = 0
      · subst c2
        by_cases c3 : rE = 0
        · subst c3
          have d5 : ((q : Int) != (n : Int) + (m : Int)) = true := by
            have : ¬ q = n + m := fun h => hbad ⟨⟨rfl, rfl, rfl, rfl⟩, h⟩
            simp; omega
          clear hbad
          go_enter Tryz.func79, Tryz.ntmps79
          go_wp2
          go_ret
          exact ⟨rfl, hx0⟩
        · have d4 : (rE != 0) = true := by simpa using c3
          clear hbad
          go_enter Tryz.func79, Tryz.ntmps79
          go_wp2
          go_ret
          exact ⟨rfl, hx0⟩
      · have d3 : (rC != 0) = true := by simpa using c2
        clear hbad
        go_enter Tryz.func79, Tryz.ntmps79
        go_wp2
        go_ret
        exact ⟨rfl, hx0⟩
    · have d2 : (rB != 0) = true := by simpa using c1
      clear hbad
      go_enter Tryz.func79, Tryz.ntmps79
      go_wp2
      go_ret
      exact ⟨rfl, hx0⟩
  · have d1 : (rA != 0) = true := by simpa using c0
    clear hbad
    go_enter Tryz.func79, Tryz.ntmps79
    go_wp2
    go_ret
    exact ⟨rfl, hx0⟩
end Go.Proofs.YtebkhdhhajjhfaaGreat
