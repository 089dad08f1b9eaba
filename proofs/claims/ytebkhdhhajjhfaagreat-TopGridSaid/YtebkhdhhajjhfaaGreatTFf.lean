/- Compose: the turns, one by one, till one is the one that is sought: a range over a function. -/
import Derived.RangeFuncNested
import Derived.RangeFuncBound
import Derived.RangeFuncCalls
import Derived.RangeFuncLeaves
import Derived.Shelf.Abstract
import Derived.Shelf.RegionOpen
import Derived.WalkKit
import Derived.OwnWalkIn
import Derived.TacticsInMore
import Derived.LoopNIn
import Derived.LoopIn
import Derived.Test.YtebkhdhhajjhfaaGreatT31
namespace Go.Proofs.YtebkhdhhajjhfaaGreat.Lt
open Go.RowKit Go.Shelf
attribute [local go_sem] Oper.semAt_some
/-- The cell that no turn but the first leaves. -/
def cN : Ce := ⟨1, 2, 3⟩
/-- A turn, and where it takes that cell. -/
def encW (k : Nat) : Array Value := #[.int .i64 k, (turnC cN k).val]
theorem ext_grows {a b : World} (h : Ext a b) : a.grownBy b none := ⟨h.os, h.tape, h.output, h.size, fun k hk _ => h.block k hk⟩
theorem cN_inj : ∀ i : Nat, i < 24 → ∀ j : Nat, j < 24 → turnC cN i = turnC cN j → i = j := by decide
theorem cN_comp : ∀ a : Nat, a < 4 → ∀ b : Nat, b < 4 → turnC (turnC cN a) b = turnC cN ((a + b) % 4) := by decide
theorem cN_near : nearP cN (-1000000) 1000000 := by unfold nearP cN; simp only; omega
set_option maxRecDepth 100000 in
set_option maxHeartbeats 2000000 in
theorem which_stops (n : Nat) (hn : 2 ≤ n) (Kp : World → World → Prop) (w : World) :
    SeqStopsK Fence.wide n Tryz.prog 137 #[] encW Kp (fun xs => xs = List.range 24) (fun pre => ∃ k, k < 24 ∧ pre = List.range (k + 1)) 24 w := fun l J Jx W _ hJ _ hY h0 => by
  refine callsIn_of_wp Tryz.func137 rfl trivial ?_ rfl
  simp only [Tryz.ntmps137, List.size_toArray, List.length_cons, List.length_nil, Nat.reduceAdd, Nat.reduceSub, Array.replicate_succ, Array.replicate_zero, List.push_toArray, List.append_toArray, List.nil_append, List.cons_append]
  gi_wp2
  gi_loopw [3] (fun i wr => ∃ k : Nat, k ≤ 24 ∧ i = .int .i64 k ∧ J (List.range k) wr) (fun i _ => 24 - (intOf i).toNat)
  case atStart => exact ⟨0, by omega, rfl, h0⟩
  case round =>
    obtain ⟨k, hk, rfl, hj⟩ := hrel
    by_cases hlt : k < 24
    · have hki : (k : Int) < 24 := by omega
      have ht := fun w' => turn_any cN k hlt w' cN_near
      have hy1 := fun w1 (he : Ext wr w1) => hY (List.range k) k w1 (hJ _ _ _ none hj (ext_grows he) (fun r e => by cases e)) (by simp; exact hlt)
      have Hy1 := Lib.hid hy1
      have hw1 : IntKind.i64.wrap ((k : Int) + 1) = ((k + 1 : Nat) : Int) := by rw [IntKind.wrap_i64]; omega
      have h1n : 1 ≤ n := by omega
      clear hy1 hY
      unfold encW at Hy1
      simp only [cN] at ht Hy1
      generalize turnC ⟨1, 2, 3⟩ k = c at *
      obtain ⟨cx, cy, cz⟩ := c
      have Ht := Lib.hid ht
      clear ht
      gi_wp2_with (refine ⟨trivial, ?_⟩; gi_at_call 59; refine (callsIn_wide.2 (Ht.out _)).mono ?_; rintro e w1 ⟨rfl, hx1⟩; obtain ⟨fn, tmps, assign, body, hy, hR⟩ := Hy1.out w1 hx1)
      refine hR.mono ?_
      rintro e W3 (⟨rfl, hJ3, _⟩ | ⟨rfl, hJx3⟩)
      · gi_wp2
        go_roundw
        case rel => exact ⟨k + 1, by omega, by go_num, by rw [List.range_succ]; exact hJ3⟩
        case measure => simp [intOf]; omega
      · gi_wp2
        refine bodyPost_ret (results_none rfl _ _ _) rfl ?_
        exact ⟨⟨_, rfl⟩, .inr ⟨List.range (k + 1), ⟨k, hlt, rfl⟩, by rw [List.range_succ]; exact hJx3⟩⟩
    · obtain rfl : k = 24 := by omega
      gi_wp2
      go_end0
      exact ⟨⟨_, rfl⟩, .inl ⟨_, rfl, hj⟩⟩
theorem eq_ce (x y : Ce) (w : World) : (binOp .eql 60 (.agg #[.int .i64 x.x, .int .i64 x.y, .int .i64 x.z]) (.agg #[.int .i64 y.x, .int .i64 y.y, .int .i64 y.z])).run Tryz.prog w = .ok (.bool (decide (x = y))) w := by
  cases x
  cases y
  simp [go_sem]
  repeat' split
  all_goals simp [*]
theorem which_any (w : World) : Calls Tryz.prog 94 #[] w fun e w' => e = .returned (.func (.func 137) #[] #[]) ∧ w' = w := by
  go_enter Tryz.func94, Tryz.ntmps94
  go_wp2
  go_ret
  exact ⟨rfl, rfl⟩
theorem whole_own {β : Type} (B : Nat) (cs : Array Value) (t : TypeId) : Go.Own (fun (_ : β) W => Whole W B cs t) := fun s X Y row hs hg hrow =>
  ⟨(hg.block B (Array.getElem?_eq_some_iff.1 hs.h).1 (fun e' => by obtain ⟨o, ho, hc⟩ := hrow B e'.symm; rw [hs.h] at ho; cases ho; cases hc)).trans hs.h⟩
set_option maxRecDepth 100000 in
set_option maxHeartbeats 2000000 in
theorem compose_any (a b : Nat) (ha : a < 4) (hb : b < 4) (w : World) : Calls Tryz.prog 62 #[.int .i64 a, .int .i64 b] w fun e w' => e = .returned (.int .i64 ((a + b) % 4 : Nat)) ∧ Ext w w' := by
  have h1 := fun w' => turn_any cN a (by omega) w' cN_near
  have h2 := fun w' => turn_any (turnC cN a) b (by omega) w' (turnC_near cN_near a)
  rw [cN_comp a ha b hb] at h2
  obtain ⟨m, hm⟩ : ∃ m, m = (a + b) % 4 := ⟨_, rfl⟩
  rw [← hm] at h2 ⊢
  have hm4 : m < 4 := by omega
  obtain ⟨c2, hc2⟩ : ∃ c2, c2 = turnC cN m := ⟨_, rfl⟩
  rw [← hc2] at h2
  have HC2 := Lib.hid hc2
  clear hm hc2 ha hb
  simp only [cN] at h1
  have e0 : turnC cN a = turnC ⟨1, 2, 3⟩ a := rfl
  rw [e0] at h2
  clear e0
  generalize turnC ⟨1, 2, 3⟩ a = c1 at *
  obtain ⟨px, py, pz⟩ := c1
  obtain ⟨qx, qy, qz⟩ := c2
  have Ht1 := Lib.hid h1
  have Ht2 := Lib.hid h2
  clear h1 h2
  have K4 := Lib.hid (show Whole (w.alloc (.cells #[.int .i64 0] 3)) w.heap.size #[.int .i64 0] 3 ∧ Ext w (w.alloc (.cells #[.int .i64 0] 3)) from ⟨Whole.new rfl, (Ext.refl _).alloc _⟩)
  refine (callsIn_wide (n := 4)).1 ?_
  refine callsIn_of_wp_marks Tryz.func62 rfl trivial ?_ rfl
  simp only [Tryz.ntmps62, List.size_toArray, List.length_cons, List.length_nil, Nat.reduceAdd, Nat.reduceSub, Array.replicate_succ, Array.replicate_zero, List.push_toArray, List.append_toArray, List.nil_append, List.cons_append]
  have hn1 : 1 ≤ 4 := by omega
  gi_wp2_with (first
    | (refine ⟨trivial, ?_⟩; gi_at_call 59; have hq := K5; clear hq; refine (callsIn_wide.2 (Ht2.out _)).mono ?_; rintro e w2 ⟨rfl, hx2⟩; have K6 := Lib.hid (And.intro (K5.out.1.ext hx2) (K5.out.2.trans hx2)); clear hx2)
    | (refine ⟨trivial, ?_⟩; gi_at_call 59; refine (callsIn_wide.2 (Ht1.out _)).mono ?_; rintro e w1 ⟨rfl, hx1⟩; have K5 := Lib.hid (And.intro (K4.out.1.ext hx1) (K4.out.2.trans hx1)); clear hx1)
    | (refine ⟨trivial, ?_⟩; gi_at_call 94; refine (callsIn_wide.2 (which_any _)).mono ?_; rintro e w3 ⟨rfl, rfl⟩))
  have K7 := Lib.hid (show Whole (w2.alloc (.cells #[.int .i64 qx, .int .i64 qy, .int .i64 qz] 60)) w2.heap.size #[.int .i64 qx, .int .i64 qy, .int .i64 qz] 60 from Whole.new rfl)
  have K8 := Lib.hid (And.intro (K6.out.1.ext ((Ext.refl w2).alloc (.cells #[.int .i64 qx, .int .i64 qy, .int .i64 qz] 60))) (K6.out.2.alloc (.cells #[.int .i64 qx, .int .i64 qy, .int .i64 qz] 60)))
  have hlt : w.heap.size < w2.heap.size := by
    have h := (Array.getElem?_eq_some_iff.1 K6.out.1.h).1
    exact h
  have hs0 : (w2.alloc (.cells #[.int .i64 qx, .int .i64 qy, .int .i64 qz] 60)).heap.size = w2.heap.size + 1 := by simp
  generalize (w2.alloc (.cells #[.int .i64 qx, .int .i64 qy, .int .i64 qz] 60)) = W0 at *
  obtain ⟨g5, hg5⟩ : ∃ g5, g5 = w2.heap.size := ⟨_, rfl⟩
  rw [← hg5] at hs0 hlt K7 ⊢
  clear K4 K5 K6 hg5 Ht1 Ht2
  refine wpIn_rangeFunc_ownH rfl (by omega) (gf := 137) (lb := #[]) rfl trivial (enters_of Tryz.func137 (by kernel_rfl) rfl)
    (which_stops _ (by omega) (Below w.heap.size) W0) belowK_t (belowK_b (by omega)) (Below.refl _ _) (fun _ => rfl)
    (fun pre W => (((∀ x ∈ pre, turnC cN x ≠ ⟨qx, qy, qz⟩) ∧ Whole W w.heap.size #[.int .i64 0] 3) ∧ Whole W g5 #[.int .i64 qx, .int .i64 qy, .int .i64 qz] 60) ∧ Below w.heap.size w W)
    (fun c pre W => (c = .ret ∧ ∃ pre' x, pre = pre' ++ [x] ∧ (∀ y ∈ pre', turnC cN y ≠ ⟨qx, qy, qz⟩) ∧ turnC cN x = ⟨qx, qy, qz⟩ ∧ Whole W w.heap.size #[.int .i64 (x : Nat)] 3) ∧ Below w.heap.size w W)
    (OwnFrom.and (OwnFrom.and (OwnFrom.and (ownFrom_pure _ _) (Go.Own.from (whole_own _ _ _) _)) (Go.Own.from (whole_own _ _ _) _)) (ownFrom_below (Nat.le_refl _) (by omega)))
    (fun c => OwnFrom.and (fun s X Y row hs hg hr => by obtain ⟨hc, pre', x, e1, e2, e3, e4⟩ := hs; exact ⟨hc, pre', x, e1, e2, e3, whole_own (β := Unit) _ _ _ () X Y row e4 hg (fun r e => (hr r e).2)⟩) (ownFrom_below (Nat.le_refl _) (by omega)))
    ⟨⟨⟨by simp, K8.out.1⟩, K7.out⟩, K8.out.2⟩
    (fun x a' W => ∃ Bx, g5 < Bx ∧ Whole W Bx #[.int .i64 (turnC cN x).x, .int .i64 (turnC cN x).y, .int .i64 (turnC cN x).z] 60 ∧ a' = { tmps := #[.int .i64 a, .int .i64 b, undef, undef, .pointer (some ⟨w.heap.size, 0, none⟩), .pointer (some ⟨g5, 0, none⟩), .int .i64 (x : Nat), .pointer (some ⟨Bx, 0, none⟩), .agg #[.int .i64 1, .int .i64 2, .int .i64 3], .int .i64 a, .agg #[.int .i64 px, .int .i64 py, .int .i64 pz], .int .i64 b, .agg #[.int .i64 qx, .int .i64 qy, .int .i64 qz], .func (.func 137) #[] #[], .int .i64 (x : Nat), .agg #[.int .i64 (turnC cN x).x, .int .i64 (turnC cN x).y, .int .i64 (turnC cN x).z], undef, undef, undef, undef], defers := [] })
    (fun x a' _ X Y row hs hg hr => by obtain ⟨Bx, e1, e2, e3⟩ := hs; exact ⟨Bx, e1, whole_own (β := Unit) _ _ _ () X Y row e2 hg (fun r e => (hr r e).2), e3⟩)
    ?assign ?body ?done ?stop
  case assign =>
    rintro l pre x W K ⟨⟨⟨hp, k4⟩, k5⟩, hB⟩ hK
    have hlW : g5 < W.heap.size := (Array.getElem?_eq_some_iff.1 k5.h).1
    have HK := Lib.hid hK
    have KK := Lib.hid (And.intro hp (And.intro k4 (And.intro k5 hB)))
    clear hK hp k4 k5 hB
    unfold encW
    gi_wp2
    exact HK.out _ _ ((KeepsOthers.alloc _ _).from _) ((Below.refl _ W).alloc (by omega) _) ⟨⟨⟨KK.out.1, KK.out.2.1.ext ((Ext.refl _).alloc _)⟩, KK.out.2.2.1.ext ((Ext.refl _).alloc _)⟩, KK.out.2.2.2.alloc (by omega) _⟩ ⟨W.heap.size, hlW, Whole.new rfl, rfl⟩
  case body =>
    rintro l pre x a' W _ _ ⟨⟨⟨hp, k4⟩, k5⟩, hB⟩ ⟨Bx, hBx, kX, rfl⟩ _
    have c0 := kX.cell 0 rfl
    have c1 := kX.cell 1 rfl
    have c2 := kX.cell 2 rfl
    have d0 := k5.cell 0 rfl
    have d1 := k5.cell 1 rfl
    have d2 := k5.cell 2 rfl
    have r0 := k4.cell 0 rfl
    have f0 := k4.free 0
    have KK := Lib.hid (And.intro hp (And.intro k4 (And.intro k5 hB)))
    have k9 := Lib.hid (k4.setCell 0 (.int .i64 (x : Nat)))
    clear hp k4 k5 hB kX
    have hq := eq_ce (turnC cN x) ⟨qx, qy, qz⟩
    by_cases he : turnC cN x = ⟨qx, qy, qz⟩
    · rw [decide_eq_true he] at hq
      have He := Lib.hid he
      clear he
      obtain ⟨⟨tx, ty, tz⟩, htc⟩ : ∃ tc, turnC cN x = tc := ⟨_, rfl⟩
      rw [htc] at c0 c1 c2 hq
      clear htc
      gi_wp2
      exact ⟨(KeepsOthers.setCell _ _ _).from _, ⟨rfl, pre, x, rfl, KK.out.1, He.out, k9.out⟩, KK.out.2.2.2.setCell (Nat.le_refl _) _⟩
    · rw [decide_eq_false he] at hq
      have He := Lib.hid he
      clear he
      obtain ⟨⟨tx, ty, tz⟩, htc⟩ : ∃ tc, turnC cN x = tc := ⟨_, rfl⟩
      rw [htc] at c0 c1 c2 hq
      clear htc
      gi_wp2
      refine ⟨KeepsFrom.refl _ _, Below.refl _ _, ⟨⟨fun y hy => ?_, KK.out.2.1⟩, KK.out.2.2.1⟩, KK.out.2.2.2⟩
      rcases List.mem_append.1 hy with h | h
      · exact KK.out.1 y h
      · rw [List.mem_singleton.1 h]
        exact He.out
  case done =>
    rintro D xs W hD rfl ⟨⟨⟨hp, _⟩, _⟩, _⟩ hK
    exact absurd HC2.out.symm (hp m (List.mem_range.2 (by omega)))
  case stop =>
    rintro D c pre W hD ⟨k, hk, rfl⟩ ⟨⟨rfl, pre', x, e1, e2, e3, e4⟩, hB⟩ hK
    rw [List.range_succ] at e1
    obtain ⟨rfl, hx⟩ := List.append_inj' e1 rfl
    obtain rfl : k = x := by simpa using hx
    obtain rfl : k = m := cN_inj k hk m (by omega) (e3.trans HC2.out)
    gi_wp2
    refine ⟨by simp, .inl ⟨_, _, rfl, run_takeDeferred hK, ?_⟩⟩
    have hc5 := cell_kept (e4.cell 0 rfl) (grownBy_putObj' _ D (.deferred none)) (fun r e => by cases e; exact ⟨_, hK, rfl⟩)
    refine ⟨.int .i64 (k : Nat), ?_, rfl, ?_⟩
    · simp [results, Tryz.results62, go_sem, hc5]
    · exact hB.trans (belowK_b (w := w) (Nat.le_refl _) W D _ _ (by omega) hK rfl rfl)
end Go.Proofs.YtebkhdhhajjhfaaGreat.Lt
