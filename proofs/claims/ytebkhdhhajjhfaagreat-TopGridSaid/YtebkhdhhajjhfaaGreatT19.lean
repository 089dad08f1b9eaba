/- Sorting angles that are sorted. -/
import Derived.Test.YtebkhdhhajjhfaaGreatT18
namespace Go.Proofs.YtebkhdhhajjhfaaGreat
open Go.RowKit
theorem ints_three {w : World} {g : Nat} {x y z : Int} (hb : Blk w g [vint x, vint y, vint z]) : Ints w (some ⟨g, 0, none⟩) [x, y, z] := fun k hk => by
  refine ⟨_, rfl, ?_⟩
  rw [add_zero']
  rcases (by simp at hk; omega : k = 0 ∨ k = 1 ∨ k = 2) with rfl | rfl | rfl
  · exact hb.c 0 _ rfl
  · exact hb.c 1 _ rfl
  · exact hb.c 2 _ rfl
abbrev turnL (t : Int × Int × Int) : List Int := [t.1, t.2.1, t.2.2]
set_option maxHeartbeats 800000 in
theorem cmp_turns (s t : Int × Int × Int) (w : World) : Calls Tryz.prog 135 #[tval s, tval t] w fun e w' => e = .returned (.int .i64 (cmpL (turnL s) (turnL t))) ∧ Ext w w' := by
  obtain ⟨a, b, c⟩ := s
  obtain ⟨x, y, z⟩ := t
  have hk1 : Blk ((w.alloc (.cells #[vint a, vint b, vint c] 197)).alloc (.cells #[vint x, vint y, vint z] 197)) w.heap.size [vint a, vint b, vint c] := (Blk.new _ _).ext ((Ext.refl _).alloc _)
  have hk2 : Blk ((w.alloc (.cells #[vint a, vint b, vint c] 197)).alloc (.cells #[vint x, vint y, vint z] 197)) (w.heap.size + 1) [vint x, vint y, vint z] := Blk.new' (cs := #[vint x, vint y, vint z]) (by simp)
  have cc := fun (w' : World) (h : Ext ((w.alloc (.cells #[vint a, vint b, vint c] 197)).alloc (.cells #[vint x, vint y, vint z] 197)) w') => compare_any (some ⟨w.heap.size, 0, none⟩) (some ⟨w.heap.size + 1, 0, none⟩) 3 3 [a, b, c] [x, y, z] w' (ints_three (hk1.ext h)) (ints_three (hk2.ext h)) rfl (by simp)
  have Cc := Lib.hid cc
  clear cc hk1 hk2
  have s1 : ∀ (g : Nat) (w : World), (Instr.sliceAt 197 (.pointer (some ⟨g, 0, none⟩)) none none none).run Tryz.prog w = .ok (.slice (some ⟨g, 0, none⟩) 3 3) w := fun _ _ => by kernel_rfl
  go_enter Tryz.func135, Tryz.ntmps135
  go_wp2
  refine wp_region_calm 4 (fun _ _ v _ => v = .int .i64 (cmpL [a, b, c] [x, y, z])) (fun _ _ _ _ _ _ h => h) (by kernel_rfl) (by kernel_rfl) ?_
  simp only [List.take_succ_cons, List.take_zero, List.drop_succ_cons, List.drop_zero]
  refine calm_quiet calm_mono_final 2 (by kernel_rfl) ?_
  simp only [List.take_succ_cons, List.take_zero, List.drop_succ_cons, List.drop_zero]
  repeat (go_big_quiet_step (fail))
  refine wpQuiet_nil ?_
  refine calm_call calm_mono_final 76 #[.slice (some ⟨w.heap.size, 0, none⟩) 3 3, .slice (some ⟨w.heap.size + 1, 0, none⟩) 3 3] rfl (fun w => ?_) (fun w he hF => ?_) ?_
  · go_simp
  · exact (Cc.out w he).mono fun e w'' ⟨he', hx⟩ => ⟨_, he', by rw [hx]; exact Ext.refl _, rfl⟩
  rintro _ _ _ rfl
  simp only [Act.put, List.setIfInBounds_toArray, List.set_cons_succ, List.set_cons_zero]
  refine calm_quiet calm_mono_final 1 (by kernel_rfl) ?_
  simp only [List.take_succ_cons, List.take_zero, List.drop_succ_cons, List.drop_zero]
  repeat (go_big_quiet_step (fail))
  refine wpQuiet_nil ?_
  refine calm_nil fun w3 he3 _ => ?_
  go_wp2
  go_ret
  exact ⟨rfl, Ext.trans (by simp) he3⟩

/-- Angles that are in order. -/
def sortedT (l : List (Int × Int × Int)) : Prop := ∀ k, 0 < k → k < l.length → 0 ≤ cmpL (turnL (tAt l k)) (turnL (tAt l (k - 1)))
set_option maxHeartbeats 2000000 in
theorem insort_turns (A : Option Addr) (c : Nat) (l : List (Int × Int × Int)) (w : World) (hA : TRow w A l) (hl : l.length ≤ 12) (hs : sortedT l) :
    Calls Tryz.prog 184 #[.slice A l.length c, .int .i64 0, .int .i64 l.length, .func (.func 135) #[] #[]] w fun e w' => e = .returned (.tuple #[]) ∧ Ext w w' := by
  have ha := fun k (hk : k < l.length) => hA.at_ hk
  have hc := fun (s t : Int × Int × Int) (w' : World) => cmp_turns s t w'
  have Ha := Lib.hid ha
  have Hc := Lib.hid hc
  have Hs := Lib.hid hs
  clear ha hc hs hA
  obtain ⟨n, hn⟩ : ∃ n, n = l.length := ⟨_, rfl⟩
  unfold sortedT at Hs
  rw [← hn] at hl Ha Hs ⊢
  have Hn := Lib.hid hn
  clear hn
  go_enter Tryz.func184, Tryz.ntmps184
  go_wp2
  go_loopw [8] (fun i wr => ∃ k : Nat, 1 ≤ k ∧ (k ≤ n ∨ k = 1) ∧ i = .int .i64 k ∧ Ext w wr) (fun i _ => n + 1 - (intOf i).toNat)
  case atStart => exact ⟨1, by omega, .inr rfl, rfl, Ext.refl _⟩
  case round =>
    obtain ⟨k, hk1, hk2, rfl, hex⟩ := hrel
    by_cases hlt : k < n
    · obtain ⟨ad, rfl, c0, c1, c2⟩ := Ha.out k hlt
      obtain ⟨ad', had, d0, d1, d2⟩ := Ha.out (k - 1) (by omega)
      cases had
      have c0 : ∀ w', Ext wr w' → _ := fun w' he => c0 w' (hex.trans he)
      have c1 : ∀ w', Ext wr w' → _ := fun w' he => c1 w' (hex.trans he)
      have c2 : ∀ w', Ext wr w' → _ := fun w' he => c2 w' (hex.trans he)
      have d0 : ∀ w', Ext wr w' → _ := fun w' he => d0 w' (hex.trans he)
      have d1 : ∀ w', Ext wr w' → _ := fun w' he => d1 w' (hex.trans he)
      have d2 : ∀ w', Ext wr w' → _ := fun w' he => d2 w' (hex.trans he)
      have hcmp := Hs.out k (by omega) hlt
      have hcc := fun w' => Hc.out (tAt l k) (tAt l (k - 1)) w'
      have Hcc := Lib.hid hcc
      clear hcc Hc Hs Ha
      generalize tAt l k = s at *
      generalize tAt l (k - 1) = t at *
      generalize cmpL (turnL s) (turnL t) = cm at *
      obtain ⟨s0, s1, s2⟩ := s
      obtain ⟨t0, t1, t2⟩ := t
      have e1 : IntKind.i64.wrap ((k : Int) - 1) = ((k - 1 : Nat) : Int) := by rw [IntKind.wrap_i64]; omega
      have b1 : ((k - 1 : Nat) : Int) < (n : Int) := by omega
      have b2 : (k : Int) < (n : Int) := by omega
      have b3 : (0 : Int) < (k : Int) := by omega
      have b4 : ¬ cm < 0 := by omega
      have b5 : 0 < k := by omega
      go_wp2
      obtain ⟨wo, rfl⟩ : ∃ wo : World, wo = wr := ⟨_, rfl⟩
      go_loopw [9] (fun j wr => j = .int .i64 k ∧ Ext wo wr) (fun _ _ => 0)
      case atStart => exact ⟨rfl, Ext.refl _⟩
      case round =>
        obtain ⟨rfl, hex'⟩ := hrel
        have c0 : ∀ w', Ext wr w' → _ := fun w' he => c0 w' (hex'.trans he)
        have c1 : ∀ w', Ext wr w' → _ := fun w' he => c1 w' (hex'.trans he)
        have c2 : ∀ w', Ext wr w' → _ := fun w' he => c2 w' (hex'.trans he)
        have d0 : ∀ w', Ext wr w' → _ := fun w' he => d0 w' (hex'.trans he)
        have d1 : ∀ w', Ext wr w' → _ := fun w' he => d1 w' (hex'.trans he)
        have d2 : ∀ w', Ext wr w' → _ := fun w' he => d2 w' (hex'.trans he)
        go_wp2
        refine wp_region_calm 17 (fun _ _ v _ => v = .int .i64 cm) (fun _ _ _ _ _ _ h => h) (by kernel_rfl) (by kernel_rfl) ?_
        simp only [List.take_succ_cons, List.take_zero, List.drop_succ_cons, List.drop_zero]
        refine calm_quiet calm_mono_final 14 (by kernel_rfl) ?_
        simp only [List.take_succ_cons, List.take_zero, List.drop_succ_cons, List.drop_zero]
        repeat (go_big_quiet_step (fail))
        refine wpQuiet_nil ?_
        refine calm_call calm_mono_final 135 #[tval (s0, s1, s2), tval (t0, t1, t2)] rfl (fun w => ?_) (fun w he hF => ?_) ?_
        · go_simp
        · exact (Hcc.out w).mono fun e w'' ⟨he', hx⟩ => ⟨_, he', hx, rfl⟩
        rintro _ _ _ rfl
        simp only [Act.put, List.setIfInBounds_toArray, List.set_cons_succ, List.set_cons_zero]
        refine calm_quiet calm_mono_final 2 (by kernel_rfl) ?_
        simp only [List.take_succ_cons, List.take_zero, List.drop_succ_cons, List.drop_zero]
        repeat (go_big_quiet_step (fail))
        refine wpQuiet_nil ?_
        refine calm_nil fun w3 he3 _ => ?_
        go_wp2
        go_roundw
        case rel => exact ⟨k + 1, by omega, by omega, by go_num, hex.trans (hex'.trans he3)⟩
        case measure => simp [intOf]; omega
    · go_wp2
      go_end0
      exact ⟨rfl, hex⟩
end Go.Proofs.YtebkhdhhajjhfaaGreat

/- The number of bits of a small number. -/
namespace Go.Proofs.YtebkhdhhajjhfaaGreat
open Go.RowKit
set_option maxRecDepth 100000 in
set_option maxHeartbeats 4000000 in
theorem len64_small (x : Nat) (w : World) (hx : x ≤ 12) :
    Calls Tryz.prog 156 #[.int .u64 x] w fun e w' => ∃ L : Int, e = .returned (.int .i64 L) ∧ w = w' := by
  rcases (by omega : x = 0 ∨ x = 1 ∨ x = 2 ∨ x = 3 ∨ x = 4 ∨ x = 5 ∨ x = 6 ∨ x = 7 ∨ x = 8 ∨ x = 9 ∨ x = 10 ∨ x = 11 ∨ x = 12) with rfl | rfl | rfl | rfl | rfl | rfl | rfl | rfl | rfl | rfl | rfl | rfl | rfl
  all_goals
    go_enter Tryz.func156, Tryz.ntmps156
    go_wp2
    go_ret
    exact ⟨_, rfl, rfl⟩

set_option maxRecDepth 100000 in
theorem len_small (x : Nat) (w : World) (hx : x ≤ 12) : Calls Tryz.prog 108 #[.int .u64 x] w fun e w' => ∃ L : Int, e = .returned (.int .i64 L) ∧ w = w' := by
  have hc := fun w' => len64_small x w' hx
  have Hc := Lib.hid hc
  clear hc
  go_enter Tryz.func108, Tryz.ntmps108
  go_wp2_with (go_at_call 156; refine (Hc.out _).mono ?_; rintro e w' ⟨L, rfl, rfl⟩)
  go_ret
  exact ⟨_, rfl, rfl⟩
set_option maxRecDepth 100000 in
set_option maxHeartbeats 2000000 in
theorem pdq_turns (A : Option Addr) (c : Nat) (l : List (Int × Int × Int)) (L : Int) (w : World) (hA : TRow w A l) (hl : l.length ≤ 12) (hs : sortedT l) :
    Calls Tryz.prog 165 #[.slice A l.length c, .int .i64 0, .int .i64 l.length, .int .i64 L, .func (.func 135) #[] #[]] w fun e w' => e = .returned (.tuple #[]) ∧ Ext w w' := by
  have hc := insort_turns A c l w hA hl hs
  have Hc := Lib.hid hc
  clear hc hs hA
  generalize l.length = n at *
  go_enter Tryz.func165, Tryz.ntmps165
  go_wp2
  go_loopw [1, 2] (fun a b wr => a = .int .i64 0 ∧ b = .int .i64 n ∧ wr = w) (fun _ _ _ => 0)
  case atStart => exact ⟨rfl, rfl, rfl⟩
  case round =>
    obtain ⟨rfl, rfl, rfl⟩ := hrel
    go_wp2_with (go_at_call 184; refine Hc.out.mono ?_; rintro e w' ⟨rfl, hx⟩)
    (try simp only [Exit.inBlock, Exit.then])
    refine bodyPost_ret (results_none rfl _ _ _) rfl ?_
    exact ⟨rfl, hx⟩
set_option maxRecDepth 100000 in
set_option maxHeartbeats 2000000 in
theorem sort_turns (A : Option Addr) (c : Nat) (l : List (Int × Int × Int)) (w : World) (hA : TRow w A l) (hl : l.length ≤ 12) (hs : sortedT l) :
    Calls Tryz.prog 134 #[.slice A l.length c, .func (.func 135) #[] #[]] w fun e w' => e = .returned (.tuple #[]) ∧ Ext w w' := by
  have hc := fun L => pdq_turns A c l L w hA hl hs
  have hn := fun w' => len_small l.length w' hl
  have Hc := Lib.hid hc
  have Hn := Lib.hid hn
  clear hc hs hA hn
  generalize l.length = n at *
  go_enter Tryz.func134, Tryz.ntmps134
  go_wp2_with (first | (go_at_call 108; refine (Hn.out _).mono ?_; rintro e w' ⟨L, rfl, rfl⟩) | (go_at_call 165; refine (Hc.out _).mono ?_; rintro e w' ⟨rfl, hx⟩))
  go_end0
  exact ⟨rfl, hx⟩
end Go.Proofs.YtebkhdhhajjhfaaGreat
