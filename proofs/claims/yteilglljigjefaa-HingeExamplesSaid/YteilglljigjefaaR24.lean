/- Corners inside: by the reference. -/
import Derived.Test.YteilglljigjefaaR23
namespace Go.Proofs.Yteilglljigjefaa
open Go.RowKit
set_option maxRecDepth 100000 in
set_option maxHeartbeats 16000000 in
theorem rightr_left (ad : Addr) (ic : Nat) (ins : List Int) (A : Option Addr) (np c : Nat) (B : Option Addr) (nh d i k : Nat) (L1 L2 : List Sp) (e1 e2 : Int) (w : World) (h1 : CrIn A np c B nh d i L1 L1.length e1 w) (h2 : CrIn A np c B nh d k L2 L2.length e2 w) (R : Bool) (hI : Ints w (some ad) ins) (hl : ins.length = L1.length + L2.length) (hc : CnsOk (cnL L1 e1)) (ho : CnsOk (cnL L2 e2))
    (hyes : (∀ n, n < L1.length → inAt (cnL L1 e1) (cnL L2 e2) n (getI ins n)) → (∀ n, n < L2.length → inAt (cnL L2 e2) (cnL L1 e1) n (getI ins (L1.length + n))) → true = R)
    (hno1 : ∀ n, n < L1.length → ¬ inAt (cnL L1 e1) (cnL L2 e2) n (getI ins n) → false = R) (hno2 : ∀ n, n < L2.length → ¬ inAt (cnL L2 e2) (cnL L1 e1) n (getI ins (L1.length + n)) → false = R) :
    Calls Try.prog 77 #[.agg #[.slice A np c, .slice B nh d], .int .i64 i, .int .i64 k, .agg #[.bool false, .int .i64 0, .int .i64 0, .int .i64 0, .int .i64 0, .slice (some ad) ins.length ic]] w fun en w' => en = .returned (.bool R) ∧ Ext w w' := by
  have hsd1 : ∀ i, i < L1.length → ∀ j, j < L2.length → ∀ w' : World, Calls Try.prog 102 #[(ptA L1 i).val, (ptA L1 ((i + 1) % L1.length)).val, .int .i64 e1, (ptA L2 j).val, .int .i64 e2] w' fun en w'' => en = .returned (.int .i64 (eside (cnL L1 e1) i (cAt (cnL L2 e2) j))) ∧ Ext w' w'' := fun i hi j hj w' => by
    have h1 := hc.edge (i := i) (by rw [cnL_len]; exact hi)
    have h2 := ho.at_ (k := j) (by rw [cnL_len]; exact hj)
    rw [cnL_len, cnL_at hi, cnL_at (Nat.mod_lt _ (by omega))] at h1
    rw [cnL_at hj] at h2
    rw [eside_cnL hi hj]
    exact beside_any _ _ e1 _ e2 w' h1 h2
  have hsd2 : ∀ i, i < L2.length → ∀ j, j < L1.length → ∀ w' : World, Calls Try.prog 102 #[(ptA L2 i).val, (ptA L2 ((i + 1) % L2.length)).val, .int .i64 e2, (ptA L1 j).val, .int .i64 e1] w' fun en w'' => en = .returned (.int .i64 (eside (cnL L2 e2) i (cAt (cnL L1 e1) j))) ∧ Ext w' w'' := fun i hi j hj w' => by
    have h1 := ho.edge (i := i) (by rw [cnL_len]; exact hi)
    have h2 := hc.at_ (k := j) (by rw [cnL_len]; exact hj)
    rw [cnL_len, cnL_at hi, cnL_at (Nat.mod_lt _ (by omega))] at h1
    rw [cnL_at hj] at h2
    rw [eside_cnL hi hj]
    exact beside_any _ _ e2 _ e1 w' h1 h2
  have hin1 : ∀ n x, inAt (cnL L1 e1) (cnL L2 e2) n x ↔ 0 ≤ x ∧ x < L2.length ∧ 0 < eside (cnL L1 e1) n (cAt (cnL L2 e2) x.toNat) := fun n x => by unfold inAt; rw [cnL_len]
  have hin2 : ∀ n x, inAt (cnL L2 e2) (cnL L1 e1) n x ↔ 0 ≤ x ∧ x < L1.length ∧ 0 < eside (cnL L2 e2) n (cAt (cnL L1 e1) x.toNat) := fun n x => by unfold inAt; rw [cnL_len]
  have hit := fun n (hn : n < ins.length) => intsAt hI hn
  have hwi := fun (n lo hi : Int) (w' : World) => within_any n lo hi w'
  have hn3 := hc.len
  have hm3 := ho.len
  rw [cnL_len] at hn3 hm3
  rw [hl] at hit ⊢
  have hat := fun (w' : World) (X : Option Addr) (h : SRow w' X L1) k (hk : k < L1.length) => h.at_ hk
  have hbt := fun (w' : World) (X : Option Addr) (h : SRow w' X L2) k (hk : k < L2.length) => h.at_ hk
  have Hc1 := Lib.hid h1
  have Hc2 := Lib.hid h2
  have Hsd1 := Lib.hid hsd1
  have Hsd2 := Lib.hid hsd2
  have Hin1 := Lib.hid hin1
  have Hin2 := Lib.hid hin2
  have Hit := Lib.hid hit
  have Hwi := Lib.hid hwi
  have Hyes := Lib.hid hyes
  have Hno1 := Lib.hid hno1
  have Hno2 := Lib.hid hno2
  have Hat0 := Lib.hid hat
  have Hbt0 := Lib.hid hbt
  clear h1 h2 hsd1 hsd2 hin1 hin2 hit hwi hyes hno1 hno2 hat hbt hI hl hc ho
  unfold CrIn at Hc1 Hc2
  obtain ⟨ES1, hES1⟩ : ∃ ES1 : Nat → Nat → Int, ES1 = fun i j => eside (cnL L1 e1) i (cAt (cnL L2 e2) j) := ⟨_, rfl⟩
  obtain ⟨ES2, hES2⟩ : ∃ ES2 : Nat → Nat → Int, ES2 = fun i j => eside (cnL L2 e2) i (cAt (cnL L1 e1) j) := ⟨_, rfl⟩
  obtain ⟨P1, hP1⟩ : ∃ P1 : Nat → Int → Prop, P1 = fun n x => inAt (cnL L1 e1) (cnL L2 e2) n x := ⟨_, rfl⟩
  obtain ⟨P2, hP2⟩ : ∃ P2 : Nat → Int → Prop, P2 = fun n x => inAt (cnL L2 e2) (cnL L1 e1) n x := ⟨_, rfl⟩
  have es1 : ∀ i j, eside (cnL L1 e1) i (cAt (cnL L2 e2) j) = ES1 i j := fun i j => by rw [hES1]
  have es2 : ∀ i j, eside (cnL L2 e2) i (cAt (cnL L1 e1) j) = ES2 i j := fun i j => by rw [hES2]
  have eP1 : ∀ n x, inAt (cnL L1 e1) (cnL L2 e2) n x = P1 n x := fun n x => by rw [hP1]
  have eP2 : ∀ n x, inAt (cnL L2 e2) (cnL L1 e1) n x = P2 n x := fun n x => by rw [hP2]
  simp only [es1, es2, eP1, eP2] at Hsd1 Hsd2 Hin1 Hin2 Hyes Hno1 Hno2
  clear es1 es2 eP1 eP2 hES1 hES2 hP1 hP2
  generalize L1.length = m1 at *
  generalize L2.length = m2 at *
  have d5 : (((m1 + m2 : Nat) : Int) != (m1 : Int) + (m2 : Int)) = false := by simp
  have kl : Blk ((w.alloc (.cells #[.slice A np c, .slice B nh d] 25)).alloc (.cells #[.bool false, .int .i64 0, .int .i64 0, .int .i64 0, .int .i64 0, .slice (some ad) (m1 + m2) ic] 67)) w.heap.size [.slice A np c, .slice B nh d] := (Blk.new _ _).ext ((Ext.refl _).alloc _)
  have ka : Blk ((w.alloc (.cells #[.slice A np c, .slice B nh d] 25)).alloc (.cells #[.bool false, .int .i64 0, .int .i64 0, .int .i64 0, .int .i64 0, .slice (some ad) (m1 + m2) ic] 67)) (w.heap.size + 1) [.bool false, .int .i64 0, .int .i64 0, .int .i64 0, .int .i64 0, .slice (some ad) (m1 + m2) ic] := Blk.new' (cs := #[.bool false, .int .i64 0, .int .i64 0, .int .i64 0, .int .i64 0, .slice (some ad) (m1 + m2) ic]) (by simp)
  have b0 := kl.at_ 0 rfl
  have b1 := kl.at_ 1 rfl
  have a0 := ka.at_ 0 rfl
  have a1 := ka.at_ 1 rfl
  have a2 := ka.at_ 2 rfl
  have a3 := ka.at_ 3 rfl
  have a4 := ka.at_ 4 rfl
  have a5 := ka.at_ 5 rfl
  have hx0 : Ext w ((w.alloc (.cells #[.slice A np c, .slice B nh d] 25)).alloc (.cells #[.bool false, .int .i64 0, .int .i64 0, .int .i64 0, .int .i64 0, .slice (some ad) (m1 + m2) ic] 67)) := ((Ext.refl _).alloc _).alloc _
  have Hx0 := Lib.hid hx0
  clear kl ka hx0
  go_enter Try.func77, Try.ntmps77
  go_wp2_with (first
      | (go_at_call 67; ((with_reducible refine (Hc1.out _ Hx0.out).mono ?_); rintro e w1 ⟨X1, x1, rfl, hX1, hx1⟩); have hxx := Hx0.out.trans hx1; replace b0 : ∀ w', Ext w1 w' → _ := fun w' he => b0 w' (hx1.trans he); replace b1 : ∀ w', Ext w1 w' → _ := fun w' he => b1 w' (hx1.trans he); replace a0 : ∀ w', Ext w1 w' → _ := fun w' he => a0 w' (hx1.trans he); replace a1 : ∀ w', Ext w1 w' → _ := fun w' he => a1 w' (hx1.trans he); replace a2 : ∀ w', Ext w1 w' → _ := fun w' he => a2 w' (hx1.trans he); replace a3 : ∀ w', Ext w1 w' → _ := fun w' he => a3 w' (hx1.trans he); replace a4 : ∀ w', Ext w1 w' → _ := fun w' he => a4 w' (hx1.trans he); replace a5 : ∀ w', Ext w1 w' → _ := fun w' he => a5 w' (hx1.trans he))
      | (go_at_call 67; ((with_reducible refine (Hc2.out _ hxx).mono ?_); rintro e w2 ⟨X2, x2, rfl, hX2, hx2⟩); have hxy := hxx.trans hx2; replace b0 : ∀ w', Ext w2 w' → _ := fun w' he => b0 w' (hx2.trans he); replace b1 : ∀ w', Ext w2 w' → _ := fun w' he => b1 w' (hx2.trans he); replace a0 : ∀ w', Ext w2 w' → _ := fun w' he => a0 w' (hx2.trans he); replace a1 : ∀ w', Ext w2 w' → _ := fun w' he => a1 w' (hx2.trans he); replace a2 : ∀ w', Ext w2 w' → _ := fun w' he => a2 w' (hx2.trans he); replace a3 : ∀ w', Ext w2 w' → _ := fun w' he => a3 w' (hx2.trans he); replace a4 : ∀ w', Ext w2 w' → _ := fun w' he => a4 w' (hx2.trans he); replace a5 : ∀ w', Ext w2 w' → _ := fun w' he => a5 w' (hx2.trans he)))
  have hat := Hat0.out _ _ (hX1.ext hx2)
  have hbt := Hbt0.out _ _ hX2
  obtain ⟨xd, rfl, _⟩ := hat 0 (by omega)
  obtain ⟨yd, rfl, _⟩ := hbt 0 (by omega)
  have Hat := Lib.hid hat
  have Hbt := Lib.hid hbt
  have A5 := Lib.hid a5
  have Hxy := Lib.hid hxy
  clear hat hbt b0 b1 a0 a1 a2 a3 a4 a5 hxy hxx hx1 hx2 hX1 hX2 Hc1 Hc2 Hx0 Hat0 Hbt0 d5
  go_loopw [13] (fun i wr => ∃ k : Nat, k ≤ m1 ∧ i = .int .i64 k ∧ Ext w2 wr ∧ Hid (∀ j, j < k → P1 j (getI ins j))) (fun i _ => m1 - (intOf i).toNat)
  case atStart => exact ⟨0, by omega, rfl, Ext.refl _, Lib.hid fun j h => absurd h (by omega)⟩
  case round =>
    obtain ⟨k, hk, rfl, hex, Hall⟩ := hrel
    have g5 : ∀ w', Ext wr w' → _ := fun w' he => A5.out w' (hex.trans he)
    by_cases hlt : k < m1
    · obtain ⟨_, ee, p0⟩ := Hit.out k (by omega)
      cases ee
      have hxr := Hxy.out.trans hex
      have u0 : ∀ w', Ext wr w' → _ := fun w' he => p0 w' (hxr.trans he)
      have hn := Hno1.out k hlt
      have hin := Hin1.out k (getI ins k)
      have hnx : P1 k (getI ins k) → ∀ j, j < k + 1 → P1 j (getI ins j) := fun h j hj => by
        by_cases e : j = k
        · subst e; exact h
        · exact Hall.out j (by omega)
      have hw := fun w' => Hwi.out (getI ins k) 0 ((m2 : Int) - 1) w'
      have Hn := Lib.hid hn
      have Hin := Lib.hid hin
      have Hnx := Lib.hid hnx
      have Hw := Lib.hid hw
      have hkq : ((k : Nat) : Int) < ((m1 + m2 : Nat) : Int) := by omega
      have hkq2 : k < m1 + m2 := by omega
      clear p0 hn hin hnx hw Hno1 Hno2 Hin1 Hin2 Hyes Hall Hwi Hit
      generalize getI ins k = x at *
      cases h1 : withinB x 0 ((m2 : Int) - 1)
      · have hq := Hn.out (fun h => absurd (show 0 ≤ x ∧ x ≤ (m2 : Int) - 1 from ⟨(Hin.out.1 h).1, by have := (Hin.out.1 h).2.1; omega⟩) (withinB_false.1 h1))
        rw [h1] at Hw
        have Hq := Lib.hid hq
        clear hq Hn Hin Hnx h1 Hat Hbt Hsd1 Hsd2
        go_wp2
        refine wp_region_calm 28 (fun j _ v _ => j = 4 → v = .bool false) (fun _ _ _ _ _ _ h => h) (by kernel_rfl) (by kernel_rfl) ?_
        simp only [List.take_succ_cons, List.take_zero, List.drop_succ_cons, List.drop_zero]
        refine calm_quiet calm_mono_final 4 (by kernel_rfl) ?_
        simp only [List.take_succ_cons, List.take_zero, List.drop_succ_cons, List.drop_zero]
        repeat (go_big_quiet_step (fail))
        refine wpQuiet_nil ?_
        refine calm_call calm_mono_final 58 #[.int .i64 x, .int .i64 0, .int .i64 ((m2 : Int) - 1)] rfl (fun w => ?_) (fun w he hF => ?_) ?_
        · go_simp
        · exact (Hw.out w).mono fun e w'' ⟨he', hx⟩ => ⟨_, he', by rw [hx]; exact Ext.refl _, fun _ => rfl⟩
        rintro _ _ _ h
        cases h rfl
        simp only [Act.put, List.setIfInBounds_toArray, List.set_cons_succ, List.set_cons_zero]
        refine calm_quiet calm_mono_final 20 (by kernel_rfl) ?_
        simp only [List.take_succ_cons, List.take_zero, List.drop_succ_cons, List.drop_zero]
        repeat (go_big_quiet_step (fail))
        refine wpQuiet_nil ?_
        refine calm_skip (by kernel_rfl) ?_
        simp only [Act.put, List.setIfInBounds_toArray, List.set_cons_succ, List.set_cons_zero]
        refine calm_quiet calm_mono_final 2 (by kernel_rfl) ?_
        simp only [List.take_succ_cons, List.take_zero, List.drop_succ_cons, List.drop_zero]
        repeat (go_big_quiet_step (fail))
        refine wpQuiet_nil ?_
        refine calm_nil fun w3 he3 _ => ?_
        go_wp2
        go_ret
        exact ⟨ret_b Hq.out, hxr.trans he3⟩
      · rw [h1] at Hw
        have h1' := withinB_true.1 h1
        obtain ⟨j, rfl⟩ := Int.eq_ofNat_of_zero_le h1'.1
        have hjm : j < m2 := by omega
        have f2 : ((k : Int) + 1).tmod (m1 : Int) = (((k + 1) % m1 : Nat) : Int) := by
          rw [Int.tmod_eq_emod_of_nonneg (by omega)]; exact (by push_cast; rfl)
        have f3 : ((m1 : Int) = 0) = False := by simp; omega
        have hk1 := Nat.mod_lt (k + 1) (show 0 < m1 by omega)
        obtain ⟨_, ee, r0, r1⟩ := Hat.out k hlt
        cases ee
        obtain ⟨_, ee, s0, s1⟩ := Hat.out _ hk1
        cases ee
        obtain ⟨_, ee, t0, t1⟩ := Hbt.out j hjm
        cases ee
        replace r0 : ∀ w', Ext wr w' → _ := fun w' he => r0 w' (hex.trans he)
        replace r1 : ∀ w', Ext wr w' → _ := fun w' he => r1 w' (hex.trans he)
        replace s0 : ∀ w', Ext wr w' → _ := fun w' he => s0 w' (hex.trans he)
        replace s1 : ∀ w', Ext wr w' → _ := fun w' he => s1 w' (hex.trans he)
        replace t0 : ∀ w', Ext wr w' → _ := fun w' he => t0 w' (hex.trans he)
        replace t1 : ∀ w', Ext wr w' → _ := fun w' he => t1 w' (hex.trans he)
        have hs := Hsd1.out k hlt j hjm
        have hin2 := Hin.out
        simp only [Int.toNat_natCast] at hin2
        have Hs := Lib.hid hs
        have Hin' := Lib.hid hin2
        clear hs hin2 Hin Hat Hbt Hsd1 Hsd2 h1 h1'
        generalize (k + 1) % m1 = k1 at *
        generalize ES1 k j = D at *
        generalize ptA L1 k = a at *
        generalize ptA L1 k1 = b at *
        generalize ptA L2 j = z at *
        have hk1n : (k1 : Int) < (m1 : Int) := by omega
        have hkn' : (k : Int) < (m1 : Int) := by omega
        have hjm' : (j : Int) < (m2 : Int) := by omega
        by_cases hD : D ≤ 0
        · have hq := Hn.out (fun h => by have := (Hin'.out.1 h).2.2; omega)
          have Hq := Lib.hid hq
          have d5 : decide (D ≤ 0) = true := by simpa using hD
          clear hq Hnx Hn Hin' hD
          go_wp2
          refine wp_region_calm 28 (fun j _ v _ => (j = 4 → v = .bool true) ∧ (j = 25 → v = .int .i64 D)) (fun _ _ _ _ _ _ h => h) (by kernel_rfl) (by kernel_rfl) ?_
          simp only [List.take_succ_cons, List.take_zero, List.drop_succ_cons, List.drop_zero]
          refine calm_quiet calm_mono_final 4 (by kernel_rfl) ?_
          simp only [List.take_succ_cons, List.take_zero, List.drop_succ_cons, List.drop_zero]
          repeat (go_big_quiet_step (fail))
          refine wpQuiet_nil ?_
          refine calm_call calm_mono_final 58 #[.int .i64 j, .int .i64 0, .int .i64 ((m2 : Int) - 1)] rfl (fun w => ?_) (fun w he hF => ?_) ?_
          · go_simp
          · exact (Hw.out w).mono fun e w'' ⟨he', hx⟩ => ⟨_, he', by rw [hx]; exact Ext.refl _, And.intro (fun _ => rfl) (fun h => by cases h)⟩
          rintro _ _ _ ⟨h, _⟩
          cases h rfl
          simp only [Act.put, List.setIfInBounds_toArray, List.set_cons_succ, List.set_cons_zero]
          refine calm_quiet calm_mono_final 20 (by kernel_rfl) ?_
          simp only [List.take_succ_cons, List.take_zero, List.drop_succ_cons, List.drop_zero]
          repeat (go_big_quiet_step (fail))
          refine wpQuiet_nil ?_
          refine calm_call calm_mono_final 102 #[a.val, b.val, .int .i64 e1, z.val, .int .i64 e2] rfl (fun w => ?_) (fun w he hF => ?_) ?_
          · go_simp
          · exact (Hs.out w).mono fun e w'' ⟨he', hx⟩ => ⟨_, he', hx, And.intro (fun h => by cases h) (fun _ => rfl)⟩
          rintro _ _ _ ⟨_, h⟩
          cases h rfl
          simp only [Act.put, List.setIfInBounds_toArray, List.set_cons_succ, List.set_cons_zero]
          refine calm_quiet calm_mono_final 2 (by kernel_rfl) ?_
          simp only [List.take_succ_cons, List.take_zero, List.drop_succ_cons, List.drop_zero]
          repeat (go_big_quiet_step (fail))
          refine wpQuiet_nil ?_
          refine calm_nil fun w3 he3 _ => ?_
          go_wp2
          go_ret
          exact ⟨ret_b Hq.out, hxr.trans he3⟩
        · have hq := Hnx.out (Hin'.out.2 ⟨by omega, by omega, by omega⟩)
          have Hq := Lib.hid hq
          have d5 : decide (D ≤ 0) = false := by simpa using hD
          clear hq Hnx Hn Hin' hD
          go_wp2
          refine wp_region_calm 28 (fun j _ v _ => (j = 4 → v = .bool true) ∧ (j = 25 → v = .int .i64 D)) (fun _ _ _ _ _ _ h => h) (by kernel_rfl) (by kernel_rfl) ?_
          simp only [List.take_succ_cons, List.take_zero, List.drop_succ_cons, List.drop_zero]
          refine calm_quiet calm_mono_final 4 (by kernel_rfl) ?_
          simp only [List.take_succ_cons, List.take_zero, List.drop_succ_cons, List.drop_zero]
          repeat (go_big_quiet_step (fail))
          refine wpQuiet_nil ?_
          refine calm_call calm_mono_final 58 #[.int .i64 j, .int .i64 0, .int .i64 ((m2 : Int) - 1)] rfl (fun w => ?_) (fun w he hF => ?_) ?_
          · go_simp
          · exact (Hw.out w).mono fun e w'' ⟨he', hx⟩ => ⟨_, he', by rw [hx]; exact Ext.refl _, And.intro (fun _ => rfl) (fun h => by cases h)⟩
          rintro _ _ _ ⟨h, _⟩
          cases h rfl
          simp only [Act.put, List.setIfInBounds_toArray, List.set_cons_succ, List.set_cons_zero]
          refine calm_quiet calm_mono_final 20 (by kernel_rfl) ?_
          simp only [List.take_succ_cons, List.take_zero, List.drop_succ_cons, List.drop_zero]
          repeat (go_big_quiet_step (fail))
          refine wpQuiet_nil ?_
          refine calm_call calm_mono_final 102 #[a.val, b.val, .int .i64 e1, z.val, .int .i64 e2] rfl (fun w => ?_) (fun w he hF => ?_) ?_
          · go_simp
          · exact (Hs.out w).mono fun e w'' ⟨he', hx⟩ => ⟨_, he', hx, And.intro (fun h => by cases h) (fun _ => rfl)⟩
          rintro _ _ _ ⟨_, h⟩
          cases h rfl
          simp only [Act.put, List.setIfInBounds_toArray, List.set_cons_succ, List.set_cons_zero]
          refine calm_quiet calm_mono_final 2 (by kernel_rfl) ?_
          simp only [List.take_succ_cons, List.take_zero, List.drop_succ_cons, List.drop_zero]
          repeat (go_big_quiet_step (fail))
          refine wpQuiet_nil ?_
          refine calm_nil fun w3 he3 _ => ?_
          go_wp2
          go_roundw
          case rel => exact ⟨k + 1, by omega, by go_num, hex.trans he3, Lib.hid Hq.out⟩
          case measure => simp [intOf]; omega
    · obtain rfl : m1 = k := by omega
      have hy := Hyes.out Hall.out
      have Hy := Lib.hid hy
      clear hy Hyes Hall Hno1 Hin1
      go_wp2
      clear g5
      obtain ⟨wo, rfl⟩ : ∃ wo : World, wo = wr := ⟨_, rfl⟩
      go_loopw [15] (fun i wr => ∃ k : Nat, k ≤ m2 ∧ i = .int .i64 k ∧ Ext w2 wr ∧ Hid (∀ j, j < k → P2 j (getI ins (m1 + j)))) (fun i _ => m2 - (intOf i).toNat)
      case atStart => exact ⟨0, by omega, rfl, hex, Lib.hid fun j h => absurd h (by omega)⟩
      case round =>
        obtain ⟨k, hk, rfl, hex, Hall⟩ := hrel
        have g5 : ∀ w', Ext wr w' → _ := fun w' he => A5.out w' (hex.trans he)
        by_cases hlt : k < m2
        · obtain ⟨_, ee, p0⟩ := Hit.out (m1 + k) (by omega)
          cases ee
          have hxr := Hxy.out.trans hex
          have u0 : ∀ w', Ext wr w' → _ := fun w' he => p0 w' (hxr.trans he)
          have hn := Hno2.out k hlt
          have hin := Hin2.out k (getI ins (m1 + k))
          have hnx : P2 k (getI ins (m1 + k)) → ∀ j, j < k + 1 → P2 j (getI ins (m1 + j)) := fun h j hj => by
            by_cases e : j = k
            · subst e; exact h
            · exact Hall.out j (by omega)
          have hw := fun w' => Hwi.out (getI ins (m1 + k)) 0 ((m1 : Int) - 1) w'
          have Hn := Lib.hid hn
          have Hin := Lib.hid hin
          have Hnx := Lib.hid hnx
          have Hw := Lib.hid hw
          have hkq : (((m1 + k) : Nat) : Int) < ((m1 + m2 : Nat) : Int) := by omega
          have hkq2 : (m1 + k) < m1 + m2 := by omega
          clear p0 hn hin hnx hw Hno2 Hin2 Hall Hwi Hit Hy
          generalize getI ins (m1 + k) = x at *
          cases h1 : withinB x 0 ((m1 : Int) - 1)
          · have hq := Hn.out (fun h => absurd (show 0 ≤ x ∧ x ≤ (m1 : Int) - 1 from ⟨(Hin.out.1 h).1, by have := (Hin.out.1 h).2.1; omega⟩) (withinB_false.1 h1))
            rw [h1] at Hw
            have Hq := Lib.hid hq
            clear hq Hn Hin Hnx h1 Hat Hbt Hsd1 Hsd2
            go_wp2
            refine wp_region_calm 28 (fun j _ v _ => j = 4 → v = .bool false) (fun _ _ _ _ _ _ h => h) (by kernel_rfl) (by kernel_rfl) ?_
            simp only [List.take_succ_cons, List.take_zero, List.drop_succ_cons, List.drop_zero]
            refine calm_quiet calm_mono_final 4 (by kernel_rfl) ?_
            simp only [List.take_succ_cons, List.take_zero, List.drop_succ_cons, List.drop_zero]
            repeat (go_big_quiet_step (fail))
            refine wpQuiet_nil ?_
            refine calm_call calm_mono_final 58 #[.int .i64 x, .int .i64 0, .int .i64 ((m1 : Int) - 1)] rfl (fun w => ?_) (fun w he hF => ?_) ?_
            · go_simp
            · exact (Hw.out w).mono fun e w'' ⟨he', hx⟩ => ⟨_, he', by rw [hx]; exact Ext.refl _, fun _ => rfl⟩
            rintro _ _ _ h
            cases h rfl
            simp only [Act.put, List.setIfInBounds_toArray, List.set_cons_succ, List.set_cons_zero]
            refine calm_quiet calm_mono_final 20 (by kernel_rfl) ?_
            simp only [List.take_succ_cons, List.take_zero, List.drop_succ_cons, List.drop_zero]
            repeat (go_big_quiet_step (fail))
            refine wpQuiet_nil ?_
            refine calm_skip (by kernel_rfl) ?_
            simp only [Act.put, List.setIfInBounds_toArray, List.set_cons_succ, List.set_cons_zero]
            refine calm_quiet calm_mono_final 2 (by kernel_rfl) ?_
            simp only [List.take_succ_cons, List.take_zero, List.drop_succ_cons, List.drop_zero]
            repeat (go_big_quiet_step (fail))
            refine wpQuiet_nil ?_
            refine calm_nil fun w3 he3 _ => ?_
            go_wp2
            go_ret
            exact ⟨ret_b Hq.out, hxr.trans he3⟩
          · rw [h1] at Hw
            have h1' := withinB_true.1 h1
            obtain ⟨j, rfl⟩ := Int.eq_ofNat_of_zero_le h1'.1
            have hjm : j < m1 := by omega
            have f2 : ((k : Int) + 1).tmod (m2 : Int) = (((k + 1) % m2 : Nat) : Int) := by
              rw [Int.tmod_eq_emod_of_nonneg (by omega)]; exact (by push_cast; rfl)
            have f3 : ((m2 : Int) = 0) = False := by simp; omega
            have hk1 := Nat.mod_lt (k + 1) (show 0 < m2 by omega)
            obtain ⟨_, ee, r0, r1⟩ := Hbt.out k hlt
            cases ee
            obtain ⟨_, ee, s0, s1⟩ := Hbt.out _ hk1
            cases ee
            obtain ⟨_, ee, t0, t1⟩ := Hat.out j hjm
            cases ee
            replace r0 : ∀ w', Ext wr w' → _ := fun w' he => r0 w' (hex.trans he)
            replace r1 : ∀ w', Ext wr w' → _ := fun w' he => r1 w' (hex.trans he)
            replace s0 : ∀ w', Ext wr w' → _ := fun w' he => s0 w' (hex.trans he)
            replace s1 : ∀ w', Ext wr w' → _ := fun w' he => s1 w' (hex.trans he)
            replace t0 : ∀ w', Ext wr w' → _ := fun w' he => t0 w' (hex.trans he)
            replace t1 : ∀ w', Ext wr w' → _ := fun w' he => t1 w' (hex.trans he)
            have hs := Hsd2.out k hlt j hjm
            have hin2 := Hin.out
            simp only [Int.toNat_natCast] at hin2
            have Hs := Lib.hid hs
            have Hin' := Lib.hid hin2
            clear hs hin2 Hin Hat Hbt Hsd1 Hsd2 h1 h1'
            generalize (k + 1) % m2 = k1 at *
            generalize ES2 k j = D at *
            generalize ptA L2 k = a at *
            generalize ptA L2 k1 = b at *
            generalize ptA L1 j = z at *
            have hk1n : (k1 : Int) < (m2 : Int) := by omega
            have hkn' : (k : Int) < (m2 : Int) := by omega
            have hjm' : (j : Int) < (m1 : Int) := by omega
            by_cases hD : D ≤ 0
            · have hq := Hn.out (fun h => by have := (Hin'.out.1 h).2.2; omega)
              have Hq := Lib.hid hq
              have d5 : decide (D ≤ 0) = true := by simpa using hD
              clear hq Hnx Hn Hin' hD
              go_wp2
              refine wp_region_calm 28 (fun j _ v _ => (j = 4 → v = .bool true) ∧ (j = 25 → v = .int .i64 D)) (fun _ _ _ _ _ _ h => h) (by kernel_rfl) (by kernel_rfl) ?_
              simp only [List.take_succ_cons, List.take_zero, List.drop_succ_cons, List.drop_zero]
              refine calm_quiet calm_mono_final 4 (by kernel_rfl) ?_
              simp only [List.take_succ_cons, List.take_zero, List.drop_succ_cons, List.drop_zero]
              repeat (go_big_quiet_step (fail))
              refine wpQuiet_nil ?_
              refine calm_call calm_mono_final 58 #[.int .i64 j, .int .i64 0, .int .i64 ((m1 : Int) - 1)] rfl (fun w => ?_) (fun w he hF => ?_) ?_
              · go_simp
              · exact (Hw.out w).mono fun e w'' ⟨he', hx⟩ => ⟨_, he', by rw [hx]; exact Ext.refl _, And.intro (fun _ => rfl) (fun h => by cases h)⟩
              rintro _ _ _ ⟨h, _⟩
              cases h rfl
              simp only [Act.put, List.setIfInBounds_toArray, List.set_cons_succ, List.set_cons_zero]
              refine calm_quiet calm_mono_final 20 (by kernel_rfl) ?_
              simp only [List.take_succ_cons, List.take_zero, List.drop_succ_cons, List.drop_zero]
              repeat (go_big_quiet_step (fail))
              refine wpQuiet_nil ?_
              refine calm_call calm_mono_final 102 #[a.val, b.val, .int .i64 e2, z.val, .int .i64 e1] rfl (fun w => ?_) (fun w he hF => ?_) ?_
              · go_simp
              · exact (Hs.out w).mono fun e w'' ⟨he', hx⟩ => ⟨_, he', hx, And.intro (fun h => by cases h) (fun _ => rfl)⟩
              rintro _ _ _ ⟨_, h⟩
              cases h rfl
              simp only [Act.put, List.setIfInBounds_toArray, List.set_cons_succ, List.set_cons_zero]
              refine calm_quiet calm_mono_final 2 (by kernel_rfl) ?_
              simp only [List.take_succ_cons, List.take_zero, List.drop_succ_cons, List.drop_zero]
              repeat (go_big_quiet_step (fail))
              refine wpQuiet_nil ?_
              refine calm_nil fun w3 he3 _ => ?_
              go_wp2
              go_ret
              exact ⟨ret_b Hq.out, hxr.trans he3⟩
            · have hq := Hnx.out (Hin'.out.2 ⟨by omega, by omega, by omega⟩)
              have Hq := Lib.hid hq
              have d5 : decide (D ≤ 0) = false := by simpa using hD
              clear hq Hnx Hn Hin' hD
              go_wp2
              refine wp_region_calm 28 (fun j _ v _ => (j = 4 → v = .bool true) ∧ (j = 25 → v = .int .i64 D)) (fun _ _ _ _ _ _ h => h) (by kernel_rfl) (by kernel_rfl) ?_
              simp only [List.take_succ_cons, List.take_zero, List.drop_succ_cons, List.drop_zero]
              refine calm_quiet calm_mono_final 4 (by kernel_rfl) ?_
              simp only [List.take_succ_cons, List.take_zero, List.drop_succ_cons, List.drop_zero]
              repeat (go_big_quiet_step (fail))
              refine wpQuiet_nil ?_
              refine calm_call calm_mono_final 58 #[.int .i64 j, .int .i64 0, .int .i64 ((m1 : Int) - 1)] rfl (fun w => ?_) (fun w he hF => ?_) ?_
              · go_simp
              · exact (Hw.out w).mono fun e w'' ⟨he', hx⟩ => ⟨_, he', by rw [hx]; exact Ext.refl _, And.intro (fun _ => rfl) (fun h => by cases h)⟩
              rintro _ _ _ ⟨h, _⟩
              cases h rfl
              simp only [Act.put, List.setIfInBounds_toArray, List.set_cons_succ, List.set_cons_zero]
              refine calm_quiet calm_mono_final 20 (by kernel_rfl) ?_
              simp only [List.take_succ_cons, List.take_zero, List.drop_succ_cons, List.drop_zero]
              repeat (go_big_quiet_step (fail))
              refine wpQuiet_nil ?_
              refine calm_call calm_mono_final 102 #[a.val, b.val, .int .i64 e2, z.val, .int .i64 e1] rfl (fun w => ?_) (fun w he hF => ?_) ?_
              · go_simp
              · exact (Hs.out w).mono fun e w'' ⟨he', hx⟩ => ⟨_, he', hx, And.intro (fun h => by cases h) (fun _ => rfl)⟩
              rintro _ _ _ ⟨_, h⟩
              cases h rfl
              simp only [Act.put, List.setIfInBounds_toArray, List.set_cons_succ, List.set_cons_zero]
              refine calm_quiet calm_mono_final 2 (by kernel_rfl) ?_
              simp only [List.take_succ_cons, List.take_zero, List.drop_succ_cons, List.drop_zero]
              repeat (go_big_quiet_step (fail))
              refine wpQuiet_nil ?_
              refine calm_nil fun w3 he3 _ => ?_
              go_wp2
              go_roundw
              case rel => exact ⟨k + 1, by omega, by go_num, hex.trans he3, Lib.hid Hq.out⟩
              case measure => simp [intOf]; omega
        · obtain rfl : m2 = k := by omega
          have hy := Hy.out Hall.out
          have Hy' := Lib.hid hy
          clear hy Hall Hno2 Hin2 Hy Hit Hwi Hat Hbt Hsd1 Hsd2
          go_wp2
          go_ret
          exact ⟨ret_b Hy'.out, Hxy.out.trans hex⟩
end Go.Proofs.Yteilglljigjefaa

/- Which proofs are right: by the reference, whole. -/
namespace Go.Proofs.Yteilglljigjefaa
open Go.RowKit
theorem getI_getD (l : List Int) (n : Nat) : getI l n = l.getD n 0 := by simp [getI, List.getD]
theorem right_ref (A : Option Addr) (c : Nat) (ps : List (List Sp)) (B : Option Addr) (d : Nat) (hs : List Hg) (i k : Nat) (r : Apr) (I : Option Addr) (ic : Nat) (w : World) (hL : Lk w A ps B hs) (hr : AprIn w r I ic) (hl : linkP ps hs) (hi : i < ps.length) (hk : k < ps.length) :
    Calls Try.prog 77 #[.agg #[.slice A ps.length c, .slice B hs.length d], .int .i64 i, .int .i64 k, r.val I ic] w fun e w' => e = .returned (.bool (rightB r (pcrn ps hs i) (pcrn ps hs k))) ∧ Ext w w' := by
  have h1 := crIn_of (c := c) (d := d) hL hl hi
  have h2 := crIn_of (c := c) (d := d) hL hl hk
  have ok1 := pcrn_ok hl hi
  have ok2 := pcrn_ok hl hk
  rw [← pcrn_cnL] at ok1 ok2
  have len1 : (pcrn ps hs i).length = (crnS (posF hs i) (pnA ps i)).length := by rw [← pcrn_cnL, cnL_len]
  have len2 : (pcrn ps hs k).length = (crnS (posF hs k) (pnA ps k)).length := by rw [← pcrn_cnL, cnL_len]
  obtain ⟨rc, rA, rB, rC, rE, ins⟩ := r
  cases rc
  · rw [rightB_ins rfl]
    by_cases h : (rA = 0 ∧ rB = 0 ∧ rC = 0 ∧ rE = 0) ∧ ins.length = (crnS (posF hs i) (pnA ps i)).length + (crnS (posF hs k) (pnA ps k)).length
    · obtain ⟨h0, hln⟩ := h
      obtain ⟨rfl, rfl, rfl, rfl⟩ := id h0
      have hI := hr.ins
      have hn3 := ok1.len
      rw [cnL_len] at hn3
      obtain ⟨ad, rfl, _⟩ := hI 0 (by simp only [List.length_map]; omega)
      have key := rightr_left ad ic ins A ps.length c B hs.length d i k _ _ _ _ w h1 h2 (decide (insP ⟨false, 0, 0, 0, 0, ins⟩ (pcrn ps hs i) (pcrn ps hs k))) hI hln ok1 ok2
      rw [pcrn_cnL, pcrn_cnL] at key
      have hP : insP ⟨false, 0, 0, 0, 0, ins⟩ (pcrn ps hs i) (pcrn ps hs k) ↔ (∀ n, n < (crnS (posF hs i) (pnA ps i)).length → inAt (pcrn ps hs i) (pcrn ps hs k) n (getI ins n)) ∧ ∀ n, n < (crnS (posF hs k) (pnA ps k)).length → inAt (pcrn ps hs k) (pcrn ps hs i) n (getI ins ((crnS (posF hs i) (pnA ps i)).length + n)) := by
        unfold insP
        rw [len1, len2]
        simp only [getI_getD]
        exact ⟨fun h => h.2.2, fun h => ⟨by simp, hln, h⟩⟩
      exact key (fun g1 g2 => (decide_eq_true (hP.2 ⟨g1, g2⟩)).symm) (fun n hn g => (decide_eq_false fun hh => g ((hP.1 hh).1 n hn)).symm) (fun n hn g => (decide_eq_false fun hh => g ((hP.1 hh).2 n hn)).symm)
    · have hb1 := ok1.len.2
      have hb2 := ok2.len.2
      rw [cnL_len] at hb1 hb2
      have key := rightr_none rA rB rC rE I ins.length ic A ps.length c B hs.length d i k _ _ _ _ _ _ w h1 h2 hb1 hb2 h
      rw [show decide (insP ⟨false, rA, rB, rC, rE, ins⟩ (pcrn ps hs i) (pcrn ps hs k)) = false from decide_eq_false fun h' => h ⟨h'.1, by have := h'.2.1; rw [len1, len2] at this; exact this⟩]
      exact key
  · rw [rightB_clear rfl]
    have key := rightr_line rA rB rC rE I ins.length ic A ps.length c B hs.length d i k _ _ _ _ _ _ w h1 h2 (btwB ⟨true, rA, rB, rC, rE, ins⟩ (pcrn ps hs i) (pcrn ps hs k))
    rw [← pcrn_cnL, ← pcrn_cnL] at key ⊢
    exact key fun X Y x y w' hX hY => between_any ⟨true, rA, rB, rC, rE, ins⟩ I ic X x _ _ Y y _ _ w' hr.len hX hY ok1 ok2
set_option maxRecDepth 100000 in
set_option maxHeartbeats 4000000 in
theorem checkapart_ref (A : Option Addr) (c : Nat) (ps : List (List Sp)) (B : Option Addr) (d : Nat) (hs : List Hg) (i k : Int) (r : Apr) (I : Option Addr) (ic : Nat) (w : World) (hL : Lk w A ps B hs) (hr : AprIn w r I ic) :
    Calls Try.prog 45 #[.agg #[.slice A ps.length c, .slice B hs.length d], .int .i64 i, .int .i64 k, r.val I ic] w fun e w' => e = .returned (.int .i64 (apartE ps hs i k r)) ∧ Ext w w' := by
  have ht := fun w' (he : Ext w w') => two_ref A c ps B d hs i k w' (hL.ext he)
  rcases two_cases ps hs i k with ⟨h1, ⟨a, b, rfl, rfl, ha, hb, hne⟩, h2⟩ | ⟨h2, h3⟩
  · have hri := fun w' (he : Ext w w') => right_ref A c ps B d hs a b r I ic w' (hL.ext he) (hr.ext he) h1 ha hb
    rw [apartE_nat h2]
    rw [h2] at ht
    have Ht := Lib.hid ht
    have Hri := Lib.hid hri
    clear ht hri hL h1 h2 ha hb hne hr
    generalize rightB r (pcrn ps hs a) (pcrn ps hs b) = R at *
    obtain ⟨rc, rA, rB, rC, rE, ins⟩ := r
    generalize ps.length = np at *
    generalize hs.length = nh at *
    have kl : Blk ((w.alloc (.cells #[.slice A np c, .slice B nh d] 25)).alloc (.cells #[.bool rc, vint rA, vint rB, vint rC, vint rE, .slice I ins.length ic] 67)) w.heap.size [.slice A np c, .slice B nh d] := (Blk.new _ _).ext ((Ext.refl _).alloc _)
    have ka : Blk ((w.alloc (.cells #[.slice A np c, .slice B nh d] 25)).alloc (.cells #[.bool rc, vint rA, vint rB, vint rC, vint rE, .slice I ins.length ic] 67)) (w.heap.size + 1) [.bool rc, vint rA, vint rB, vint rC, vint rE, .slice I ins.length ic] := Blk.new' (cs := #[.bool rc, vint rA, vint rB, vint rC, vint rE, .slice I ins.length ic]) (by simp)
    have b0 := kl.at_ 0 rfl
    have b1 := kl.at_ 1 rfl
    have a0 := ka.at_ 0 rfl
    have a1 := ka.at_ 1 rfl
    have a2 := ka.at_ 2 rfl
    have a3 := ka.at_ 3 rfl
    have a4 := ka.at_ 4 rfl
    have a5 := ka.at_ 5 rfl
    have hx0 : Ext w ((w.alloc (.cells #[.slice A np c, .slice B nh d] 25)).alloc (.cells #[.bool rc, vint rA, vint rB, vint rC, vint rE, .slice I ins.length ic] 67)) := ((Ext.refl _).alloc _).alloc _
    have Hx0 := Lib.hid hx0
    clear kl ka hx0
    cases R
    all_goals
      go_enter Try.func45, Try.ntmps45
      go_wp2_with (first
        | (go_at_call 75; refine (Ht.out _ Hx0.out).mono ?_; rintro e w1 ⟨rfl, hx1⟩; have hxx := Hx0.out.trans hx1; replace b0 : ∀ w', Ext w1 w' → _ := fun w' he => b0 w' (hx1.trans he); replace b1 : ∀ w', Ext w1 w' → _ := fun w' he => b1 w' (hx1.trans he); replace a0 : ∀ w', Ext w1 w' → _ := fun w' he => a0 w' (hx1.trans he); replace a1 : ∀ w', Ext w1 w' → _ := fun w' he => a1 w' (hx1.trans he); replace a2 : ∀ w', Ext w1 w' → _ := fun w' he => a2 w' (hx1.trans he); replace a3 : ∀ w', Ext w1 w' → _ := fun w' he => a3 w' (hx1.trans he); replace a4 : ∀ w', Ext w1 w' → _ := fun w' he => a4 w' (hx1.trans he); replace a5 : ∀ w', Ext w1 w' → _ := fun w' he => a5 w' (hx1.trans he))
        | (go_at_call 77; refine (Hri.out _ hxx).mono ?_; rintro e w2 ⟨rfl, hx2⟩))
      go_ret
      exact ⟨rfl, hxx.trans hx2⟩
  · have hne : ¬ twoE ps hs i k = 0 := by omega
    rw [apartE, if_neg hne]
    have d1 : (twoE ps hs i k != 0) = true := by simpa using hne
    have Ht := Lib.hid ht
    clear ht hL h2 hne h3 hr
    generalize twoE ps hs i k = E at *
    obtain ⟨rc, rA, rB, rC, rE, ins⟩ := r
    generalize ps.length = np at *
    generalize hs.length = nh at *
    have kl : Blk ((w.alloc (.cells #[.slice A np c, .slice B nh d] 25)).alloc (.cells #[.bool rc, vint rA, vint rB, vint rC, vint rE, .slice I ins.length ic] 67)) w.heap.size [.slice A np c, .slice B nh d] := (Blk.new _ _).ext ((Ext.refl _).alloc _)
    have ka : Blk ((w.alloc (.cells #[.slice A np c, .slice B nh d] 25)).alloc (.cells #[.bool rc, vint rA, vint rB, vint rC, vint rE, .slice I ins.length ic] 67)) (w.heap.size + 1) [.bool rc, vint rA, vint rB, vint rC, vint rE, .slice I ins.length ic] := Blk.new' (cs := #[.bool rc, vint rA, vint rB, vint rC, vint rE, .slice I ins.length ic]) (by simp)
    have b0 := kl.at_ 0 rfl
    have b1 := kl.at_ 1 rfl
    have a0 := ka.at_ 0 rfl
    have a1 := ka.at_ 1 rfl
    have a2 := ka.at_ 2 rfl
    have a3 := ka.at_ 3 rfl
    have a4 := ka.at_ 4 rfl
    have a5 := ka.at_ 5 rfl
    have hx0 : Ext w ((w.alloc (.cells #[.slice A np c, .slice B nh d] 25)).alloc (.cells #[.bool rc, vint rA, vint rB, vint rC, vint rE, .slice I ins.length ic] 67)) := ((Ext.refl _).alloc _).alloc _
    have Hx0 := Lib.hid hx0
    clear kl ka hx0
    go_enter Try.func45, Try.ntmps45
    go_wp2_with (go_at_call 75; refine (Ht.out _ Hx0.out).mono ?_; rintro e w1 ⟨rfl, hx1⟩; have hxx := Hx0.out.trans hx1)
    go_ret
    exact ⟨rfl, hxx⟩
end Go.Proofs.Yteilglljigjefaa
