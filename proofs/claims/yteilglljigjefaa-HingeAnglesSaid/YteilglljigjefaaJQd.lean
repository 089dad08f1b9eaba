/- The law HingeAngles. -/
import Derived.Test.YteilglljigjefaaJ31
import Derived.Test.YteilglljigjefaaJ32
import Derived.Test.YteilglljigjefaaJ19
namespace Go.Proofs.Yteilglljigjefaa
open Go.RowKit
/-- What is tested of the numbers of two angles. -/
def AngT (n m p q r e u v z f : Int) : Prop :=
  ((e == 0) = false) ∨
  (e = 0 ∧ (r < 1) = False ∧ (∃ m1 m2 m3, IntKind.i64.wrap (p * p) = m1 ∧ IntKind.i64.wrap (q * q) = m2 ∧ IntKind.i64.wrap (m1 + m2) = m3 ∧ IntKind.i64.wrap (r * r) = m3) ∧
    ((f == 0) = false ∨ f = 0 ∧ (p = u ∧ q = v ∧ r = z ∧ n = m ∨ (n == m) = false ∧ ((p == u) = false ∨ p = u ∧ ((q == v) = false ∨ q = v ∧ (r == z) = false)))))
theorem angT (n m : Int) : AngT n m (angS n).1 (angS n).2.1 (angS n).2.2 (angE n) (angS m).1 (angS m).2.1 (angS m).2.2 (angE m) := by
  unfold AngT
  by_cases hn : 0 ≤ n ∧ n < 36
  · obtain ⟨n, rfl⟩ : ∃ k : Nat, n = k := ⟨n.toNat, by omega⟩
    obtain ⟨a1, a2⟩ := ang_nat (show n < 36 by omega)
    obtain ⟨t1, t2, t3⟩ := turns_ok n (by omega)
    have hb := abs_le_of_sq (show 0 < (trn n).2.2 by omega) t3
    refine .inr ⟨a2, by rw [a1]; simp; omega, ?_, ?_⟩
    · rw [a1]
      have e1 := prod_le (a := (trn n).1) (d := 25) (s := (trn n).1) (m := 25) (by omega) (by omega) (by omega) (by omega)
      have e2 := prod_le (a := (trn n).2.1) (d := 25) (s := (trn n).2.1) (m := 25) (by omega) (by omega) (by omega) (by omega)
      refine ⟨_, _, _, rfl, rfl, rfl, ?_⟩
      rw [IntKind.wrap_i64, IntKind.wrap_i64, IntKind.wrap_i64, IntKind.wrap_i64]
      omega
    · by_cases hm : 0 ≤ m ∧ m < 36
      · obtain ⟨m, rfl⟩ : ∃ k : Nat, m = k := ⟨m.toNat, by omega⟩
        obtain ⟨b1, b2⟩ := ang_nat (show m < 36 by omega)
        refine .inr ⟨b2, ?_⟩
        rw [a1, b1]
        by_cases hnm : n = m
        · subst hnm
          exact .inl ⟨rfl, rfl, rfl, rfl⟩
        · refine .inr ⟨by simp; omega, ?_⟩
          by_cases h1 : (trn n).1 = (trn m).1
          · refine .inr ⟨h1, ?_⟩
            by_cases h2 : (trn n).2.1 = (trn m).2.1
            · refine .inr ⟨h2, ?_⟩
              by_cases h3 : (trn n).2.2 = (trn m).2.2
              · exact absurd (trn_inj n (by omega) m (by omega) (Prod.ext h1 (Prod.ext h2 h3))) hnm
              · simpa using h3
            · exact .inl (by simpa using h2)
          · exact .inl (by simpa using h1)
      · exact .inl (by rw [(ang_bad hm).2]; rfl)
  · exact .inl (by rw [(ang_bad hn).2]; rfl)
/-- The numbers of a turn, and then the next one. -/
def TurnN (xp xq xd yp yq yd a b c : Int) : Prop :=
    (∃ m1 m2 m3 m4 m5, IntKind.i64.wrap (yp * c) = m1 ∧ IntKind.i64.wrap (m1 * xd) = m2 ∧ IntKind.i64.wrap (a * xp) = m3 ∧ IntKind.i64.wrap (b * xq) = m4 ∧ IntKind.i64.wrap (m3 - m4) = m5 ∧ IntKind.i64.wrap (m5 * yd) = m2) ∧
    (∃ m1 m2 m3 m4 m5, IntKind.i64.wrap (yq * c) = m1 ∧ IntKind.i64.wrap (m1 * xd) = m2 ∧ IntKind.i64.wrap (b * xp) = m3 ∧ IntKind.i64.wrap (a * xq) = m4 ∧ IntKind.i64.wrap (m3 + m4) = m5 ∧ IntKind.i64.wrap (m5 * yd) = m2)
theorem turn_nums {xp xq xd yp yq yd a b c : Int} (h1 : -15625 ≤ xp ∧ xp ≤ 15625) (h2 : -15625 ≤ xq ∧ xq ≤ 15625) (h4 : -15625 ≤ yp ∧ yp ≤ 15625) (h5 : -15625 ≤ yq ∧ yq ≤ 15625)
    (k1 : -25 ≤ a ∧ a ≤ 25) (k2 : -25 ≤ b ∧ b ≤ 25) (k3 : -25 ≤ c ∧ c ≤ 25) (E1 : yp * c * xd = (a * xp - b * xq) * yd) (E2 : yq * c * xd = (b * xp + a * xq) * yd) : TurnN xp xq xd yp yq yd a b c := by
  have e1 := prod_le h4.1 h4.2 k3.1 k3.2
  have e2 := prod_le h5.1 h5.2 k3.1 k3.2
  have e3 := prod_le k1.1 k1.2 h1.1 h1.2
  have e4 := prod_le k2.1 k2.2 h2.1 h2.2
  have e5 := prod_le k2.1 k2.2 h1.1 h1.2
  have e6 := prod_le k1.1 k1.2 h2.1 h2.2
  simp only [Int.reduceMul] at e1 e2 e3 e4 e5 e6
  have w1 : IntKind.i64.wrap (yp * c) = yp * c := by rw [IntKind.wrap_i64]; omega
  have w2 : IntKind.i64.wrap (yq * c) = yq * c := by rw [IntKind.wrap_i64]; omega
  have w3 : IntKind.i64.wrap (a * xp) = a * xp := by rw [IntKind.wrap_i64]; omega
  have w4 : IntKind.i64.wrap (b * xq) = b * xq := by rw [IntKind.wrap_i64]; omega
  have w5 : IntKind.i64.wrap (b * xp) = b * xp := by rw [IntKind.wrap_i64]; omega
  have w6 : IntKind.i64.wrap (a * xq) = a * xq := by rw [IntKind.wrap_i64]; omega
  have w7 : IntKind.i64.wrap (a * xp - b * xq) = a * xp - b * xq := by rw [IntKind.wrap_i64]; omega
  have w8 : IntKind.i64.wrap (b * xp + a * xq) = b * xp + a * xq := by rw [IntKind.wrap_i64]; omega
  exact ⟨⟨_, _, _, _, _, w1, rfl, w3, w4, w7, by rw [E1]⟩, ⟨_, _, _, _, _, w2, rfl, w5, w6, w8, by rw [E2]⟩⟩
set_option maxRecDepth 100000 in
set_option maxHeartbeats 16000000 in
theorem angles_law_out (A : Option Addr) (c : Nat) (ps : List (List Sp)) (B : Option Addr) (d : Nat) (hs : List Hg) (n m : Int) (w : World) (hA : PnRow w A ps) (hg : greatP ps hs) :
    Calls Try.prog 9 #[.agg #[.slice A ps.length c, .slice B hs.length d], .int .i64 n, .int .i64 m] w fun e w' => e = .returned (.bool true) ∧ Ext w w' := by
  have hgr := fun w' (he : Ext w w') => great_any A c ps B d hs w' (hA.ext he)
  rw [← greatB_yes hg] at hgr
  have ha1 := angle_any n
  have ha2 := angle_any m
  have hT := angT n m
  unfold angV at ha1 ha2
  generalize (angS n).1 = p at *
  generalize (angS n).2.1 = q at *
  generalize (angS n).2.2 = r at *
  generalize angE n = er at *
  generalize (angS m).1 = u at *
  generalize (angS m).2.1 = v at *
  generalize (angS m).2.2 = z at *
  generalize angE m = fr at *
  have Hgr := Lib.hid hgr
  have Ha1 := Lib.hid ha1
  have Ha2 := Lib.hid ha2
  clear hgr ha1 ha2 hA hg
  generalize ps.length = np at *
  generalize hs.length = nh at *
  have kl : Blk (w.alloc (.cells #[.slice A np c, .slice B nh d] 25)) w.heap.size [.slice A np c, .slice B nh d] := (Blk.new _ _)
  have l0 := kl.at_ 0 rfl
  have l1 := kl.at_ 1 rfl
  have hx0 : Ext w (w.alloc (.cells #[.slice A np c, .slice B nh d] 25)) := ((Ext.refl _).alloc _)
  have Hx0 := Lib.hid hx0
  have hb0 : Ext (w.alloc (.cells #[.slice A np c, .slice B nh d] 25)) (w.alloc (.cells #[.slice A np c, .slice B nh d] 25)) := Ext.refl _
  clear kl hx0
  rcases hT with h1 | ⟨rfl, h2, ⟨m1, m2, m3, k1, k2, k3, k4⟩, h3 | ⟨rfl, ⟨rfl, rfl, rfl, rfl⟩ | ⟨h4, h5 | ⟨rfl, h6 | ⟨rfl, h7⟩⟩⟩⟩⟩
  all_goals
    go_enter Try.func9, Try.ntmps9
    go_wp2_with (first
      | (go_at_call 17; refine (Hgr.out _ (Hx0.out.trans hb3)).mono ?_; rintro e w4 ⟨rfl, hx4⟩; have hb4 := hb3.trans hx4; clear hb3 hx4)
      | (go_at_call 23; have hq := hb2; clear hq; refine (Ha2.out _).mono ?_; rintro e w3 ⟨rfl, hx3⟩; have hb3 := hb2.trans hx3; clear hb2 hx3)
      | (go_at_call 23; refine (Ha1.out _).mono ?_; rintro e w2 ⟨rfl, hx2⟩; have hb2 := hb1.trans hx2; clear hb1 hx2)
      | (go_at_call 46; refine (alive_any _).mono ?_; rintro e w1 ⟨rfl, hx1⟩; have hb1 := hb0.trans hx1; clear hb0 hx1))
    go_ret
    exact ⟨rfl, Hx0.out.trans hb4⟩
set_option maxRecDepth 100000 in
set_option maxHeartbeats 16000000 in
theorem angles_law_bad (A : Option Addr) (c : Nat) (ps : List (List Sp)) (B : Option Addr) (d : Nat) (hs : List Hg) (n m : Int) (w : World) (hA : PnRow w A ps) (hB : HRow w B hs) (hg : ¬ greatP ps hs) (hl : ¬ linkP ps hs) :
    Calls Try.prog 9 #[.agg #[.slice A ps.length c, .slice B hs.length d], .int .i64 n, .int .i64 m] w fun e w' => e = .returned (.bool true) ∧ Ext w w' := by
  have hL := lk_of hA hB hg
  have hgr := fun w' (he : Ext w w') => great_any A c ps B d hs w' (hA.ext he)
  rw [← greatB_no hg] at hgr
  have hpo := fun w' (he : Ext w w') => (poses_all A c ps B d hs w' (hL.ext he)).mono (R' := fun e w'' => ∃ X l x, e = .returned (.tuple #[.slice X l x, .int .i64 50]) ∧ Ext w' w'') fun e w'' ⟨v, he, ho⟩ => by obtain ⟨X, x, rfl⟩ := ho.form; rw [← checkE_bad hl] at he; exact ⟨X, _, x, he, ho.ext⟩
  have ha1 := angle_any n
  have ha2 := angle_any m
  have hT := angT n m
  unfold angV at ha1 ha2
  generalize (angS n).1 = p at *
  generalize (angS n).2.1 = q at *
  generalize (angS n).2.2 = r at *
  generalize angE n = er at *
  generalize (angS m).1 = u at *
  generalize (angS m).2.1 = v at *
  generalize (angS m).2.2 = z at *
  generalize angE m = fr at *
  have Hgr := Lib.hid hgr
  have Ha1 := Lib.hid ha1
  have Ha2 := Lib.hid ha2
  have Hpo := Lib.hid hpo
  clear hgr ha1 ha2 hA hB hg hpo hL hl
  generalize ps.length = np at *
  generalize hs.length = nh at *
  have kl : Blk (w.alloc (.cells #[.slice A np c, .slice B nh d] 25)) w.heap.size [.slice A np c, .slice B nh d] := (Blk.new _ _)
  have l0 := kl.at_ 0 rfl
  have l1 := kl.at_ 1 rfl
  have hx0 : Ext w (w.alloc (.cells #[.slice A np c, .slice B nh d] 25)) := ((Ext.refl _).alloc _)
  have Hx0 := Lib.hid hx0
  have hb0 : Ext (w.alloc (.cells #[.slice A np c, .slice B nh d] 25)) (w.alloc (.cells #[.slice A np c, .slice B nh d] 25)) := Ext.refl _
  clear kl hx0
  rcases hT with h1 | ⟨rfl, h2, ⟨m1, m2, m3, k1, k2, k3, k4⟩, h3 | ⟨rfl, ⟨rfl, rfl, rfl, rfl⟩ | ⟨h4, h5 | ⟨rfl, h6 | ⟨rfl, h7⟩⟩⟩⟩⟩
  all_goals
    go_enter Try.func9, Try.ntmps9
    go_wp2_with (first
      | (go_at_call 27; have hq := hb4; clear hq; refine (Hpo.out _ (Hx0.out.trans hb4)).mono ?_; rintro e w5 ⟨X, l, x, rfl, hx5⟩; have hb5 := hb4.trans hx5; clear hb4 hx5)
      | (go_at_call 17; have hq := hb3; clear hq; refine (Hgr.out _ (Hx0.out.trans hb3)).mono ?_; rintro e w4 ⟨rfl, hx4⟩; have hb4 := hb3.trans hx4; clear hb3 hx4)
      | (go_at_call 23; have hq := hb2; clear hq; refine (Ha2.out _).mono ?_; rintro e w3 ⟨rfl, hx3⟩; have hb3 := hb2.trans hx3; clear hb2 hx3)
      | (go_at_call 23; refine (Ha1.out _).mono ?_; rintro e w2 ⟨rfl, hx2⟩; have hb2 := hb1.trans hx2; clear hb1 hx2)
      | (go_at_call 46; refine (alive_any _).mono ?_; rintro e w1 ⟨rfl, hx1⟩; have hb1 := hb0.trans hx1; clear hb0 hx1))
    go_ret
    exact ⟨rfl, Hx0.out.trans hb5⟩
set_option maxRecDepth 100000 in
set_option maxHeartbeats 16000000 in
theorem angles_law_in (A : Option Addr) (c : Nat) (ps : List (List Sp)) (B : Option Addr) (d : Nat) (hs : List Hg) (n m : Int) (w : World) (hA : PnRow w A ps) (hB : HRow w B hs) (hg : ¬ greatP ps hs) (hl : linkP ps hs) :
    Calls Try.prog 9 #[.agg #[.slice A ps.length c, .slice B hs.length d], .int .i64 n, .int .i64 m] w fun e w' => e = .returned (.bool true) ∧ Ext w w' := by
  have hL := lk_of hA hB hg
  have hgr := fun w' (he : Ext w w') => great_any A c ps B d hs w' (hA.ext he)
  rw [← greatB_no hg] at hgr
  have hpr : posesR ps hs = posesL hs := by unfold posesR linkB; rw [if_pos (decide_eq_true hl)]
  have hpo := fun w' (he : Ext w w') => (poses_all A c ps B d hs w' (hL.ext he)).mono (R' := fun e w'' => ∃ X x, e = .returned (.tuple #[.slice X (hs.length + 1) x, .int .i64 0]) ∧ PRow w'' X (posesL hs) ∧ Ext w' w'') fun e w'' ⟨v, he, ho⟩ => by
    rw [hpr] at ho
    rw [← checkE_good hl] at he
    obtain ⟨X, x, rfl⟩ := ho.form
    exact ⟨X, x, by rw [posesL_len] at he; exact he, OwnP.row ho, ho.ext⟩
  have hpt := fun k (hk : k ≤ hs.length) => posesL_psA (hs := hs) hk
  have hpl := posesL_len hs
  have hhg := fun k (hk : k < hs.length) => hL.hB.at_ hk
  have hnum : ∀ k, k < hs.length → ∃ a b c, (∀ w', Calls Try.prog 23 #[.int .i64 (hgA hs k).ang] w' fun e w'' => e = .returned (.tuple #[.int .i64 a, .int .i64 b, .int .i64 c, .int .i64 0]) ∧ Ext w' w'') ∧ TurnN (posF hs k).p (posF hs k).q (posF hs k).d (posF hs (k + 1)).p (posF hs (k + 1)).q (posF hs (k + 1)).d a b c := fun k hk => by
    have hm := posF_holds hl.hinges hk
    have hb := hl.hinges _ (List.getElem_mem hk)
    rw [← hgA_at hk] at hm hb
    obtain ⟨a1, a2⟩ := ang_nat (show (hgA hs k).ang.toNat < 36 by have := hb.2.2; omega)
    obtain ⟨t1, t2, t3⟩ := turns_ok _ (show (hgA hs k).ang.toNat < 36 by have := hb.2.2; omega)
    have ht := abs_le_of_sq (show 0 < (trn (hgA hs k).ang.toNat).2.2 by omega) t3
    have hf := flw_turns hm.1
    rw [← hm.2] at hf
    have o1 := pose_small (link_pose hl (k := k) (by have := hl.2.1; omega))
    have o2 := pose_small (link_pose hl (k := k + 1) (by have := hl.2.1; omega))
    refine ⟨(trn (hgA hs k).ang.toNat).1, (trn (hgA hs k).ang.toNat).2.1, (trn (hgA hs k).ang.toNat).2.2, fun w' => ?_, turn_nums (by omega) (by omega) (by omega) (by omega) (by omega) (by omega) (by omega) hf.1 hf.2⟩
    have h := angle_any ((hgA hs k).ang.toNat : Nat) w'
    unfold angV at h
    rw [a1, a2, show (((hgA hs k).ang.toNat : Nat) : Int) = (hgA hs k).ang by have := hb.2.2; omega] at h
    exact h
  have hn3 := hl.nh
  have ha1 := angle_any n
  have ha2 := angle_any m
  have hT := angT n m
  unfold angV at ha1 ha2
  generalize (angS n).1 = p at *
  generalize (angS n).2.1 = q at *
  generalize (angS n).2.2 = r at *
  generalize angE n = er at *
  generalize (angS m).1 = u at *
  generalize (angS m).2.1 = v at *
  generalize (angS m).2.2 = z at *
  generalize angE m = fr at *
  have Hgr := Lib.hid hgr
  have Ha1 := Lib.hid ha1
  have Ha2 := Lib.hid ha2
  have Hpo := Lib.hid hpo
  have Hpt := Lib.hid hpt
  have Hpl := Lib.hid hpl
  have Hhg := Lib.hid hhg
  have Hnum := Lib.hid hnum
  clear hgr ha1 ha2 hA hB hg hpo hL hl hpr hpt hpl hhg hnum
  generalize posesL hs = PL at *
  generalize posF hs = PF at *
  generalize hgA hs = HA at *
  generalize ps.length = np at *
  generalize hs.length = nh at *
  have kl : Blk (w.alloc (.cells #[.slice A np c, .slice B nh d] 25)) w.heap.size [.slice A np c, .slice B nh d] := (Blk.new _ _)
  have l0 := kl.at_ 0 rfl
  have l1 := kl.at_ 1 rfl
  have hx0 : Ext w (w.alloc (.cells #[.slice A np c, .slice B nh d] 25)) := ((Ext.refl _).alloc _)
  have Hx0 := Lib.hid hx0
  have hb0 : Ext (w.alloc (.cells #[.slice A np c, .slice B nh d] 25)) (w.alloc (.cells #[.slice A np c, .slice B nh d] 25)) := Ext.refl _
  clear kl hx0
  rcases hT with h1 | ⟨rfl, h2, ⟨m1, m2, m3, k1, k2, k3, k4⟩, h3 | ⟨rfl, ⟨rfl, rfl, rfl, rfl⟩ | ⟨h4, h5 | ⟨rfl, h6 | ⟨rfl, h7⟩⟩⟩⟩⟩
  all_goals
    go_enter Try.func9, Try.ntmps9
    go_wp2_with (first
      | (go_at_call 27; have hq := hb4; clear hq; refine (Hpo.out _ (Hx0.out.trans hb4)).mono ?_; rintro e w5 ⟨X, x, rfl, hX, hx5⟩; have hb5 := hb4.trans hx5; clear hb4 hx5)
      | (go_at_call 17; have hq := hb3; clear hq; refine (Hgr.out _ (Hx0.out.trans hb3)).mono ?_; rintro e w4 ⟨rfl, hx4⟩; have hb4 := hb3.trans hx4; clear hb3 hx4)
      | (go_at_call 23; have hq := hb2; clear hq; refine (Ha2.out _).mono ?_; rintro e w3 ⟨rfl, hx3⟩; have hb3 := hb2.trans hx3; clear hb2 hx3)
      | (go_at_call 23; refine (Ha1.out _).mono ?_; rintro e w2 ⟨rfl, hx2⟩; have hb2 := hb1.trans hx2; clear hb1 hx2)
      | (go_at_call 46; refine (alive_any _).mono ?_; rintro e w1 ⟨rfl, hx1⟩; have hb1 := hb0.trans hx1; clear hb0 hx1))
    have HX := Lib.hid hX
    clear hX
    go_loopw [101] (fun i wr => ∃ k : Nat, k ≤ nh ∧ i = .int .i64 k ∧ Ext w5 wr) (fun i _ => nh - (intOf i).toNat)
    case atStart => exact ⟨0, by omega, rfl, Ext.refl _⟩
    case round =>
      obtain ⟨k, hk, rfl, hxr⟩ := hrel
      by_cases hlt : k < nh
      · have hki : (k : Int) < (nh : Int) := by omega
        have hk1 : (k : Int) < ((nh + 1 : Nat) : Int) := by omega
        have hk2 : (k : Int) + 1 < ((nh + 1 : Nat) : Int) := by omega
        have hw1 : IntKind.i64.wrap ((k : Int) + 1) = ((k + 1 : Nat) : Int) := by rw [IntKind.wrap_i64]; omega
        obtain ⟨ad, rfl, r0, r1, r2, r3, r4⟩ := Hhg.out k hlt
        have hb6 := hb5.trans hxr
        have hxx := Hx0.out.trans hb6
        have q0 : ∀ w', Ext wr w' → _ := fun w' he => r0 w' (hxx.trans he)
        have q1 : ∀ w', Ext wr w' → _ := fun w' he => r1 w' (hxx.trans he)
        have q2 : ∀ w', Ext wr w' → _ := fun w' he => r2 w' (hxx.trans he)
        have q3 : ∀ w', Ext wr w' → _ := fun w' he => r3 w' (hxx.trans he)
        have q4 : ∀ w', Ext wr w' → _ := fun w' he => r4 w' (hxx.trans he)
        clear r0 r1 r2 r3 r4
        obtain ⟨gx, ee, x0, x1, x2, x3, x4⟩ := HX.out.at_ (k := k) (by rw [Hpl.out]; omega)
        subst ee
        obtain ⟨_, ee, y0, y1, y2, y3, y4⟩ := HX.out.at_ (k := k + 1) (by rw [Hpl.out]; omega)
        cases ee
        simp only [Hpt.out k (by omega), Hpt.out (k + 1) (by omega)] at x0 x1 x2 x3 x4 y0 y1 y2 y3 y4
        obtain ⟨a, b, c', hca, htn⟩ := Hnum.out k hlt
        have Hca := Lib.hid hca
        have Htn := Lib.hid htn
        clear hca htn Hnum Hhg Hpt HX
        generalize HA k = h at *
        generalize PF k = P1 at *
        generalize PF (k + 1) = P2 at *
        obtain ⟨⟨hax, hay⟩, ⟨hbx, hby⟩, hang⟩ := h
        simp only at q0 q1 q2 q3 q4 Hca
        go_wp2_with (go_at_call 23; refine (Hca.out _).mono ?_; rintro e w6 ⟨rfl, hx6⟩)
        have hx7 : Ext w5 w6 := (hxr.alloc (.cells #[vint hax, vint hay, vint hbx, vint hby, vint hang] 85)).trans hx6
        have z0 : ∀ w', Ext w6 w' → _ := fun w' he => x0 w' (hx7.trans he)
        have z1 : ∀ w', Ext w6 w' → _ := fun w' he => x1 w' (hx7.trans he)
        have z2 : ∀ w', Ext w6 w' → _ := fun w' he => x2 w' (hx7.trans he)
        have z3 : ∀ w', Ext w6 w' → _ := fun w' he => x3 w' (hx7.trans he)
        have z4 : ∀ w', Ext w6 w' → _ := fun w' he => x4 w' (hx7.trans he)
        have z5 : ∀ w', Ext w6 w' → _ := fun w' he => y0 w' (hx7.trans he)
        have z6 : ∀ w', Ext w6 w' → _ := fun w' he => y1 w' (hx7.trans he)
        have z7 : ∀ w', Ext w6 w' → _ := fun w' he => y2 w' (hx7.trans he)
        have z8 : ∀ w', Ext w6 w' → _ := fun w' he => y3 w' (hx7.trans he)
        have z9 : ∀ w', Ext w6 w' → _ := fun w' he => y4 w' (hx7.trans he)
        clear x0 x1 x2 x3 x4 y0 y1 y2 y3 y4 q0 q1 q2 q3 q4 l0 l1
        have Hx7 := Lib.hid hx7
        clear hx7 hxr hx6 hxx hb6
        have ez : ∀ a b, Ext w6 ((w6.alloc a).alloc b).drew := fun _ _ => (((Ext.refl _).alloc _).alloc _).drew
        have ez1 : ∀ a, Ext w6 (w6.alloc a).drew := fun _ => ((Ext.refl _).alloc _).drew
        obtain ⟨⟨m1, m2, m3, m4, m5, e1, e2, e3, e4, e5, e6⟩, ⟨l1, l2, l3, l4, l5, f1, f2, f3, f4, f5, f6⟩⟩ := Htn.out
        clear Htn
        go_region
        all_goals
          clear ez ez1 z0 z1 z2 z3 z4 z5 z6 z7 z8 z9
          go_wp2
          go_roundw
          case rel => exact ⟨k + 1, by omega, by go_num, Hx7.out.trans (((Ext.refl _).alloc _).alloc _).drew⟩
          case measure => simp [intOf]; omega
      · go_wp2
        go_ret
        exact ⟨rfl, Hx0.out.trans (hb5.trans hxr)⟩
theorem angles_law (A : Option Addr) (c : Nat) (ps : List (List Sp)) (B : Option Addr) (d : Nat) (hs : List Hg) (n m : Int) (w : World) (hA : PnRow w A ps) (hB : HRow w B hs) :
    Calls Try.prog 9 #[.agg #[.slice A ps.length c, .slice B hs.length d], .int .i64 n, .int .i64 m] w fun e w' => e = .returned (.bool true) ∧ Ext w w' := by
  by_cases hg : greatP ps hs
  · exact angles_law_out A c ps B d hs n m w hA hg
  · by_cases hl : linkP ps hs
    · exact angles_law_in A c ps B d hs n m w hA hB hg hl
    · exact angles_law_bad A c ps B d hs n m w hA hB hg hl
end Go.Proofs.Yteilglljigjefaa
