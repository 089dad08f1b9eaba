/- A panel is valid: by the reference. -/
import Derived.Test.YteilglljigjefaaR12
import Derived.Test.YteilglljigjefaaR11
namespace Go.Proofs.Yteilglljigjefaa
open Go.RowKit
section
variable {P : Program} {ops : Array Oper} {S : Spec} {w0 : World}
/-- An operation that is not wanted. -/
theorem calm_skip {Q : Act → Fx → Prop} {o : Oper} {l : List Oper} {k : Nat} {a : Act} {F : Fx} (hw : Region.wanted o (yielded ops a.tmps) = false)
    (hn : wpCalm P ops S w0 Q l (k + 1) (a.put o.dst undef) F) : wpCalm P ops S w0 Q (o :: l) k a F :=
  ⟨fun h => by (rw [hw] at h; cases h), fun h => by (rw [hw] at h; cases h), fun _ => hn⟩
end
theorem panelB_good {l : List Sp} (h : panelP l) : true = panelB l := (decide_eq_true h).symm
theorem panelB_bad {l : List Sp} (h : ¬ panelP l) : false = panelB l := (decide_eq_false h).symm
set_option maxRecDepth 100000 in
set_option maxHeartbeats 4000000 in
theorem vpanel_size (A : Option Addr) (c n : Nat) (w : World) (hl : n ≤ 1000) (h : ¬ (3 ≤ n ∧ n ≤ 8)) :
    Calls Try.prog 63 #[.slice A n c] w fun e w' => e = .returned (.bool false) ∧ Ext w w' := by
  by_cases h1 : n < 3
  · have d1 : decide ((n : Int) < 3) = true := by simp; omega
    go_enter Try.func63, Try.ntmps63
    go_wp2
    go_ret
    exact ⟨rfl, Ext.refl _⟩
  · have d1 : decide ((n : Int) < 3) = false := by simp; omega
    have d2 : decide ((8 : Int) < (n : Int)) = true := by simp; omega
    go_enter Try.func63, Try.ntmps63
    go_wp2
    go_ret
    exact ⟨rfl, Ext.refl _⟩
set_option maxRecDepth 100000 in
set_option maxHeartbeats 8000000 in
theorem vpanel_loops (A : Option Addr) (c : Nat) (l : List Sp) (w : World) (hA : SRow w A l) (h3 : 3 ≤ l.length) (h8 : l.length ≤ 8) :
    Calls Try.prog 63 #[.slice A l.length c] w fun e w' => e = .returned (.bool (panelB l)) ∧ Ext w w' := by
  have good : (∀ k, k < l.length → spotD (ptA l k) = true) → (∀ i, i < l.length → ∀ k, k < l.length → cvxAt l i k) → true = panelB l := fun h1 h2 => panelB_good ⟨⟨h3, h8⟩, fun s hs => by
    obtain ⟨k, hk, rfl⟩ := List.getElem_of_mem hs
    have := h1 k hk
    rw [ptA_at hk] at this
    simpa [spotD] using this, h2⟩
  have bad1 : ∀ k, k < l.length → spotD (ptA l k) = false → false = panelB l := fun k hk h => panelB_bad fun hp => by
    have := hp.spot hk
    simp [spotD, this] at h
  have bad : ∀ i, i < l.length → ∀ k, k < l.length → ¬ cvxAt l i k → false = panelB l := fun i hi k hk h => panelB_bad fun hp => h (hp.2.2 i hi k hk)
  have hcv : ∀ i k, cvxAt l i k ↔ (k ≠ i → k ≠ (i + 1) % l.length → 0 < sd (ptA l i) (ptA l ((i + 1) % l.length)) (ptA l k)) := fun _ _ => Iff.rfl
  have hat := fun k (hk : k < l.length) => hA.at_ hk
  have hsp := fun k (w' : World) => spot_any (ptA l k) w'
  have hlf : (∀ k, k < l.length → spotD (ptA l k) = true) → ∀ i, i < l.length → ∀ k, k < l.length → ∀ w' : World, Calls Try.prog 88 #[(ptA l i).val, (ptA l ((i + 1) % l.length)).val, (ptA l k).val] w' fun e w'' => e = .returned (.int .i64 (sd (ptA l i) (ptA l ((i + 1) % l.length)) (ptA l k))) ∧ Ext w' w'' := fun h i hi k hk w' => by
    have hq : ∀ k, k < l.length → spotB (ptA l k) := fun k hk => by have := h k hk; simpa [spotD] using this
    exact left_any _ _ _ w' (hq i hi) (hq _ (Nat.mod_lt _ (by omega))) (hq k hk)
  have Good := Lib.hid good
  have Bad1 := Lib.hid bad1
  have Bad := Lib.hid bad
  have Hcv := Lib.hid hcv
  have Hat := Lib.hid hat
  have Hsp := Lib.hid hsp
  have Hlf := Lib.hid hlf
  clear good bad1 bad hcv hat hsp hlf hA
  generalize panelB l = E at Good Bad1 Bad ⊢
  generalize l.length = n at *
  have d1 : decide ((n : Int) < 3) = false := by simp; omega
  have d2 : decide ((8 : Int) < (n : Int)) = false := by simp; omega
  go_enter Try.func63, Try.ntmps63
  go_wp2
  go_loopw [3] (fun i wr => ∃ k : Nat, k ≤ n ∧ i = .int .i64 k ∧ Ext w wr ∧ ∀ j, j < k → spotD (ptA l j) = true) (fun i _ => n - (intOf i).toNat)
  case atStart => exact ⟨0, by omega, rfl, Ext.refl _, fun i h => absurd h (by omega)⟩
  case round =>
    obtain ⟨k, hk, rfl, hex, hall⟩ := hrel
    have Hall := Lib.hid hall
    clear hall
    by_cases hlt : k < n
    · obtain ⟨ad, rfl, r0, r1⟩ := Hat.out k hlt
      have q0 : ∀ w', Ext wr w' → _ := fun w' he => r0 w' (hex.trans he)
      have q1 : ∀ w', Ext wr w' → _ := fun w' he => r1 w' (hex.trans he)
      have hs := Hsp.out k
      have hb := Bad1.out k hlt
      have hnx : spotD (ptA l k) = true → ∀ j, j < k + 1 → spotD (ptA l j) = true := fun h j hj => by
        by_cases e : j = k
        · subst e; exact h
        · exact Hall.out j (by omega)
      have Hs := Lib.hid hs
      have Hb := Lib.hid hb
      have Hnx := Lib.hid hnx
      clear r0 r1 hs hb hnx Hat Hsp Good Bad1 Bad Hcv Hlf
      generalize spotD (ptA l k) = S at Hs Hb Hnx
      generalize ptA l k = s at q0 q1 Hs
      cases S
      · have hb := Hb.out rfl
        have Hb' := Lib.hid hb
        clear hb Hb Hnx
        go_wp2_with (go_at_call 83; refine (Hs.out _).mono ?_; rintro e w5 ⟨rfl, hx5⟩)
        go_ret
        exact ⟨ret_b Hb'.out, hex.trans hx5⟩
      · have hb := Hnx.out rfl
        have Hb' := Lib.hid hb
        clear hb Hb Hnx
        go_wp2_with (go_at_call 83; refine (Hs.out _).mono ?_; rintro e w5 ⟨rfl, hx5⟩)
        go_roundw
        case rel => exact ⟨k + 1, by omega, by go_num, hex.trans hx5, Hb'.out⟩
        case measure => simp [intOf]; omega
    · obtain rfl : n = k := by omega
      have hlf := Hlf.out Hall.out
      have hgd := Good.out Hall.out
      have Hlf' := Lib.hid hlf
      have Hgd := Lib.hid hgd
      clear hlf hgd Hlf Good Hall Bad1 Hsp
      go_wp2
      obtain ⟨wo, rfl⟩ : ∃ wo : World, wo = wr := ⟨_, rfl⟩
      go_loopw [4] (fun i wr => ∃ k : Nat, k ≤ n ∧ i = .int .i64 k ∧ Ext w wr ∧ ∀ i, i < k → ∀ k, k < n → cvxAt l i k) (fun i _ => n - (intOf i).toNat)
      case atStart => exact ⟨0, by omega, rfl, hex, fun i h => absurd h (by omega)⟩
      case round =>
        obtain ⟨i, hi, rfl, hex, hall⟩ := hrel
        have Hall := Lib.hid hall
        clear hall
        by_cases hlt : i < n
        · have e2 : ((i : Int) + 1).tmod (n : Int) = (((i + 1) % n : Nat) : Int) := by
            rw [Int.tmod_eq_emod_of_nonneg (by omega)]; exact (by push_cast; rfl)
          have e3 : ((n : Int) = 0) = False := by simp; omega
          have hi1 := Nat.mod_lt (i + 1) (show 0 < n by omega)
          have hd := Hlf'.out i hlt
          have hcv := Hcv.out i
          have hbd := Bad.out i hlt
          have Hd := Lib.hid hd
          have Hcv' := Lib.hid hcv
          have Hbd := Lib.hid hbd
          clear hd hcv hbd Hlf' Hcv Bad
          generalize (i + 1) % n = i1 at *
          have b1 : (i1 : Int) < (n : Int) := by omega
          have b2 : (i : Int) < (n : Int) := by omega
          go_wp2
          obtain ⟨wo, rfl⟩ : ∃ wo : World, wo = wr := ⟨_, rfl⟩
          go_loopw [6] (fun i' wr => ∃ k : Nat, k ≤ n ∧ i' = .int .i64 k ∧ Ext w wr ∧ ∀ k', k' < k → cvxAt l i k') (fun i _ => n - (intOf i).toNat)
          case atStart => exact ⟨0, by omega, rfl, hex, fun i h => absurd h (by omega)⟩
          case round =>
            obtain ⟨k, hk, rfl, hex, hall2⟩ := hrel
            have Hall2 := Lib.hid hall2
            clear hall2
            by_cases hlt2 : k < n
            · have b3 : (k : Int) < (n : Int) := by omega
              have hnx : cvxAt l i k → ∀ k', k' < k + 1 → cvxAt l i k' := fun h k' hj => by
                by_cases e : k' = k
                · subst e; exact h
                · exact Hall2.out k' (by omega)
              have hcvk := Hcv'.out k
              have hbk := Hbd.out k hlt2
              have hdk := Hd.out k hlt2
              obtain ⟨ad, rfl, a0, a1⟩ := Hat.out i hlt
              obtain ⟨_, ee, m0, m1⟩ := Hat.out i1 hi1
              cases ee
              obtain ⟨_, ee, c0, c1⟩ := Hat.out k hlt2
              cases ee
              have p0 : ∀ w', Ext wr w' → _ := fun w' he => a0 w' (hex.trans he)
              have p1 : ∀ w', Ext wr w' → _ := fun w' he => a1 w' (hex.trans he)
              have p2 : ∀ w', Ext wr w' → _ := fun w' he => m0 w' (hex.trans he)
              have p3 : ∀ w', Ext wr w' → _ := fun w' he => m1 w' (hex.trans he)
              have p4 : ∀ w', Ext wr w' → _ := fun w' he => c0 w' (hex.trans he)
              have p5 : ∀ w', Ext wr w' → _ := fun w' he => c1 w' (hex.trans he)
              have Hnx := Lib.hid hnx
              have Hcvk := Lib.hid hcvk
              have Hbk := Lib.hid hbk
              have Hdk := Lib.hid hdk
              clear a0 a1 m0 m1 c0 c1 hnx hcvk hbk hdk Hat Hcv' Hbd Hd
              generalize hD : sd (ptA l i) (ptA l i1) (ptA l k) = D at Hdk Hcvk
              clear hD
              generalize ptA l i = u at *
              generalize ptA l i1 = v at *
              generalize ptA l k = z at *
              by_cases hki : k = i
              · have hc := Hnx.out (Hcvk.out.2 fun h => absurd hki h)
                have Hc := Lib.hid hc
                have d3 : ((k : Int) != (i : Int)) = false := by simp [hki]
                clear hc Hnx Hcvk Hbk Hdk hki
                go_wp2
                refine wp_region_calm 24 (fun _ _ _ _ => True) (fun _ _ _ _ _ _ h => h) (by kernel_rfl) (by kernel_rfl) ?_
                simp only [List.take_succ_cons, List.take_zero, List.drop_succ_cons, List.drop_zero]
                refine calm_quiet calm_mono_final 21 (by kernel_rfl) ?_
                simp only [List.take_succ_cons, List.take_zero, List.drop_succ_cons, List.drop_zero]
                repeat (go_big_quiet_step (fail))
                refine wpQuiet_nil ?_
                refine calm_skip (by kernel_rfl) ?_
                simp only [Act.put, List.setIfInBounds_toArray, List.set_cons_succ, List.set_cons_zero]
                refine calm_quiet calm_mono_final 2 (by kernel_rfl) ?_
                simp only [List.take_succ_cons, List.take_zero, List.drop_succ_cons, List.drop_zero]
                repeat (go_big_quiet_step (fail))
                refine wpQuiet_nil ?_
                refine calm_nil fun w3 he3 _ => ?_
                go_wp2
                go_roundw
                case rel => exact ⟨k + 1, by omega, by go_num, hex.trans he3, Hc.out⟩
                case measure => simp [intOf]; omega
              · have d3 : ((k : Int) != (i : Int)) = true := by simp; omega
                by_cases hk1 : k = i1
                · have hc := Hnx.out (Hcvk.out.2 fun _ h => absurd hk1 h)
                  have Hc := Lib.hid hc
                  have d4 : ((k : Int) != (i1 : Int)) = false := by simp [hk1]
                  clear hc Hnx Hcvk Hbk Hdk hki hk1
                  go_wp2
                  refine wp_region_calm 24 (fun _ _ _ _ => True) (fun _ _ _ _ _ _ h => h) (by kernel_rfl) (by kernel_rfl) ?_
                  simp only [List.take_succ_cons, List.take_zero, List.drop_succ_cons, List.drop_zero]
                  refine calm_quiet calm_mono_final 21 (by kernel_rfl) ?_
                  simp only [List.take_succ_cons, List.take_zero, List.drop_succ_cons, List.drop_zero]
                  repeat (go_big_quiet_step (fail))
                  refine wpQuiet_nil ?_
                  refine calm_skip (by kernel_rfl) ?_
                  simp only [Act.put, List.setIfInBounds_toArray, List.set_cons_succ, List.set_cons_zero]
                  refine calm_quiet calm_mono_final 2 (by kernel_rfl) ?_
                  simp only [List.take_succ_cons, List.take_zero, List.drop_succ_cons, List.drop_zero]
                  repeat (go_big_quiet_step (fail))
                  refine wpQuiet_nil ?_
                  refine calm_nil fun w3 he3 _ => ?_
                  go_wp2
                  go_roundw
                  case rel => exact ⟨k + 1, by omega, by go_num, hex.trans he3, Hc.out⟩
                  case measure => simp [intOf]; omega
                · have d4 : ((k : Int) != (i1 : Int)) = true := by simp; omega
                  by_cases hD : 0 < D
                  · have d5 : decide (D ≤ 0) = false := by simp; omega
                    have hc := Hnx.out (Hcvk.out.2 fun _ _ => hD)
                    have Hc := Lib.hid hc
                    clear hc Hnx Hcvk Hbk hki hk1 hD
                    go_wp2
                    refine wp_region_calm 24 (fun j _ v _ => j = 21 → v = .int .i64 D) (fun _ _ _ _ _ _ h => h) (by kernel_rfl) (by kernel_rfl) ?_
                    simp only [List.take_succ_cons, List.take_zero, List.drop_succ_cons, List.drop_zero]
                    refine calm_quiet calm_mono_final 21 (by kernel_rfl) ?_
                    simp only [List.take_succ_cons, List.take_zero, List.drop_succ_cons, List.drop_zero]
                    repeat (go_big_quiet_step (fail))
                    refine wpQuiet_nil ?_
                    refine calm_call calm_mono_final 88 #[u.val, v.val, z.val] rfl (fun w => ?_) (fun w he hF => ?_) ?_
                    · go_simp
                    · exact (Hdk.out w).mono fun e w'' ⟨he', hx⟩ => ⟨_, he', hx, fun _ => rfl⟩
                    rintro _ _ _ h
                    cases h rfl
                    simp only [Act.put, List.setIfInBounds_toArray, List.set_cons_succ, List.set_cons_zero]
                    refine calm_quiet calm_mono_final 2 (by kernel_rfl) ?_
                    simp only [List.take_succ_cons, List.take_zero, List.drop_succ_cons, List.drop_zero]
                    repeat (go_big_quiet_step (fail))
                    refine wpQuiet_nil ?_
                    refine calm_nil fun w3 he3 _ => ?_
                    go_wp2
                    go_roundw
                    case rel => exact ⟨k + 1, by omega, by go_num, hex.trans he3, Hc.out⟩
                    case measure => simp [intOf]; omega
                  · have d5 : decide (D ≤ 0) = true := by simp; omega
                    have hc := Hbk.out fun h => hD (Hcvk.out.1 h hki hk1)
                    have Hc := Lib.hid hc
                    clear hc Hnx Hcvk Hbk hki hk1 hD
                    go_wp2
                    refine wp_region_calm 24 (fun j _ v _ => j = 21 → v = .int .i64 D) (fun _ _ _ _ _ _ h => h) (by kernel_rfl) (by kernel_rfl) ?_
                    simp only [List.take_succ_cons, List.take_zero, List.drop_succ_cons, List.drop_zero]
                    refine calm_quiet calm_mono_final 21 (by kernel_rfl) ?_
                    simp only [List.take_succ_cons, List.take_zero, List.drop_succ_cons, List.drop_zero]
                    repeat (go_big_quiet_step (fail))
                    refine wpQuiet_nil ?_
                    refine calm_call calm_mono_final 88 #[u.val, v.val, z.val] rfl (fun w => ?_) (fun w he hF => ?_) ?_
                    · go_simp
                    · exact (Hdk.out w).mono fun e w'' ⟨he', hx⟩ => ⟨_, he', hx, fun _ => rfl⟩
                    rintro _ _ _ h
                    cases h rfl
                    simp only [Act.put, List.setIfInBounds_toArray, List.set_cons_succ, List.set_cons_zero]
                    refine calm_quiet calm_mono_final 2 (by kernel_rfl) ?_
                    simp only [List.take_succ_cons, List.take_zero, List.drop_succ_cons, List.drop_zero]
                    repeat (go_big_quiet_step (fail))
                    refine wpQuiet_nil ?_
                    refine calm_nil fun w3 he3 _ => ?_
                    go_wp2
                    go_ret
                    exact ⟨ret_b Hc.out, hex.trans he3⟩
            · obtain rfl : n = k := by omega
              clear Hat Hcv' Hbd Hd
              go_wp2
              go_roundw
              case rel => exact ⟨i + 1, by omega, by go_num, hex, fun i' h => by
                by_cases e : i' = i
                · subst e; exact Hall2.out
                · exact Hall.out i' (by omega)⟩
              case measure => simp [intOf]; omega
        · obtain rfl : n = i := by omega
          clear Hlf' Hcv Bad Hat
          go_wp2
          go_ret
          exact ⟨ret_b (Hgd.out Hall.out), hex⟩
theorem vpanel_any (A : Option Addr) (c : Nat) (l : List Sp) (w : World) (hA : SRow w A l) (hl : l.length ≤ 1000) :
    Calls Try.prog 63 #[.slice A l.length c] w fun e w' => e = .returned (.bool (panelB l)) ∧ Ext w w' := by
  by_cases h : 3 ≤ l.length ∧ l.length ≤ 8
  · exact vpanel_loops A c l w hA h.1 h.2
  · rw [← panelB_bad fun hp => h hp.1]
    exact vpanel_size A c _ w hl h
end Go.Proofs.Yteilglljigjefaa

/- A linkage is valid: by the reference. -/
namespace Go.Proofs.Yteilglljigjefaa
open Go.RowKit
theorem linkB_good {ps : List (List Sp)} {hs : List Hg} (h : linkP ps hs) : true = linkB ps hs := (decide_eq_true h).symm
theorem linkB_bad {ps : List (List Sp)} {hs : List Hg} (h : ¬ linkP ps hs) : false = linkB ps hs := (decide_eq_false h).symm
theorem hingeB_iff (h : Hg) : hingeB h ↔ spotD h.a = true ∧ spotD h.b = true ∧ withinB h.ang 0 35 = true := by
  rw [withinB_true]; simp [hingeB, spotD]
set_option maxRecDepth 100000 in
set_option maxHeartbeats 4000000 in
theorem valid_size (A : Option Addr) (c np nh : Nat) (B : Option Addr) (d : Nat) (w : World) (hp : np ≤ 1000) (hbad : ¬ ((1 ≤ np ∧ np ≤ 4) ∧ nh + 1 = np)) :
    Calls Try.prog 65 #[.agg #[.slice A np c, .slice B nh d]] w fun e w' => e = .returned (.bool false) ∧ Ext w w' := by
  by_cases h1 : np < 1
  · have d1 : decide ((np : Int) < 1) = true := by simp; omega
    go_enter Try.func65, Try.ntmps65
    go_wp2
    all_goals go_ret
    all_goals exact ⟨rfl, (Ext.refl _).alloc _⟩
  · have d1 : decide ((np : Int) < 1) = false := by simp; omega
    by_cases h2 : 4 < np
    · have d2 : decide ((4 : Int) < (np : Int)) = true := by simp; omega
      go_enter Try.func65, Try.ntmps65
      go_wp2
      all_goals go_ret
      all_goals exact ⟨rfl, (Ext.refl _).alloc _⟩
    · have d2 : decide ((4 : Int) < (np : Int)) = false := by simp; omega
      have d3 : ((nh : Int) != (np : Int) - 1) = true := by simp; omega
      go_enter Try.func65, Try.ntmps65
      go_wp2
      all_goals go_ret
      all_goals exact ⟨rfl, (Ext.refl _).alloc _⟩
set_option maxRecDepth 100000 in
set_option maxHeartbeats 8000000 in
theorem valid_loops (A : Option Addr) (c : Nat) (ps : List (List Sp)) (B : Option Addr) (d : Nat) (hs : List Hg) (w : World) (hA : PnRow w A ps) (hB : HRow w B hs) (hp : ∀ k, k < ps.length → (pnA ps k).length ≤ 1000) (hn : (1 ≤ ps.length ∧ ps.length ≤ 4) ∧ hs.length + 1 = ps.length) :
    Calls Try.prog 65 #[.agg #[.slice A ps.length c, .slice B hs.length d]] w fun e w' => e = .returned (.bool (linkB ps hs)) ∧ Ext w w' := by
  have good : (∀ k, k < ps.length → panelB (pnA ps k) = true) → (∀ k, k < hs.length → hingeB (hgA hs k)) → true = linkB ps hs := fun h1 h2 => linkB_good (linkP_iff.2 ⟨hn.1, hn.2, fun k hk => of_decide_eq_true (h1 k hk), h2⟩)
  have bad1 : ∀ k, k < ps.length → panelB (pnA ps k) = false → false = linkB ps hs := fun k hk h => linkB_bad fun hl => absurd ((linkP_iff.1 hl).2.2.1 k hk) (of_decide_eq_false h)
  have bad2 : ∀ k, k < hs.length → ¬ hingeB (hgA hs k) → false = linkB ps hs := fun k hk h => linkB_bad fun hl => h ((linkP_iff.1 hl).2.2.2 k hk)
  have hpa := fun k (hk : k < ps.length) => hA.at_ hk
  have hha := fun k (hk : k < hs.length) => hB.at_ hk
  have hcp := fun (k : Nat) (hk : k < ps.length) (A : Option Addr) (c : Nat) (w' : World) (h : SRow w' A (pnA ps k)) => vpanel_any A c (pnA ps k) w' h (hp k hk)
  have hsp := fun (s : Sp) (w' : World) => spot_any s w'
  have hwi := fun (n lo hi : Int) (w' : World) => within_any n lo hi w'
  have Good := Lib.hid good
  have Bad1 := Lib.hid bad1
  have Bad2 := Lib.hid bad2
  have Hpa := Lib.hid hpa
  have Hha := Lib.hid hha
  have Hcp := Lib.hid hcp
  have Hsp := Lib.hid hsp
  have Hwi := Lib.hid hwi
  clear good bad1 bad2 hpa hha hcp hA hB hp hsp hwi
  generalize linkB ps hs = E at Good Bad1 Bad2 ⊢
  generalize ps.length = np at *
  generalize hs.length = nh at *
  have d1 : decide ((np : Int) < 1) = false := by simp; omega
  have d2 : decide ((4 : Int) < (np : Int)) = false := by simp; omega
  have d3 : ((nh : Int) != (np : Int) - 1) = false := by simp; omega
  have kb : Blk (w.alloc (.cells #[.slice A np c, .slice B nh d] 25)) w.heap.size [.slice A np c, .slice B nh d] := Blk.new _ _
  have b0 := kb.at_ 0 rfl
  have b1 := kb.at_ 1 rfl
  have hx0 : Ext w (w.alloc (.cells #[.slice A np c, .slice B nh d] 25)) := (Ext.refl _).alloc _
  have B0 := Lib.hid b0
  have B1 := Lib.hid b1
  have Hx0 := Lib.hid hx0
  clear b0 b1 kb hx0
  go_enter Try.func65, Try.ntmps65
  go_wp2
  generalize (w.alloc (.cells #[.slice A np c, .slice B nh d] 25)) = w0 at B0 B1 Hx0 ⊢
  go_loopw [3] (fun i wr => ∃ k : Nat, k ≤ np ∧ i = .int .i64 k ∧ Ext w0 wr ∧ ∀ j, j < k → panelB (pnA ps j) = true) (fun i _ => np - (intOf i).toNat)
  case atStart => exact ⟨0, by omega, rfl, Ext.refl _, fun i h => absurd h (by omega)⟩
  case round =>
    obtain ⟨k, hk, rfl, hex, hall⟩ := hrel
    have Hall := Lib.hid hall
    clear hall
    have p0 : ∀ w', Ext wr w' → _ := fun w' he => B0.out w' (hex.trans he)
    by_cases hlt : k < np
    · obtain ⟨ad, B', c', rfl, r0, hrow⟩ := Hpa.out k hlt
      have hxr := Hx0.out.trans hex
      have q0 : ∀ w', Ext wr w' → _ := fun w' he => r0 w' (hxr.trans he)
      have hcp := fun (w' : World) (he : Ext wr w') => Hcp.out k hlt B' c' w' (hrow.ext (hxr.trans he))
      have hnx : panelB (pnA ps k) = true → ∀ j, j < k + 1 → panelB (pnA ps j) = true := fun h j hj => by
        by_cases e : j = k
        · subst e; exact h
        · exact Hall.out j (by omega)
      have hb := Bad1.out k hlt
      have Hc := Lib.hid hcp
      have Hnx := Lib.hid hnx
      have Hb := Lib.hid hb
      clear r0 hrow hcp Hpa Hcp hnx hb Hall Good Bad1 Bad2 Hha Hsp Hwi
      generalize panelB (pnA ps k) = S at Hc Hnx Hb
      cases S
      · have hb := Hb.out rfl
        have Hb' := Lib.hid hb
        clear hb Hb Hnx
        go_wp2_with (go_at_call 63; refine (Hc.out _ (Ext.refl _)).mono ?_; rintro e w5 ⟨rfl, hx5⟩)
        go_ret
        exact ⟨ret_b Hb'.out, hxr.trans hx5⟩
      · have hb := Hnx.out rfl
        have Hb' := Lib.hid hb
        clear hb Hb Hnx
        go_wp2_with (go_at_call 63; refine (Hc.out _ (Ext.refl _)).mono ?_; rintro e w5 ⟨rfl, hx5⟩)
        go_roundw
        case rel => exact ⟨k + 1, by omega, by go_num, hex.trans hx5, Hb'.out⟩
        case measure => simp [intOf]; omega
    · obtain rfl : np = k := by omega
      have Hps := Hall
      clear Hall Hpa Hcp Bad1
      go_wp2
      clear p0
      obtain ⟨wo, rfl⟩ : ∃ wo : World, wo = wr := ⟨_, rfl⟩
      go_loopw [4] (fun i wr => ∃ k : Nat, k ≤ nh ∧ i = .int .i64 k ∧ Ext w0 wr ∧ ∀ j, j < k → hingeB (hgA hs j)) (fun i _ => nh - (intOf i).toNat)
      case atStart => exact ⟨0, by omega, rfl, hex, fun i h => absurd h (by omega)⟩
      case round =>
        obtain ⟨k, hk, rfl, hex, hall⟩ := hrel
        have Hall := Lib.hid hall
        clear hall
        have p1 : ∀ w', Ext wr w' → _ := fun w' he => B1.out w' (hex.trans he)
        by_cases hlt : k < nh
        · obtain ⟨ad, rfl, r0, r1, r2, r3, r4⟩ := Hha.out k hlt
          have hxr := Hx0.out.trans hex
          have q0 : ∀ w', Ext wr w' → _ := fun w' he => r0 w' (hxr.trans he)
          have q1 : ∀ w', Ext wr w' → _ := fun w' he => r1 w' (hxr.trans he)
          have q2 : ∀ w', Ext wr w' → _ := fun w' he => r2 w' (hxr.trans he)
          have q3 : ∀ w', Ext wr w' → _ := fun w' he => r3 w' (hxr.trans he)
          have q4 : ∀ w', Ext wr w' → _ := fun w' he => r4 w' (hxr.trans he)
          clear r0 r1 r2 r3 r4 Hha
          have hnx : hingeB (hgA hs k) → ∀ j, j < k + 1 → hingeB (hgA hs j) := fun h j hj => by
            by_cases e : j = k
            · subst e; exact h
            · exact Hall.out j (by omega)
          have hb2 := Bad2.out k hlt
          rw [hingeB_iff] at hnx hb2
          have sa := Hsp.out (hgA hs k).a
          have sb := Hsp.out (hgA hs k).b
          have sw := Hwi.out (hgA hs k).ang 0 35
          have k9 : ∀ w', Ext (wr.alloc (.cells #[vint (hgA hs k).a.x, vint (hgA hs k).a.y, vint (hgA hs k).b.x, vint (hgA hs k).b.y, vint (hgA hs k).ang] 85)) w' → Blk w' wr.heap.size #[vint (hgA hs k).a.x, vint (hgA hs k).a.y, vint (hgA hs k).b.x, vint (hgA hs k).b.y, vint (hgA hs k).ang].toList := fun w' he => (Blk.new _ _).ext he
          have Hnx := Lib.hid hnx
          have Hb2 := Lib.hid hb2
          have Sa := Lib.hid sa
          have Sb := Lib.hid sb
          have Sw := Lib.hid sw
          have K9 := Lib.hid k9
          clear hnx hb2 sa sb sw k9 Hall Bad2 Hsp Hwi Good Hps
          generalize spotD (hgA hs k).a = S1 at *
          generalize spotD (hgA hs k).b = S2 at *
          generalize withinB (hgA hs k).ang 0 35 = S3 at *
          obtain ⟨⟨ax, ay⟩, ⟨bx, bY⟩, an⟩ := hgA hs k
          simp only at q0 q1 q2 q3 q4 Sa Sb Sw K9
          cases S1
          · have hb := Hb2.out (by simp)
            have Hb := Lib.hid hb
            clear hb Hb2 Hnx
            go_wp2_with (go_at_call 83; refine (Sa.out _).mono ?_; rintro e w5 ⟨rfl, hx5⟩)
            go_ret
            exact ⟨ret_b Hb.out, hxr.trans (((Ext.refl _).alloc _).trans hx5)⟩
          · cases S2
            · have hb := Hb2.out (by simp)
              have Hb := Lib.hid hb
              clear hb Hb2 Hnx
              go_wp2_with (first
                | (go_at_call 83; ((with_reducible refine (Sa.out _).mono ?_); rintro e w5 ⟨rfl, hx5⟩; have h5 := K9.out _ hx5; have s2 := h5.at_ 2 rfl; have s3 := h5.at_ 3 rfl; clear h5))
                | (go_at_call 83; ((with_reducible refine (Sb.out _).mono ?_); rintro e w6 ⟨rfl, hx6⟩)))
              go_ret
              exact ⟨ret_b Hb.out, hxr.trans ((((Ext.refl _).alloc _).trans hx5).trans hx6)⟩
            · cases S3
              · have hb := Hb2.out (by simp)
                have Hb := Lib.hid hb
                clear hb Hb2 Hnx
                go_wp2_with (first
                  | (go_at_call 83; ((with_reducible refine (Sa.out _).mono ?_); rintro e w5 ⟨rfl, hx5⟩; have h5 := K9.out _ hx5; have s2 := h5.at_ 2 rfl; have s3 := h5.at_ 3 rfl; have s4 := h5.at_ 4 rfl; clear h5))
                  | (go_at_call 83; ((with_reducible refine (Sb.out _).mono ?_); rintro e w6 ⟨rfl, hx6⟩))
                  | (go_at_call 58; refine (Sw.out _).mono ?_; rintro e w7 ⟨rfl, rfl⟩))
                go_ret
                exact ⟨ret_b Hb.out, hxr.trans ((((Ext.refl _).alloc _).trans hx5).trans hx6)⟩
              · have hb := Hnx.out (by simp)
                have Hb := Lib.hid hb
                clear hb Hb2 Hnx
                go_wp2_with (first
                  | (go_at_call 83; ((with_reducible refine (Sa.out _).mono ?_); rintro e w5 ⟨rfl, hx5⟩; have h5 := K9.out _ hx5; have s2 := h5.at_ 2 rfl; have s3 := h5.at_ 3 rfl; have s4 := h5.at_ 4 rfl; clear h5))
                  | (go_at_call 83; ((with_reducible refine (Sb.out _).mono ?_); rintro e w6 ⟨rfl, hx6⟩))
                  | (go_at_call 58; refine (Sw.out _).mono ?_; rintro e w7 ⟨rfl, rfl⟩))
                go_roundw
                case rel => exact ⟨k + 1, by omega, by go_num, hex.trans ((((Ext.refl _).alloc _).trans hx5).trans hx6), Hb.out⟩
                case measure => simp [intOf]; omega
        · obtain rfl : nh = k := by omega
          have hg := Good.out Hps.out Hall.out
          have Hg := Lib.hid hg
          clear hg Good Hps Hall Bad2 Hha
          go_wp2
          go_ret
          exact ⟨ret_b Hg.out, Hx0.out.trans hex⟩
theorem valid_any (A : Option Addr) (c : Nat) (ps : List (List Sp)) (B : Option Addr) (d : Nat) (hs : List Hg) (w : World) (hA : PnRow w A ps) (hB : HRow w B hs) (hl : ps.length ≤ 1000) (hp : ∀ k, k < ps.length → (pnA ps k).length ≤ 1000) :
    Calls Try.prog 65 #[.agg #[.slice A ps.length c, .slice B hs.length d]] w fun e w' => e = .returned (.bool (linkB ps hs)) ∧ Ext w w' := by
  by_cases h : (1 ≤ ps.length ∧ ps.length ≤ 4) ∧ hs.length + 1 = ps.length
  · exact valid_loops A c ps B d hs w hA hB hp h
  · rw [← linkB_bad fun hl => h ⟨hl.1, hl.2.1⟩]
    exact valid_size A c ps.length hs.length B d w hl h
end Go.Proofs.Yteilglljigjefaa

/- Poses and corners: by both. -/
namespace Go.Proofs.Yteilglljigjefaa
open Go.RowKit
theorem spot_elem : ElemInfo 27 (.agg #[.int .i64 0, .int .i64 0]) 2 16 := ⟨info_parts (by kernel_rfl), rfl, by decide⟩
abbrev OwnS (w1 w : World) (v : Value) (xs : List Sp) : Prop := Own w1 w 27 2 v xs.length (xs.map Sp.cells).flatten
theorem OwnS.row {w1 w : World} {A : Option Addr} {m c : Nat} {xs : List Sp} (h : OwnS w1 w (.slice A m c) xs) : SRow w A xs := Own.row h
theorem OwnP.row {w1 w : World} {A : Option Addr} {m c : Nat} {xs : List Ps} (h : OwnP w1 w (.slice A m c) xs) : PRow w A xs := Own.row h
/-- A linkage in memory. -/
structure Lk (w : World) (A : Option Addr) (ps : List (List Sp)) (B : Option Addr) (hs : List Hg) : Prop where
  hA : PnRow w A ps
  hB : HRow w B hs
  np : ps.length ≤ 1000
  nh : hs.length ≤ 1000
  hp : ∀ k, k < ps.length → (pnA ps k).length ≤ 1000
theorem Lk.ext {w w' : World} {A : Option Addr} {ps : List (List Sp)} {B : Option Addr} {hs : List Hg} (h : Lk w A ps B hs) (he : Ext w w') : Lk w' A ps B hs := ⟨h.hA.ext he, h.hB.ext he, h.np, h.nh, h.hp⟩
theorem Lk.check {w : World} {A : Option Addr} {ps : List (List Sp)} {B : Option Addr} {hs : List Hg} (h : Lk w A ps B hs) (c d : Nat) :
    Calls Try.prog 30 #[.agg #[.slice A ps.length c, .slice B hs.length d]] w fun e w' => e = .returned (.int .i64 (checkE ps hs)) ∧ Ext w w' := check_any A c ps B d hs w h.hA h.hB h.np h.hp
theorem Lk.valid {w : World} {A : Option Addr} {ps : List (List Sp)} {B : Option Addr} {hs : List Hg} (h : Lk w A ps B hs) (c d : Nat) :
    Calls Try.prog 65 #[.agg #[.slice A ps.length c, .slice B hs.length d]] w fun e w' => e = .returned (.bool (linkB ps hs)) ∧ Ext w w' := valid_any A c ps B d hs w h.hA h.hB h.np h.hp
theorem linkP.nh {ps : List (List Sp)} {hs : List Hg} (h : linkP ps hs) : hs.length ≤ 3 := by have := h.1; have := h.2.1; omega
theorem linkP.hinges {ps : List (List Sp)} {hs : List Hg} (h : linkP ps hs) : ∀ h ∈ hs, hingeB h := h.2.2.2
theorem linkB_eq {ps : List (List Sp)} {hs : List Hg} : (linkP ps hs ∧ linkB ps hs = true ∧ checkE ps hs = 0) ∨ (¬ linkP ps hs ∧ linkB ps hs = false ∧ checkE ps hs = 50) := by
  by_cases h : linkP ps hs
  · exact .inl ⟨h, decide_eq_true h, (checkE_good h).symm⟩
  · exact .inr ⟨h, decide_eq_false h, (checkE_bad h).symm⟩
def posesR (ps : List (List Sp)) (hs : List Hg) : List Ps := if linkB ps hs = true then posesL hs else []
set_option maxRecDepth 100000 in
set_option maxHeartbeats 4000000 in
theorem poses_all (A : Option Addr) (c : Nat) (ps : List (List Sp)) (B : Option Addr) (d : Nat) (hs : List Hg) (w : World) (hL : Lk w A ps B hs) :
    Calls Try.prog 27 #[.agg #[.slice A ps.length c, .slice B hs.length d]] w fun e w' => ∃ v, e = .returned (.tuple #[v, .int .i64 (checkE ps hs)]) ∧ OwnP w w' v (posesR ps hs) := by
  have hck := fun w' (he : Ext w w') => Lk.check (hL.ext he) c d
  have hpo := fun (h : linkP ps hs) w' (he : Ext w w') => poses_any A ps.length c B d hs w' (hL.hB.ext he) h.nh h.hinges
  unfold posesR
  rcases linkB_eq (ps := ps) (hs := hs) with ⟨h1, h2, h3⟩ | ⟨h1, h2, h3⟩
  · rw [h2, h3, if_pos rfl]
    rw [h3] at hck
    have hpo := hpo h1
    have Hck := Lib.hid hck
    have Hpo := Lib.hid hpo
    clear hck hpo hL h1 h2 h3
    generalize ps.length = np at *
    generalize hs.length = nh at *
    have kb : Blk (w.alloc (.cells #[.slice A np c, .slice B nh d] 25)) w.heap.size [.slice A np c, .slice B nh d] := Blk.new _ _
    have b0 := kb.at_ 0 rfl
    have b1 := kb.at_ 1 rfl
    have hx0 : Ext w (w.alloc (.cells #[.slice A np c, .slice B nh d] 25)) := (Ext.refl _).alloc _
    have Hx0 := Lib.hid hx0
    clear kb hx0
    go_enter Try.func27, Try.ntmps27
    go_wp2_with (first
      | (go_at_call 30; refine (Hck.out _ Hx0.out).mono ?_; rintro e w1 ⟨rfl, hx1⟩; have hxx := Hx0.out.trans hx1)
      | (go_at_call 64; refine (Hpo.out _ hxx).mono ?_; rintro e w2 ⟨v, rfl, hown⟩))
    go_ret2
    exact ⟨_, rfl, hown.since hxx⟩
  · rw [h2, h3, if_neg (by simp)]
    rw [h3] at hck
    have Hck := Lib.hid hck
    clear hck hpo hL h1 h2 h3
    generalize ps.length = np at *
    generalize hs.length = nh at *
    have kb : Blk (w.alloc (.cells #[.slice A np c, .slice B nh d] 25)) w.heap.size [.slice A np c, .slice B nh d] := Blk.new _ _
    have b0 := kb.at_ 0 rfl
    have b1 := kb.at_ 1 rfl
    have hx0 : Ext w (w.alloc (.cells #[.slice A np c, .slice B nh d] 25)) := (Ext.refl _).alloc _
    have Hx0 := Lib.hid hx0
    clear kb hx0
    go_enter Try.func27, Try.ntmps27
    go_wp2_with (go_at_call 30; refine (Hck.out _ Hx0.out).mono ?_; rintro e w1 ⟨rfl, hx1⟩; have hxx := Hx0.out.trans hx1)
    go_ret2
    exact ⟨_, rfl, Own.nil' hxx _ _⟩
set_option maxRecDepth 100000 in
set_option maxHeartbeats 4000000 in
theorem poses_ref (A : Option Addr) (c : Nat) (ps : List (List Sp)) (B : Option Addr) (d : Nat) (hs : List Hg) (w : World) (hL : Lk w A ps B hs) :
    Calls Try.prog 28 #[.agg #[.slice A ps.length c, .slice B hs.length d]] w fun e w' => ∃ v, e = .returned (.tuple #[v, .int .i64 (checkE ps hs)]) ∧ OwnP w w' v (posesR ps hs) := by
  have hck := fun w' (he : Ext w w') => Lk.valid (hL.ext he) c d
  have hpo := fun (h : linkP ps hs) w' (he : Ext w w') => placed_any A ps.length c B d hs w' (hL.hB.ext he) h.nh h.hinges
  unfold posesR
  rcases linkB_eq (ps := ps) (hs := hs) with ⟨h1, h2, h3⟩ | ⟨h1, h2, h3⟩
  · rw [h2, h3, if_pos rfl]
    rw [h2] at hck
    have hpo := hpo h1
    have Hck := Lib.hid hck
    have Hpo := Lib.hid hpo
    clear hck hpo hL h1 h2 h3
    generalize ps.length = np at *
    generalize hs.length = nh at *
    have kb : Blk (w.alloc (.cells #[.slice A np c, .slice B nh d] 25)) w.heap.size [.slice A np c, .slice B nh d] := Blk.new _ _
    have b0 := kb.at_ 0 rfl
    have b1 := kb.at_ 1 rfl
    have hx0 : Ext w (w.alloc (.cells #[.slice A np c, .slice B nh d] 25)) := (Ext.refl _).alloc _
    have Hx0 := Lib.hid hx0
    clear kb hx0
    go_enter Try.func28, Try.ntmps28
    go_wp2_with (first
      | (go_at_call 65; refine (Hck.out _ Hx0.out).mono ?_; rintro e w1 ⟨rfl, hx1⟩; have hxx := Hx0.out.trans hx1)
      | (go_at_call 66; refine (Hpo.out _ hxx).mono ?_; rintro e w2 ⟨v, rfl, hown⟩))
    go_ret2
    exact ⟨_, rfl, hown.since hxx⟩
  · rw [h2, h3, if_neg (by simp)]
    rw [h2] at hck
    have Hck := Lib.hid hck
    clear hck hpo hL h1 h2 h3
    generalize ps.length = np at *
    generalize hs.length = nh at *
    have kb : Blk (w.alloc (.cells #[.slice A np c, .slice B nh d] 25)) w.heap.size [.slice A np c, .slice B nh d] := Blk.new _ _
    have b0 := kb.at_ 0 rfl
    have b1 := kb.at_ 1 rfl
    have hx0 : Ext w (w.alloc (.cells #[.slice A np c, .slice B nh d] 25)) := (Ext.refl _).alloc _
    have Hx0 := Lib.hid hx0
    clear kb hx0
    go_enter Try.func28, Try.ntmps28
    go_wp2_with (go_at_call 65; refine (Hck.out _ Hx0.out).mono ?_; rintro e w1 ⟨rfl, hx1⟩; have hxx := Hx0.out.trans hx1)
    go_ret2
    exact ⟨_, rfl, Own.nil' hxx _ _⟩
/-- A panel's corners. -/
def crnS (p : Ps) (l : List Sp) : List Sp := l.map (plc p)
theorem crnS_len (p : Ps) (l : List Sp) : (crnS p l).length = l.length := by simp [crnS]
theorem crnS_take {p : Ps} {l : List Sp} {k : Nat} (hk : k < l.length) : (crnS p l).take (k + 1) = (crnS p l).take k ++ [plc p (ptA l k)] := by
  have h : k < (crnS p l).length := by rw [crnS_len]; exact hk
  rw [List.take_succ_eq_append_getElem h, ptA_at hk]
  simp [crnS]
theorem crn_crnS {p : Ps} {l : List Sp} {k : Nat} (hk : k < l.length) : cAt (crn p l) k = ⟨plc p (ptA l k), p.d⟩ := by rw [cAt_at (by rw [crn_len]; exact hk), crn_at]
theorem posesL_psA {hs : List Hg} {k : Nat} (h : k ≤ hs.length) : psA (posesL hs) k = posF hs k := by
  rw [psA_at (by rw [posesL_len]; omega), posesL_at]
set_option maxRecDepth 100000 in
set_option maxHeartbeats 8000000 in
theorem cornered_any (A : Option Addr) (c : Nat) (ps : List (List Sp)) (B : Option Addr) (d : Nat) (hs : List Hg) (i : Nat) (w : World) (hL : Lk w A ps B hs) (hl : linkP ps hs) (hi : i < ps.length) :
    Calls Try.prog 67 #[.agg #[.slice A ps.length c, .slice B hs.length d], .int .i64 i] w fun e w' => ∃ v, e = .returned (.tuple #[v, .int .i64 (posF hs i).d]) ∧ OwnS w w' v (crnS (posF hs i) (pnA ps i)) := by
  have hpl := fun w' (he : Ext w w') => placed_any A ps.length c B d hs w' (hL.hB.ext he) hl.nh hl.hinges
  have hok := link_pose hl hi
  have hps := hl.2.1
  have hpn := (linkP_iff.1 hl).2.2.1 i hi
  obtain ⟨ad, B', c', rfl, r0, hrow⟩ := hL.hA.at_ hi
  have hsp := fun k (hk : k < (pnA ps i).length) => hrow.at_ hk
  have hat := fun k (hk : k < (pnA ps i).length) (w' : World) => at_any (posF hs i) (ptA (pnA ps i) k) w' (psOk hok) (hpn.spot hk)
  have htk := fun k (hk : k < (pnA ps i).length) => crnS_take (p := posF hs i) hk
  have hln := crnS_len (posF hs i) (pnA ps i)
  have hpA := posesL_psA (hs := hs) (k := i) (by omega)
  have hpl2 := posesL_len hs
  have hn8 := hpn.1.2
  have Hpl := Lib.hid hpl
  have Hsp := Lib.hid hsp
  have Hat := Lib.hid hat
  have Htk := Lib.hid htk
  have HpA := Lib.hid hpA
  have Hpl2 := Lib.hid hpl2
  clear hpl hok hsp hat htk hpA hpl2 hL hl hpn
  generalize posesL hs = PL at *
  generalize crnS (posF hs i) (pnA ps i) = L at *
  generalize posF hs i = p at *
  generalize ptA (pnA ps i) = P at *
  generalize (pnA ps i).length = m at *
  generalize hs.length = nh at *
  generalize ps.length = np at *
  have kb : Blk (w.alloc (.cells #[.slice (some ad) np c, .slice B nh d] 25)) w.heap.size [.slice (some ad) np c, .slice B nh d] := Blk.new _ _
  have hx0 : Ext w (w.alloc (.cells #[.slice (some ad) np c, .slice B nh d] 25)) := (Ext.refl _).alloc _
  have b0 := kb.at_ 0 rfl
  have b1 := kb.at_ 1 rfl
  have Hx0 := Lib.hid hx0
  have B0 := Lib.hid b0
  clear hx0 kb
  have hi2 : (i : Int) < ((nh + 1 : Nat) : Int) := by omega
  go_enter Try.func67, Try.ntmps67
  go_wp2_with (go_at_call 66; refine (Hpl.out _ Hx0.out).mono ?_; rintro e w1 ⟨v, rfl, hown0⟩; unfold OwnP at hown0; rw [Hpl2.out] at hown0; obtain ⟨g, cg, rfl, _, _⟩ := hown0.at_ (by omega); have hrow1 : PRow w1 (some ⟨g, 0, none⟩) PL := Own.row hown0; have hx1 := Hx0.out.trans hown0.ext; obtain ⟨_, ee, p0, p1, p2, p3, p4⟩ := hrow1.at_ (k := i) (by rw [Hpl2.out]; omega); cases ee; simp only [HpA.out, add_zero'] at p0 p1 p2 p3 p4)
  have k2 : Blk (w1.alloc (.cells #[vint p.p, vint p.q, vint p.x, vint p.y, vint p.d] 82)) w1.heap.size [vint p.p, vint p.q, vint p.x, vint p.y, vint p.d] := Blk.new _ _
  have hx2 : Ext w (w1.alloc (.cells #[vint p.p, vint p.q, vint p.x, vint p.y, vint p.d] 82)) := hx1.alloc _
  have hx3 : Ext (w.alloc (.cells #[.slice (some ad) np c, .slice B nh d] 25)) (w1.alloc (.cells #[vint p.p, vint p.q, vint p.x, vint p.y, vint p.d] 82)) := hown0.ext.alloc _
  generalize (w1.alloc (.cells #[vint p.p, vint p.q, vint p.x, vint p.y, vint p.d] 82)) = w2 at k2 hx2 hx3 ⊢
  have c0 : ∀ w', Ext w2 w' → _ := fun w' he => B0.out w' (hx3.trans he)
  have r1 : ∀ w', Ext w2 w' → _ := fun w' he => r0 w' (hx2.trans he)
  have q0 := k2.at_ 0 rfl
  have q1 := k2.at_ 1 rfl
  have q2 := k2.at_ 2 rfl
  have q3 := k2.at_ 3 rfl
  have q4 := k2.at_ 4 rfl
  have Hx2 := Lib.hid hx2
  clear p0 p1 p2 p3 p4 b0 b1 hrow1 hown0 hx1 hx3 k2 hrow r0 B0 Hx0 Hpl HpA hx2 Hpl2
  generalize w1.heap.size = g2 at *
  go_loopw [8, 7] (fun i v wr => ∃ k : Nat, k ≤ m ∧ i = .int .i64 k ∧ Own w2 wr 27 2 v k ((L.take k).map Sp.cells).flatten) (fun i _ _ => m - (intOf i).toNat)
  case atStart => exact ⟨0, by omega, rfl, Own.nil _ _ _⟩
  case round =>
    obtain ⟨k, hk, rfl, hown⟩ := hrel
    obtain ⟨A4, c4, rfl⟩ := hown.form
    have hex := hown.ext
    have c1 : ∀ w', Ext wr w' → _ := fun w' he => c0 w' (hex.trans he)
    have c2 : ∀ w', Ext wr w' → _ := fun w' he => r1 w' (hex.trans he)
    by_cases hlt : k < m
    · obtain ⟨ad', rfl, s0, s1⟩ := Hsp.out k hlt
      have hxw := Hx2.out.trans hex
      have t0 : ∀ w', Ext wr w' → _ := fun w' he => s0 w' (hxw.trans he)
      have t1 : ∀ w', Ext wr w' → _ := fun w' he => s1 w' (hxw.trans he)
      have u0 : ∀ w', Ext wr w' → _ := fun w' he => q0 w' (hex.trans he)
      have u1 : ∀ w', Ext wr w' → _ := fun w' he => q1 w' (hex.trans he)
      have u2 : ∀ w', Ext wr w' → _ := fun w' he => q2 w' (hex.trans he)
      have u3 : ∀ w', Ext wr w' → _ := fun w' he => q3 w' (hex.trans he)
      have u4 : ∀ w', Ext wr w' → _ := fun w' he => q4 w' (hex.trans he)
      have hpt := Hat.out k hlt
      have htk := Htk.out k hlt
      have Hpt := Lib.hid hpt
      have Htk' := Lib.hid htk
      clear s0 s1 hpt htk Hsp Hat Htk c0 r1 q0 q1 q2 q3 q4
      generalize hz : plc p (P k) = z at Hpt Htk'
      clear hz
      generalize P k = s at *
      have hkm : (k : Int) < (m : Int) := by omega
      have hip : (i : Int) < (np : Int) := by omega
      go_wp2
      refine wp_region_calm 12 (fun j _ v _ => j = 10 → v = z.val) (fun _ _ _ _ _ _ h => h) (by kernel_rfl) (by kernel_rfl) ?_
      simp only [List.take_succ_cons, List.take_zero, List.drop_succ_cons, List.drop_zero]
      refine calm_quiet calm_mono_final 10 (by kernel_rfl) ?_
      simp only [List.take_succ_cons, List.take_zero, List.drop_succ_cons, List.drop_zero]
      repeat (go_big_quiet_step (fail))
      refine wpQuiet_nil ?_
      refine calm_call calm_mono_final 47 #[p.val, s.val] rfl (fun w => ?_) (fun w he hF => ?_) ?_
      · go_simp
      · exact (Hpt.out w).mono fun e w'' ⟨he', hx⟩ => ⟨_, he', hx, fun _ => rfl⟩
      rintro _ _ _ h
      cases h rfl
      simp only [Act.put, List.setIfInBounds_toArray, List.set_cons_succ, List.set_cons_zero]
      refine calm_alloc calm_mono_final (fun b => .slice (some ⟨b, 0, none⟩) 1 1) (.cells z.cells.toArray 27) (fun b c h => by simpa using h) rfl (fun w => ?_) (fun b hb => ?_)
      · go_simp
        rfl
      simp only [Act.put, List.setIfInBounds_toArray, List.set_cons_succ, List.set_cons_zero]
      refine calm_nil fun w3 he3 hF => ?_
      have hrow3 := row_heap ((hF 11).2 rfl)
      clear hF
      have hov := hown.later he3
      have Hfl := Lib.hid (show ((L.take (k + 1)).map Sp.cells).flatten = ((L.take k).map Sp.cells).flatten ++ z.cells by rw [Htk'.out]; simp)
      go_wp2_with (refine own_append_src (w1 := w2) spot_elem rfl _ _ 39 rfl Try.underlying39 _ k _ rfl hov _ 1 1 _ rfl rfl hrow3 (by intro u hu; simp [Sp.cells] at hu; rcases hu with rfl | rfl <;> rfl) (by omega) (by unfold maxLen; omega) ?_; intro v' w' ho _)
      go_roundw
      case rel => exact ⟨k + 1, by omega, by go_num, by rw [Hfl.out]; exact ho⟩
      case measure => simp [intOf]; omega
    · obtain rfl : m = k := by omega
      have u4 : ∀ w', Ext wr w' → _ := fun w' he => q4 w' (hex.trans he)
      have hip : (i : Int) < (np : Int) := by omega
      have Hown := Lib.hid hown
      clear hown q0 q1 q2 q3 q4 c0 r1
      go_wp2
      refine wp_region_calm 5 (fun _ _ _ _ => True) (fun _ _ _ _ _ _ h => h) (by kernel_rfl) (by kernel_rfl) ?_
      simp only [List.take_succ_cons, List.take_zero, List.drop_succ_cons, List.drop_zero]
      refine calm_quiet calm_mono_final 5 (by kernel_rfl) ?_
      simp only [List.take_succ_cons, List.take_zero, List.drop_succ_cons, List.drop_zero]
      repeat (go_big_quiet_step (fail))
      refine wpQuiet_nil ?_
      refine calm_nil fun w3 he3 _ => ?_
      go_wp2
      go_ret2
      refine ⟨.slice A4 m c4, rfl, ?_⟩
      have ho := Hown.out.later he3
      rw [List.take_of_length_le (by omega)] at ho
      show Own w w3 _ 2 _ L.length _
      rw [hln]
      exact ho.since Hx2.out
end Go.Proofs.Yteilglljigjefaa
