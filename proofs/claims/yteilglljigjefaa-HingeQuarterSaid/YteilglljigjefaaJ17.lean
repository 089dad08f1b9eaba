/- HingePoses: the law's own walk. -/
import Derived.Test.YteilglljigjefaaJ15
namespace Go.Proofs.Yteilglljigjefaa
open Go.RowKit
set_option maxHeartbeats 1000000 in
theorem check_panel_ref (A : Option Addr) (c : Nat) (l : List Sp) (w : World) (hA : SRow w A l) (hl : l.length ≤ 1000) :
    Calls Try.prog 26 #[.slice A l.length c] w fun e w' => e = .returned (.int .i64 (panelE l)) ∧ Ext w w' := by
  have hv := fun w' (he : Ext w w') => vpanel_any A c l w' (hA.ext he) hl
  have hp : panelE l = if panelB l = true then 0 else 50 := rfl
  rw [hp]
  have Hv := Lib.hid hv
  clear hv hp hA
  generalize panelB l = S at *
  generalize l.length = n at *
  cases S
  all_goals
    go_enter Try.func26, Try.ntmps26
    go_wp2_with (go_at_call 63; refine (Hv.out _ (Ext.refl _)).mono ?_; rintro e w1 ⟨rfl, hx1⟩)
    go_ret
    exact ⟨rfl, hx1⟩
set_option maxHeartbeats 1000000 in
theorem check_ref (A : Option Addr) (c : Nat) (ps : List (List Sp)) (B : Option Addr) (d : Nat) (hs : List Hg) (w : World) (hL : Lk w A ps B hs) :
    Calls Try.prog 31 #[.agg #[.slice A ps.length c, .slice B hs.length d]] w fun e w' => e = .returned (.int .i64 (checkE ps hs)) ∧ Ext w w' := by
  have hv := fun w' (he : Ext w w') => (hL.ext he).valid c d
  have hp : checkE ps hs = if linkB ps hs = true then 0 else 50 := rfl
  rw [hp]
  have Hv := Lib.hid hv
  clear hv hp hL
  generalize linkB ps hs = S at *
  generalize ps.length = np at *
  generalize hs.length = nh at *
  have hx0 : Ext w (w.alloc (.cells #[.slice A np c, .slice B nh d] 25)) := (Ext.refl _).alloc _
  cases S
  all_goals
    go_enter Try.func31, Try.ntmps31
    go_wp2_with (go_at_call 65; refine (Hv.out _ hx0).mono ?_; rintro e w1 ⟨rfl, hx1⟩)
    go_ret
    exact ⟨rfl, hx0.trans hx1⟩
theorem gapE_form (ps : List (List Sp)) (hs : List Hg) (a b : Sp) : ∃ X Y D E, gapE ps hs a b = .tuple #[.int .i64 X, .int .i64 Y, .int .i64 D, .int .i64 E] := by
  unfold gapE
  split
  · exact ⟨_, _, _, _, rfl⟩
  · exact ⟨_, _, _, _, rfl⟩
set_option maxRecDepth 100000 in
set_option maxHeartbeats 4000000 in
theorem poses_law_out (n : Int) (P : Option Addr) (pc : Nat) (p : List Sp) (A : Option Addr) (c : Nat) (ps : List (List Sp)) (B : Option Addr) (d : Nat) (hs : List Hg) (x : Int) (a b : Sp) (w : World) (_hp : SRow w P p) (hA : PnRow w A ps) (_hB : HRow w B hs) (hg : greatP ps hs ∨ 20 < p.length) :
    Calls Try.prog 4 #[.int .i64 n, .slice P p.length pc, .agg #[.slice A ps.length c, .slice B hs.length d], .int .i64 x, a.val, b.val] w fun e w' => e = .returned (.bool true) ∧ Ext w w' := by
  obtain ⟨ax, ay⟩ := a
  obtain ⟨bx, bY⟩ := b
  have hgr := fun w' (he : Ext w w') => great_any A c ps B d hs w' (hA.ext he)
  by_cases h1 : greatP ps hs
  · rw [← greatB_yes h1] at hgr
    have Hgr := Lib.hid hgr
    clear hgr hA _hB _hp hg h1
    generalize ps.length = np at *
    generalize hs.length = nh at *
    generalize p.length = m at *
    have kl : Blk (((w.alloc (.cells #[.slice A np c, .slice B nh d] 25)).alloc (.cells #[vint ax, vint ay] 27)).alloc (.cells #[vint bx, vint bY] 27)) w.heap.size [.slice A np c, .slice B nh d] := (Blk.new _ _).ext (((Ext.refl _).alloc _).alloc _)
    have ka : Blk (((w.alloc (.cells #[.slice A np c, .slice B nh d] 25)).alloc (.cells #[vint ax, vint ay] 27)).alloc (.cells #[vint bx, vint bY] 27)) (w.heap.size + 1) [vint ax, vint ay] := (Blk.new' (cs := #[vint ax, vint ay]) (by simp)).ext ((Ext.refl _).alloc _)
    have kb : Blk (((w.alloc (.cells #[.slice A np c, .slice B nh d] 25)).alloc (.cells #[vint ax, vint ay] 27)).alloc (.cells #[vint bx, vint bY] 27)) (w.heap.size + 1 + 1) [vint bx, vint bY] := Blk.new' (cs := #[vint bx, vint bY]) (by simp)
    have l0 := kl.at_ 0 rfl
    have l1 := kl.at_ 1 rfl
    have a0 := ka.at_ 0 rfl
    have a1 := ka.at_ 1 rfl
    have b0 := kb.at_ 0 rfl
    have b1 := kb.at_ 1 rfl
    have hx0 : Ext w (((w.alloc (.cells #[.slice A np c, .slice B nh d] 25)).alloc (.cells #[vint ax, vint ay] 27)).alloc (.cells #[vint bx, vint bY] 27)) := (((Ext.refl _).alloc _).alloc _).alloc _
    have Hx0 := Lib.hid hx0
    clear kl ka kb hx0
    go_enter Try.func4, Try.ntmps4
    go_wp2_with (go_at_call 17; refine (Hgr.out _ Hx0.out).mono ?_; rintro e w1 ⟨rfl, hx1⟩)
    go_ret
    exact ⟨rfl, Hx0.out.trans hx1⟩
  · rw [← greatB_no h1] at hgr
    have hm : 20 < p.length := by
      rcases hg with h | h
      · exact absurd h h1
      · exact h
    have Hgr := Lib.hid hgr
    clear hgr hA _hB _hp hg h1
    generalize ps.length = np at *
    generalize hs.length = nh at *
    generalize p.length = m at *
    have d1 : decide ((20 : Int) < (m : Int)) = true := by simp; omega
    have kl : Blk (((w.alloc (.cells #[.slice A np c, .slice B nh d] 25)).alloc (.cells #[vint ax, vint ay] 27)).alloc (.cells #[vint bx, vint bY] 27)) w.heap.size [.slice A np c, .slice B nh d] := (Blk.new _ _).ext (((Ext.refl _).alloc _).alloc _)
    have ka : Blk (((w.alloc (.cells #[.slice A np c, .slice B nh d] 25)).alloc (.cells #[vint ax, vint ay] 27)).alloc (.cells #[vint bx, vint bY] 27)) (w.heap.size + 1) [vint ax, vint ay] := (Blk.new' (cs := #[vint ax, vint ay]) (by simp)).ext ((Ext.refl _).alloc _)
    have kb : Blk (((w.alloc (.cells #[.slice A np c, .slice B nh d] 25)).alloc (.cells #[vint ax, vint ay] 27)).alloc (.cells #[vint bx, vint bY] 27)) (w.heap.size + 1 + 1) [vint bx, vint bY] := Blk.new' (cs := #[vint bx, vint bY]) (by simp)
    have l0 := kl.at_ 0 rfl
    have l1 := kl.at_ 1 rfl
    have a0 := ka.at_ 0 rfl
    have a1 := ka.at_ 1 rfl
    have b0 := kb.at_ 0 rfl
    have b1 := kb.at_ 1 rfl
    have hx0 : Ext w (((w.alloc (.cells #[.slice A np c, .slice B nh d] 25)).alloc (.cells #[vint ax, vint ay] 27)).alloc (.cells #[vint bx, vint bY] 27)) := (((Ext.refl _).alloc _).alloc _).alloc _
    have Hx0 := Lib.hid hx0
    clear kl ka kb hx0
    go_enter Try.func4, Try.ntmps4
    go_wp2_with (go_at_call 17; refine (Hgr.out _ Hx0.out).mono ?_; rintro e w1 ⟨rfl, hx1⟩)
    go_ret
    exact ⟨rfl, Hx0.out.trans hx1⟩
set_option maxRecDepth 100000 in
set_option maxHeartbeats 16000000 in
theorem poses_law_in (n : Int) (P : Option Addr) (pc : Nat) (p : List Sp) (A : Option Addr) (c : Nat) (ps : List (List Sp)) (B : Option Addr) (d : Nat) (hs : List Hg) (x : Int) (a b : Sp) (w : World) (hp : SRow w P p) (hA : PnRow w A ps) (hB : HRow w B hs) (hg : ¬ greatP ps hs) (hm : p.length ≤ 20) :
    Calls Try.prog 4 #[.int .i64 n, .slice P p.length pc, .agg #[.slice A ps.length c, .slice B hs.length d], .int .i64 x, a.val, b.val] w fun e w' => e = .returned (.bool true) ∧ Ext w w' := by
  have hL := lk_of hA hB hg
  have hgr := fun w' (he : Ext w w') => great_any A c ps B d hs w' (hA.ext he)
  rw [← greatB_no hg] at hgr
  have han := fun w' => angle_any n w'
  have har := fun w' => angle_ref n w'
  have hcp := fun w' (he : Ext w w') => check_panel P pc p w' (hp.ext he) (by omega)
  have hcq := fun w' (he : Ext w w') => check_panel_ref P pc p w' (hp.ext he) (by omega)
  have htw := fun w' (he : Ext w w') => twin_any A c ps B d hs w' (hL.ext he)
  have hlk := fun (w1 w' : World) (A1 : Option Addr) (c1 : Nat) (B1 : Option Addr) (d1 : Nat) (vs : List Value) (h : TwinOk w1 w' A1 c1 B1 d1 vs ps hs) => h.lk hL
  have hps := fun (w' : World) (A1 : Option Addr) (c1 : Nat) (B1 : Option Addr) (d1 : Nat) (h : Lk w' A1 ps B1 hs) => (poses_all A1 c1 ps B1 d1 hs w' h).mono (R' := fun e w'' => ∃ P c, e = .returned (.tuple #[.slice P (posesR ps hs).length c, .int .i64 (checkE ps hs)]) ∧ PRow w'' P (posesR ps hs) ∧ Ext w' w'') fun e w'' ⟨v, he, ho⟩ => by obtain ⟨P, c, rfl⟩ := ho.form; exact ⟨P, c, he, ho.row, ho.ext⟩
  have hpr := fun w' (he : Ext w w') => (poses_ref A c ps B d hs w' (hL.ext he)).mono (R' := fun e w'' => ∃ P c, e = .returned (.tuple #[.slice P (posesR ps hs).length c, .int .i64 (checkE ps hs)]) ∧ PRow w'' P (posesR ps hs) ∧ Ext w' w'') fun e w'' ⟨v, he, ho⟩ => by obtain ⟨P, c, rfl⟩ := ho.form; exact ⟨P, c, he, ho.row, ho.ext⟩
  have hck := fun (w' : World) (A1 : Option Addr) (c1 : Nat) (B1 : Option Addr) (d1 : Nat) (h : Lk w' A1 ps B1 hs) => h.check c1 d1
  have hcr := fun w' (he : Ext w w') => check_ref A c ps B d hs w' (hL.ext he)
  have hcs := fun (w' : World) (A1 : Option Addr) (c1 : Nat) (B1 : Option Addr) (d1 : Nat) (h : Lk w' A1 ps B1 hs) => (corners_all A1 c1 ps B1 d1 hs x w' h).mono (R' := fun e w'' => ∃ X c, e = .returned (.tuple #[.slice X (cornL ps hs x).length c, .int .i64 (cornD ps hs x), .int .i64 (cornE ps hs x)]) ∧ Own w' w'' 27 2 (.slice X (cornL ps hs x).length c) (cornL ps hs x).length ((cornL ps hs x).map Sp.cells).flatten ∧ Ext w' w'') fun e w'' ⟨v, he, ho⟩ => by obtain ⟨X, c, rfl⟩ := ho.form; exact ⟨X, c, he, ho, ho.ext⟩
  have hct := fun w' (he : Ext w w') => (corners_ref A c ps B d hs x w' (hL.ext he)).mono (R' := fun e w'' => ∃ X c, e = .returned (.tuple #[.slice X (cornL ps hs x).length c, .int .i64 (cornD ps hs x), .int .i64 (cornE ps hs x)]) ∧ Row w'' X ((cornL ps hs x).map Sp.cells).flatten ∧ Ext w' w'') fun e w'' ⟨v, he, ho⟩ => by obtain ⟨X, c, rfl⟩ := ho.form; exact ⟨X, c, he, ho.row, ho.ext⟩
  have hga := fun (w' : World) (A1 : Option Addr) (c1 : Nat) (B1 : Option Addr) (d1 : Nat) (h : Lk w' A1 ps B1 hs) => gap_all A1 c1 ps B1 d1 hs a b w' h
  have hgb := fun w' (he : Ext w w') => gap_ref A c ps B d hs a b w' (hL.ext he)
  obtain ⟨gX, gY, gD, gE, hge⟩ := gapE_form ps hs a b
  rw [hge] at hga hgb
  have hsp := fun (X Y : Option Addr) (c d : Nat) (w' : World) (hX : PRow w' X (posesR ps hs)) (hY : PRow w' Y (posesR ps hs)) => same_poses X Y c d (posesR ps hs) w' hX hY (by
    unfold posesR
    split
    · rename_i h
      rw [posesL_len]
      have h : linkP ps hs := of_decide_eq_true h
      have := h.nh
      omega
    · simp)
  have hcl : (cornL ps hs x).length ≤ 1000 := by
    unfold cornL
    split
    · rename_i h
      rw [crnS_len]
      exact hL.hp _ (by have := h.2; unfold inP at this; omega)
    · simp
  have hss := fun (X Y : Option Addr) (c d : Nat) (w' : World) (hX : Row w' X ((cornL ps hs x).map Sp.cells).flatten) (hY : Row w' Y ((cornL ps hs x).map Sp.cells).flatten) => same_spots X Y c d (cornL ps hs x) w' hX hY (by omega)
  have hcv : ∀ v ∈ ((cornL ps hs x).map Sp.cells).flatten, ∃ z, v = .int .i64 z := fun v hv => by
    obtain ⟨r, hr, hur⟩ := List.mem_flatten.1 hv
    obtain ⟨y, _, rfl⟩ := List.mem_map.1 hr
    simp [Sp.cells] at hur
    rcases hur with rfl | rfl <;> exact ⟨_, rfl⟩
  have hcn : ((cornL ps hs x).map Sp.cells).flatten.length = (cornL ps hs x).length * 2 := Sp.cells_len _
  have hsl := fun (A1 : Option Addr) (c1 : Nat) (B1 : Option Addr) (d1 : Nat) (w' : World) (h : Lk w' A1 ps B1 hs) (he : Ext w w') => same_link A1 A c1 c ps B1 B d1 d hs w' h (hL.ext he)
  clear hge hA hB hg hp hL
  have Hgr := Lib.hid hgr
  have Han := Lib.hid han
  have Har := Lib.hid har
  have Hcp := Lib.hid hcp
  have Hcq := Lib.hid hcq
  have Htw := Lib.hid htw
  have Hlk := Lib.hid hlk
  have Hps := Lib.hid hps
  have Hpr := Lib.hid hpr
  have Hck0 := Lib.hid hck
  have Hcr0 := Lib.hid hcr
  have Hcs := Lib.hid hcs
  have Hct := Lib.hid hct
  have Hga := Lib.hid hga
  have Hgb := Lib.hid hgb
  have Hsp0 := Lib.hid hsp
  have Hss := Lib.hid hss
  have Hcv := Lib.hid hcv
  have Hcn := Lib.hid hcn
  have Hsl := Lib.hid hsl
  clear hgr han har hcp hcq htw hlk hps hpr hck hcr hcs hct hga hgb hsp hss hcv hcn hsl
  unfold angV at Han Har
  generalize (angS n).1 = n1 at *
  generalize (angS n).2.1 = n2 at *
  generalize (angS n).2.2 = n3 at *
  generalize angE n = n4 at *
  generalize panelE p = pE at *
  generalize checkE ps hs = CE at *
  generalize posesR ps hs = PR at *
  generalize PR.length = pn at *
  generalize cornD ps hs x = cD at *
  generalize cornE ps hs x = cE at *
  generalize (cornL ps hs x).length = N at *
  generalize ((cornL ps hs x).map Sp.cells).flatten = Z at *
  generalize ps.length = np at *
  generalize hs.length = nh at *
  generalize p.length = m at *
  have d1 : decide ((20 : Int) < (m : Int)) = false := by simp; omega
  obtain ⟨ax, ay⟩ := a
  obtain ⟨bx, bY⟩ := b
  have kl : Blk (((w.alloc (.cells #[.slice A np c, .slice B nh d] 25)).alloc (.cells #[vint ax, vint ay] 27)).alloc (.cells #[vint bx, vint bY] 27)) w.heap.size [.slice A np c, .slice B nh d] := (Blk.new _ _).ext (((Ext.refl _).alloc _).alloc _)
  have ka : Blk (((w.alloc (.cells #[.slice A np c, .slice B nh d] 25)).alloc (.cells #[vint ax, vint ay] 27)).alloc (.cells #[vint bx, vint bY] 27)) (w.heap.size + 1) [vint ax, vint ay] := (Blk.new' (cs := #[vint ax, vint ay]) (by simp)).ext ((Ext.refl _).alloc _)
  have kb : Blk (((w.alloc (.cells #[.slice A np c, .slice B nh d] 25)).alloc (.cells #[vint ax, vint ay] 27)).alloc (.cells #[vint bx, vint bY] 27)) (w.heap.size + 1 + 1) [vint bx, vint bY] := Blk.new' (cs := #[vint bx, vint bY]) (by simp)
  have l0 := kl.at_ 0 rfl
  have l1 := kl.at_ 1 rfl
  have a0 := ka.at_ 0 rfl
  have a1 := ka.at_ 1 rfl
  have b0 := kb.at_ 0 rfl
  have b1 := kb.at_ 1 rfl
  have hx0 : Ext w (((w.alloc (.cells #[.slice A np c, .slice B nh d] 25)).alloc (.cells #[vint ax, vint ay] 27)).alloc (.cells #[vint bx, vint bY] 27)) := (((Ext.refl _).alloc _).alloc _).alloc _
  have Hx0 := Lib.hid hx0
  clear kl ka kb hx0
  go_enter Try.func4, Try.ntmps4
  go_wp2_with (first
    | (go_at_call 17; refine (Hgr.out _ Hx0.out).mono ?_; rintro e w1 ⟨rfl, hx1⟩; have hw1 := Hx0.out.trans hx1; replace l0 : ∀ w', Ext w1 w' → _ := fun w' he => l0 w' (hx1.trans he); replace l1 : ∀ w', Ext w1 w' → _ := fun w' he => l1 w' (hx1.trans he); replace a0 : ∀ w', Ext w1 w' → _ := fun w' he => a0 w' (hx1.trans he); replace a1 : ∀ w', Ext w1 w' → _ := fun w' he => a1 w' (hx1.trans he); replace b0 : ∀ w', Ext w1 w' → _ := fun w' he => b0 w' (hx1.trans he); replace b1 : ∀ w', Ext w1 w' → _ := fun w' he => b1 w' (hx1.trans he))
    | (go_at_call 23; refine (Han.out _).mono ?_; rintro e w2 ⟨rfl, hx2⟩)
    | (go_at_call 24; refine (Har.out _).mono ?_; rintro e w3 ⟨rfl, hx3⟩; have hw3 := (hw1.trans hx2).trans hx3)
    | (go_at_call 25; refine (Hcp.out _ hw3).mono ?_; rintro e w4 ⟨rfl, hx4⟩)
    | (go_at_call 26; refine (Hcq.out _ (hw3.trans hx4)).mono ?_; rintro e w5 ⟨rfl, hx5⟩; have hw5 := (hw3.trans hx4).trans hx5; have hx15 := ((hx2.trans hx3).trans hx4).trans hx5; replace l0 : ∀ w', Ext w5 w' → _ := fun w' he => l0 w' (hx15.trans he); replace l1 : ∀ w', Ext w5 w' → _ := fun w' he => l1 w' (hx15.trans he); replace a0 : ∀ w', Ext w5 w' → _ := fun w' he => a0 w' (hx15.trans he); replace a1 : ∀ w', Ext w5 w' → _ := fun w' he => a1 w' (hx15.trans he); replace b0 : ∀ w', Ext w5 w' → _ := fun w' he => b0 w' (hx15.trans he); replace b1 : ∀ w', Ext w5 w' → _ := fun w' he => b1 w' (hx15.trans he))
    | (go_at_call 18; refine (Htw.out _ hw5).mono ?_; rintro e w6 ⟨A1, c1, B1, d1, vs, rfl, htw6, hx6⟩; have hw6 := hw5.trans hx6; have hlk6 := Hlk.out _ _ _ _ _ _ _ htw6; replace l0 : ∀ w', Ext w6 w' → _ := fun w' he => l0 w' (hx6.trans he); replace l1 : ∀ w', Ext w6 w' → _ := fun w' he => l1 w' (hx6.trans he); replace a0 : ∀ w', Ext w6 w' → _ := fun w' he => a0 w' (hx6.trans he); replace a1 : ∀ w', Ext w6 w' → _ := fun w' he => a1 w' (hx6.trans he); replace b0 : ∀ w', Ext w6 w' → _ := fun w' he => b0 w' (hx6.trans he); replace b1 : ∀ w', Ext w6 w' → _ := fun w' he => b1 w' (hx6.trans he); have ko := (Blk.new (W := w6) #[.slice A1 np c1, .slice B1 nh d1] 25); have o0 := ko.at_ 0 rfl; have o1 := ko.at_ 1 rfl; clear ko htw6)
    | (go_at_call 27; have hlk6a := hlk6.ext ((Ext.refl w6).alloc (.cells #[.slice A1 np c1, .slice B1 nh d1] 25)); refine (Hps.out _ _ _ _ _ hlk6a).mono ?_; rintro e w7a ⟨P1, p1c, rfl, hr1, hx7a⟩; replace o0 : ∀ w', Ext w7a w' → _ := fun w' he => o0 w' (hx7a.trans he); replace o1 : ∀ w', Ext w7a w' → _ := fun w' he => o1 w' (hx7a.trans he); have hx67a := ((Ext.refl w6).alloc (.cells #[.slice A1 np c1, .slice B1 nh d1] 25)).trans hx7a; replace l0 : ∀ w', Ext w7a w' → _ := fun w' he => l0 w' (hx67a.trans he); replace l1 : ∀ w', Ext w7a w' → _ := fun w' he => l1 w' (hx67a.trans he); replace a0 : ∀ w', Ext w7a w' → _ := fun w' he => a0 w' (hx67a.trans he); replace a1 : ∀ w', Ext w7a w' → _ := fun w' he => a1 w' (hx67a.trans he); replace b0 : ∀ w', Ext w7a w' → _ := fun w' he => b0 w' (hx67a.trans he); replace b1 : ∀ w', Ext w7a w' → _ := fun w' he => b1 w' (hx67a.trans he))
    | (go_at_call 28; refine (Hpr.out _ (hw6.trans hx67a)).mono ?_; rintro e w7 ⟨P2, p2c, rfl, hr2, hx7⟩; replace l0 : ∀ w', Ext w7 w' → _ := fun w' he => l0 w' (hx7.trans he); replace l1 : ∀ w', Ext w7 w' → _ := fun w' he => l1 w' (hx7.trans he); replace a0 : ∀ w', Ext w7 w' → _ := fun w' he => a0 w' (hx7.trans he); replace a1 : ∀ w', Ext w7 w' → _ := fun w' he => a1 w' (hx7.trans he); replace b0 : ∀ w', Ext w7 w' → _ := fun w' he => b0 w' (hx7.trans he); replace b1 : ∀ w', Ext w7 w' → _ := fun w' he => b1 w' (hx7.trans he); replace o0 : ∀ w', Ext w7 w' → _ := fun w' he => o0 w' (hx7.trans he); replace o1 : ∀ w', Ext w7 w' → _ := fun w' he => o1 w' (hx7.trans he)))
  have hsp := fun w' (he : Ext w7 w') => Hsp0.out P1 P2 p1c p2c w' (hr1.ext (hx7.trans he)) (hr2.ext he)
  have hx7' : Ext w6 w7 := hx67a.trans hx7
  have hlk7 := hlk6.ext hx7'
  have hw7 := hw6.trans hx7'
  have hck := fun w' (he : Ext w7 w') => Hck0.out w' A1 c1 B1 d1 (hlk7.ext he)
  have hcr := fun w' (he : Ext w7 w') => Hcr0.out w' (hw7.trans he)
  have Hsp := Lib.hid hsp
  have Hck := Lib.hid hck
  have Hcr := Lib.hid hcr
  have Hlk7 := Lib.hid hlk7
  have Hw7 := Lib.hid hw7
  clear hsp hck hcr hlk6 hlk7 hw7 hx7' hx67a hw6 hr1 hr2 hx7 hx7a hlk6a hw1 hw3 hw5 hx1 hx2 hx3 hx4 hx5 hx15 hx6 Hgr Han Har Hcp Hcq Htw Hlk Hps Hpr Hck0 Hcr0 Hsp0 Hx0
  refine wp_region_calm 16 (fun j _ v _ => (j = 2 → v = .bool true) ∧ (j = 11 → v = .int .i64 CE) ∧ (j = 13 → v = .int .i64 CE)) (fun _ _ _ _ _ _ h => h) (by kernel_rfl) (by kernel_rfl) ?_
  simp only [List.take_succ_cons, List.take_zero, List.drop_succ_cons, List.drop_zero]
  refine calm_quiet calm_mono_final 2 (by kernel_rfl) ?_
  simp only [List.take_succ_cons, List.take_zero, List.drop_succ_cons, List.drop_zero]
  repeat (go_big_quiet_step (fail))
  refine wpQuiet_nil ?_
  refine calm_call calm_mono_final 29 #[.slice P1 pn p1c, .slice P2 pn p2c] rfl (fun w => ?_) (fun w he hF => ?_) ?_
  · go_simp
  · exact (Hsp.out w (show Ext w7 w from he)).mono fun e w'' ⟨he', hx⟩ => ⟨_, he', hx, And.intro (fun _ => rfl) (And.intro (fun h => by cases h) (fun h => by cases h))⟩
  rintro _ _ _ ⟨h, _⟩
  cases h rfl
  simp only [Act.put, List.setIfInBounds_toArray, List.set_cons_succ, List.set_cons_zero]
  refine calm_quiet calm_mono_final 8 (by kernel_rfl) ?_
  simp only [List.take_succ_cons, List.take_zero, List.drop_succ_cons, List.drop_zero]
  repeat (go_big_quiet_step (fail))
  refine wpQuiet_nil ?_
  refine calm_call calm_mono_final 30 #[.agg #[.slice A1 np c1, .slice B1 nh d1]] rfl (fun w => ?_) (fun w he hF => ?_) ?_
  · go_simp
  · exact (Hck.out w (show Ext w7 w from he)).mono fun e w'' ⟨he', hx⟩ => ⟨_, he', hx, And.intro (fun h => by cases h) (And.intro (fun _ => rfl) (fun h => by cases h))⟩
  rintro _ _ _ ⟨_, h, _⟩
  cases h rfl
  simp only [Act.put, List.setIfInBounds_toArray, List.set_cons_succ, List.set_cons_zero]
  refine calm_quiet calm_mono_final 1 (by kernel_rfl) ?_
  simp only [List.take_succ_cons, List.take_zero, List.drop_succ_cons, List.drop_zero]
  repeat (go_big_quiet_step (fail))
  refine wpQuiet_nil ?_
  refine calm_call calm_mono_final 31 #[.agg #[.slice A np c, .slice B nh d]] rfl (fun w => ?_) (fun w he hF => ?_) ?_
  · go_simp
  · exact (Hcr.out w (show Ext w7 w from he)).mono fun e w'' ⟨he', hx⟩ => ⟨_, he', hx, And.intro (fun h => by cases h) (And.intro (fun h => by cases h) (fun _ => rfl))⟩
  rintro _ _ _ ⟨_, _, h⟩
  cases h rfl
  simp only [Act.put, List.setIfInBounds_toArray, List.set_cons_succ, List.set_cons_zero]
  refine calm_quiet calm_mono_final 2 (by kernel_rfl) ?_
  simp only [List.take_succ_cons, List.take_zero, List.drop_succ_cons, List.drop_zero]
  repeat (go_big_quiet_step (fail))
  refine wpQuiet_nil ?_
  refine calm_nil fun w8 he8 _ => ?_
  have he8 : Ext w7 w8 := he8
  replace l0 : ∀ w', Ext w8 w' → _ := fun w' he => l0 w' (he8.trans he)
  replace l1 : ∀ w', Ext w8 w' → _ := fun w' he => l1 w' (he8.trans he)
  replace a0 : ∀ w', Ext w8 w' → _ := fun w' he => a0 w' (he8.trans he)
  replace a1 : ∀ w', Ext w8 w' → _ := fun w' he => a1 w' (he8.trans he)
  replace b0 : ∀ w', Ext w8 w' → _ := fun w' he => b0 w' (he8.trans he)
  replace b1 : ∀ w', Ext w8 w' → _ := fun w' he => b1 w' (he8.trans he)
  replace o0 : ∀ w', Ext w8 w' → _ := fun w' he => o0 w' (he8.trans he)
  replace o1 : ∀ w', Ext w8 w' → _ := fun w' he => o1 w' (he8.trans he)
  have Hw8 := Lib.hid (Hw7.out.trans he8)
  have Hlk8 := Lib.hid (Hlk7.out.ext he8)
  clear he8 Hsp Hck Hcr Hw7 Hlk7
  have L0 := Lib.hid l0
  have L1 := Lib.hid l1
  have A0 := Lib.hid a0
  have A1' := Lib.hid a1
  have B0 := Lib.hid b0
  have B1' := Lib.hid b1
  have O0 := Lib.hid o0
  have O1 := Lib.hid o1
  go_wp2_with (first
    | (go_at_call 32; refine (Hcs.out _ _ _ _ _ Hlk8.out).mono ?_; rintro e w9 ⟨X3, c3, rfl, ho3, hx9⟩; replace l0 : ∀ w', Ext w9 w' → _ := fun w' he => l0 w' (hx9.trans he); replace l1 : ∀ w', Ext w9 w' → _ := fun w' he => l1 w' (hx9.trans he); replace a0 : ∀ w', Ext w9 w' → _ := fun w' he => a0 w' (hx9.trans he); replace a1 : ∀ w', Ext w9 w' → _ := fun w' he => a1 w' (hx9.trans he); replace b0 : ∀ w', Ext w9 w' → _ := fun w' he => b0 w' (hx9.trans he); replace b1 : ∀ w', Ext w9 w' → _ := fun w' he => b1 w' (hx9.trans he); replace o0 : ∀ w', Ext w9 w' → _ := fun w' he => o0 w' (hx9.trans he); replace o1 : ∀ w', Ext w9 w' → _ := fun w' he => o1 w' (hx9.trans he))
    | (go_at_call 33; refine (Hct.out _ (Hw8.out.trans hx9)).mono ?_; rintro e w10 ⟨X4, c4, rfl, hr4, hx10⟩; replace l0 : ∀ w', Ext w10 w' → _ := fun w' he => l0 w' (hx10.trans he); replace l1 : ∀ w', Ext w10 w' → _ := fun w' he => l1 w' (hx10.trans he); replace a0 : ∀ w', Ext w10 w' → _ := fun w' he => a0 w' (hx10.trans he); replace a1 : ∀ w', Ext w10 w' → _ := fun w' he => a1 w' (hx10.trans he); replace b0 : ∀ w', Ext w10 w' → _ := fun w' he => b0 w' (hx10.trans he); replace b1 : ∀ w', Ext w10 w' → _ := fun w' he => b1 w' (hx10.trans he); replace o0 : ∀ w', Ext w10 w' → _ := fun w' he => o0 w' (hx10.trans he); replace o1 : ∀ w', Ext w10 w' → _ := fun w' he => o1 w' (hx10.trans he))
    | (go_at_call 34; refine (Hss.out X3 X4 c3 c4 _ (Row.ext ho3.row hx10) hr4).mono ?_; rintro e w11 ⟨rfl, hx11⟩; replace l0 : ∀ w', Ext w11 w' → _ := fun w' he => l0 w' (hx11.trans he); replace l1 : ∀ w', Ext w11 w' → _ := fun w' he => l1 w' (hx11.trans he); replace a0 : ∀ w', Ext w11 w' → _ := fun w' he => a0 w' (hx11.trans he); replace a1 : ∀ w', Ext w11 w' → _ := fun w' he => a1 w' (hx11.trans he); replace b0 : ∀ w', Ext w11 w' → _ := fun w' he => b0 w' (hx11.trans he); replace b1 : ∀ w', Ext w11 w' → _ := fun w' he => b1 w' (hx11.trans he); replace o0 : ∀ w', Ext w11 w' → _ := fun w' he => o0 w' (hx11.trans he); replace o1 : ∀ w', Ext w11 w' → _ := fun w' he => o1 w' (hx11.trans he)))
  have hx8 := (hx9.trans hx10).trans hx11
  have ho11 : Own w8 w11 27 2 (.slice X3 N c3) N Z := (ho3.later hx10).later hx11
  have hzv := Hcv.out
  clear ho3 hr4 hx9 hx10 hx11 Hcs Hct Hss Hcv l0 l1 a0 a1 b0 b1 o0 o1 hx8
  go_loopw [133] (fun i wr => ∃ (k : Nat) (xs : List Value), k ≤ N ∧ i = .int .i64 k ∧ Own w8 wr 27 2 (.slice X3 N c3) N xs ∧ ∀ v ∈ xs, ∃ z, v = .int .i64 z) (fun i _ => N - (intOf i).toNat)
  case atStart => exact ⟨0, Z, by omega, rfl, ho11, hzv⟩
  case round =>
    clear ho11 hzv
    obtain ⟨k, xs, hk, rfl, hown, hxs⟩ := hrel
    by_cases hlt : k < N
    · obtain ⟨g, cg, ee, _, _⟩ := hown.at_ (by omega)
      injection ee with ee _ _
      subst ee
      have hlen := hown.len
      have hkx : k * 2 < xs.length := by omega
      obtain ⟨z, hz⟩ := hxs _ (List.getElem_mem hkx)
      have e0 : wr.cell? ⟨g, k * 2, none⟩ = some (.int .i64 z) := by
        rw [hown.cell (j := k * 2) hkx, List.getElem?_eq_getElem hkx, hz]
      have hf := hown.free
      have hown2 := hown.store (k * 2) (.int .i64 (wrap64 (z + 1)))
      have hxs2 : ∀ v ∈ xs.set (k * 2) (.int .i64 (wrap64 (z + 1))), ∃ z, v = .int .i64 z := fun v hv => by
        rcases List.mem_or_eq_of_mem_set hv with h | h
        · exact hxs v h
        · exact ⟨_, h⟩
      have H2 := Lib.hid (And.intro hown2 hxs2)
      have hkn : (k : Int) < (N : Int) := by omega
      clear hown2 hxs2 hown hxs hz hlen Hsl Hga Hgb Hlk8 Hw8 L0 L1 A0 A1' B0 B1' O0 O1
      go_wp2
      go_roundw
      case rel => exact ⟨k + 1, _, by omega, by go_num, H2.out.1, H2.out.2⟩
      case measure => simp [intOf]; omega
    · obtain rfl : N = k := by omega
      have hex := hown.ext
      have l0 : ∀ w', Ext wr w' → _ := fun w' he => L0.out w' (hex.trans he)
      have l1 : ∀ w', Ext wr w' → _ := fun w' he => L1.out w' (hex.trans he)
      have a0 : ∀ w', Ext wr w' → _ := fun w' he => A0.out w' (hex.trans he)
      have a1 : ∀ w', Ext wr w' → _ := fun w' he => A1'.out w' (hex.trans he)
      have b0 : ∀ w', Ext wr w' → _ := fun w' he => B0.out w' (hex.trans he)
      have b1 : ∀ w', Ext wr w' → _ := fun w' he => B1'.out w' (hex.trans he)
      have o0 : ∀ w', Ext wr w' → _ := fun w' he => O0.out w' (hex.trans he)
      have o1 : ∀ w', Ext wr w' → _ := fun w' he => O1.out w' (hex.trans he)
      have Hlk9 := Lib.hid (Hlk8.out.ext hex)
      have Hw9 := Lib.hid (Hw8.out.trans hex)
      clear hown hxs Hlk8 Hw8 L0 L1 A0 A1' B0 B1' O0 O1 hex
      go_wp2_with (first
        | (go_at_call 35; refine (Hga.out _ _ _ _ _ Hlk9.out).mono ?_; rintro e w12 ⟨rfl, hx12⟩; replace l0 : ∀ w', Ext w12 w' → _ := fun w' he => l0 w' (hx12.trans he); replace l1 : ∀ w', Ext w12 w' → _ := fun w' he => l1 w' (hx12.trans he); replace a0 : ∀ w', Ext w12 w' → _ := fun w' he => a0 w' (hx12.trans he); replace a1 : ∀ w', Ext w12 w' → _ := fun w' he => a1 w' (hx12.trans he); replace b0 : ∀ w', Ext w12 w' → _ := fun w' he => b0 w' (hx12.trans he); replace b1 : ∀ w', Ext w12 w' → _ := fun w' he => b1 w' (hx12.trans he); replace o0 : ∀ w', Ext w12 w' → _ := fun w' he => o0 w' (hx12.trans he); replace o1 : ∀ w', Ext w12 w' → _ := fun w' he => o1 w' (hx12.trans he))
        | (go_at_call 36; refine (Hgb.out _ (Hw9.out.trans hx12)).mono ?_; rintro e w13 ⟨rfl, hx13⟩; replace l0 : ∀ w', Ext w13 w' → _ := fun w' he => l0 w' (hx13.trans he); replace l1 : ∀ w', Ext w13 w' → _ := fun w' he => l1 w' (hx13.trans he); replace a0 : ∀ w', Ext w13 w' → _ := fun w' he => a0 w' (hx13.trans he); replace a1 : ∀ w', Ext w13 w' → _ := fun w' he => a1 w' (hx13.trans he); replace b0 : ∀ w', Ext w13 w' → _ := fun w' he => b0 w' (hx13.trans he); replace b1 : ∀ w', Ext w13 w' → _ := fun w' he => b1 w' (hx13.trans he); replace o0 : ∀ w', Ext w13 w' → _ := fun w' he => o0 w' (hx13.trans he); replace o1 : ∀ w', Ext w13 w' → _ := fun w' he => o1 w' (hx13.trans he))
        | (go_at_call 22; refine (Hsl.out _ _ _ _ _ ((Hlk9.out.ext hx12).ext hx13) ((Hw9.out.trans hx12).trans hx13)).mono ?_; rintro e w14 ⟨rfl, hx14⟩))
      go_ret
      exact ⟨rfl, ((Hw9.out.trans hx12).trans hx13).trans hx14⟩
theorem poses_law (n : Int) (P : Option Addr) (pc : Nat) (p : List Sp) (A : Option Addr) (c : Nat) (ps : List (List Sp)) (B : Option Addr) (d : Nat) (hs : List Hg) (x : Int) (a b : Sp) (w : World) (hp : SRow w P p) (hA : PnRow w A ps) (hB : HRow w B hs) :
    Calls Try.prog 4 #[.int .i64 n, .slice P p.length pc, .agg #[.slice A ps.length c, .slice B hs.length d], .int .i64 x, a.val, b.val] w fun e w' => e = .returned (.bool true) ∧ Ext w w' := by
  by_cases h : greatP ps hs ∨ 20 < p.length
  · exact poses_law_out n P pc p A c ps B d hs x a b w hp hA hB h
  · exact poses_law_in n P pc p A c ps B d hs x a b w hp hA hB (fun h' => h (.inl h')) (by omega)
end Go.Proofs.Yteilglljigjefaa
