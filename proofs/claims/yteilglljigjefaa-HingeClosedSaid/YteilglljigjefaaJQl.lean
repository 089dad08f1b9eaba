/- The law HingeClosed. -/
import Derived.Test.YteilglljigjefaaJ31
import Derived.Test.YteilglljigjefaaJQk
import Derived.Test.YteilglljigjefaaJ19
namespace Go.Proofs.Yteilglljigjefaa
open Go.RowKit
set_option maxRecDepth 100000 in
set_option maxHeartbeats 8000000 in
theorem closed_law_out (A : Option Addr) (c : Nat) (ps : List (List Sp)) (B : Option Addr) (d : Nat) (hs : List Hg) (a b : Sp) (O : Option Addr) (oc : Nat) (xs : List Int) (w : World) (hA : PnRow w A ps) (hg : greatP ps hs) :
    Calls Try.prog 11 #[.agg #[.slice A ps.length c, .slice B hs.length d], a.val, b.val, .slice O xs.length oc] w fun e w' => e = .returned (.bool true) ∧ Ext w w' := by
  have hgr := fun w' (he : Ext w w') => great_any A c ps B d hs w' (hA.ext he)
  rw [← greatB_yes hg] at hgr
  have Hgr := Lib.hid hgr
  clear hgr hA hg
  generalize ps.length = np at *
  generalize hs.length = nh at *
  obtain ⟨ax, ay⟩ := a
  obtain ⟨bx, bY⟩ := b
  have kl : Blk (((w.alloc (.cells #[.slice A np c, .slice B nh d] 25)).alloc (.cells #[vint ax, vint ay] 27)).alloc (.cells #[vint bx, vint bY] 27)) w.heap.size [.slice A np c, .slice B nh d] := (Blk.new _ _).ext (((Ext.refl _).alloc _).alloc _)
  have ka : Blk (((w.alloc (.cells #[.slice A np c, .slice B nh d] 25)).alloc (.cells #[vint ax, vint ay] 27)).alloc (.cells #[vint bx, vint bY] 27)) (w.heap.size + 1) [vint ax, vint ay] := (Blk.new' (cs := #[vint ax, vint ay]) (by simp)).ext ((Ext.refl _).alloc _)
  have kb : Blk (((w.alloc (.cells #[.slice A np c, .slice B nh d] 25)).alloc (.cells #[vint ax, vint ay] 27)).alloc (.cells #[vint bx, vint bY] 27)) (w.heap.size + 1 + 1) [vint bx, vint bY] := (Blk.new' (cs := #[vint bx, vint bY]) (by simp))
  have l0 := kl.at_ 0 rfl
  have l1 := kl.at_ 1 rfl
  have a0 := ka.at_ 0 rfl
  have a1 := ka.at_ 1 rfl
  have b0 := kb.at_ 0 rfl
  have b1 := kb.at_ 1 rfl
  have hx0 : Ext w (((w.alloc (.cells #[.slice A np c, .slice B nh d] 25)).alloc (.cells #[vint ax, vint ay] 27)).alloc (.cells #[vint bx, vint bY] 27)) := ((((Ext.refl _).alloc _).alloc _).alloc _)
  have Hx0 := Lib.hid hx0
  have hb0 : Ext (((w.alloc (.cells #[.slice A np c, .slice B nh d] 25)).alloc (.cells #[vint ax, vint ay] 27)).alloc (.cells #[vint bx, vint bY] 27)) (((w.alloc (.cells #[.slice A np c, .slice B nh d] 25)).alloc (.cells #[vint ax, vint ay] 27)).alloc (.cells #[vint bx, vint bY] 27)) := Ext.refl _
  clear kl ka kb hx0
  go_enter Try.func11, Try.ntmps11
  go_wp2_with (first
    | (go_at_call 17; refine (Hgr.out _ (Hx0.out.trans hb1)).mono ?_; rintro e w2 ⟨rfl, hx2⟩; have hb2 := hb1.trans hx2; clear hb1 hx2)
    | (go_at_call 46; refine (alive_any _).mono ?_; rintro e w1 ⟨rfl, hx1⟩; have hb1 := hb0.trans hx1; clear hb0 hx1))
  go_ret
  exact ⟨rfl, Hx0.out.trans hb2⟩
set_option maxRecDepth 100000 in
set_option maxHeartbeats 8000000 in
theorem closed_law_bad (A : Option Addr) (c : Nat) (ps : List (List Sp)) (B : Option Addr) (d : Nat) (hs : List Hg) (a b : Sp) (O : Option Addr) (oc : Nat) (xs : List Int) (w : World) (hA : PnRow w A ps) (hB : HRow w B hs) (hg : ¬ greatP ps hs) (hl : ¬ linkP ps hs) :
    Calls Try.prog 11 #[.agg #[.slice A ps.length c, .slice B hs.length d], a.val, b.val, .slice O xs.length oc] w fun e w' => e = .returned (.bool true) ∧ Ext w w' := by
  have hL := lk_of hA hB hg
  have hgr := fun w' (he : Ext w w') => great_any A c ps B d hs w' (hA.ext he)
  rw [← greatB_no hg] at hgr
  have hck := fun w' (he : Ext w w') => (hL.ext he).check c d
  rw [← checkE_bad hl] at hck
  have Hgr := Lib.hid hgr
  have Hck := Lib.hid hck
  clear hgr hck hL hA hB hg hl
  generalize ps.length = np at *
  generalize hs.length = nh at *
  obtain ⟨ax, ay⟩ := a
  obtain ⟨bx, bY⟩ := b
  have kl : Blk (((w.alloc (.cells #[.slice A np c, .slice B nh d] 25)).alloc (.cells #[vint ax, vint ay] 27)).alloc (.cells #[vint bx, vint bY] 27)) w.heap.size [.slice A np c, .slice B nh d] := (Blk.new _ _).ext (((Ext.refl _).alloc _).alloc _)
  have ka : Blk (((w.alloc (.cells #[.slice A np c, .slice B nh d] 25)).alloc (.cells #[vint ax, vint ay] 27)).alloc (.cells #[vint bx, vint bY] 27)) (w.heap.size + 1) [vint ax, vint ay] := (Blk.new' (cs := #[vint ax, vint ay]) (by simp)).ext ((Ext.refl _).alloc _)
  have kb : Blk (((w.alloc (.cells #[.slice A np c, .slice B nh d] 25)).alloc (.cells #[vint ax, vint ay] 27)).alloc (.cells #[vint bx, vint bY] 27)) (w.heap.size + 1 + 1) [vint bx, vint bY] := (Blk.new' (cs := #[vint bx, vint bY]) (by simp))
  have l0 := kl.at_ 0 rfl
  have l1 := kl.at_ 1 rfl
  have a0 := ka.at_ 0 rfl
  have a1 := ka.at_ 1 rfl
  have b0 := kb.at_ 0 rfl
  have b1 := kb.at_ 1 rfl
  have hx0 : Ext w (((w.alloc (.cells #[.slice A np c, .slice B nh d] 25)).alloc (.cells #[vint ax, vint ay] 27)).alloc (.cells #[vint bx, vint bY] 27)) := ((((Ext.refl _).alloc _).alloc _).alloc _)
  have Hx0 := Lib.hid hx0
  have hb0 : Ext (((w.alloc (.cells #[.slice A np c, .slice B nh d] 25)).alloc (.cells #[vint ax, vint ay] 27)).alloc (.cells #[vint bx, vint bY] 27)) (((w.alloc (.cells #[.slice A np c, .slice B nh d] 25)).alloc (.cells #[vint ax, vint ay] 27)).alloc (.cells #[vint bx, vint bY] 27)) := Ext.refl _
  clear kl ka kb hx0
  go_enter Try.func11, Try.ntmps11
  go_wp2_with (first
    | (go_at_call 30; refine (Hck.out _ (Hx0.out.trans hb2)).mono ?_; rintro e w3 ⟨rfl, hx3⟩; have hb3 := hb2.trans hx3; clear hb2 hx3)
    | (go_at_call 17; refine (Hgr.out _ (Hx0.out.trans hb1)).mono ?_; rintro e w2 ⟨rfl, hx2⟩; have hb2 := hb1.trans hx2; clear hb1 hx2)
    | (go_at_call 46; refine (alive_any _).mono ?_; rintro e w1 ⟨rfl, hx1⟩; have hb1 := hb0.trans hx1; clear hb0 hx1))
  go_ret
  exact ⟨rfl, Hx0.out.trans hb3⟩
set_option maxRecDepth 100000 in
set_option maxHeartbeats 8000000 in
theorem closed_law_ask (A : Option Addr) (c : Nat) (ps : List (List Sp)) (B : Option Addr) (d : Nat) (hs : List Hg) (a b : Sp) (O : Option Addr) (oc : Nat) (xs : List Int) (w : World) (hA : PnRow w A ps) (hB : HRow w B hs) (hg : ¬ greatP ps hs) (hl : linkP ps hs) (hq : askE ps hs a b = 2) :
    Calls Try.prog 11 #[.agg #[.slice A ps.length c, .slice B hs.length d], a.val, b.val, .slice O xs.length oc] w fun e w' => e = .returned (.bool true) ∧ Ext w w' := by
  have hL := lk_of hA hB hg
  have hgr := fun w' (he : Ext w w') => great_any A c ps B d hs w' (hA.ext he)
  rw [← greatB_no hg] at hgr
  have hck := fun w' (he : Ext w w') => (hL.ext he).check c d
  rw [← checkE_good hl] at hck
  have hcl := fun w' (he : Ext w w') => (close_any A c ps B d hs a b w' (hL.ext he)).mono (R' := fun e w'' => ∃ X x, e = .returned (.tuple #[.slice X (cloL ps hs a b).length x, .int .i64 2]) ∧ Ints w'' X (cloL ps hs a b) ∧ Ext w' w'') fun e w'' ⟨v, he, ho⟩ => by
    obtain ⟨X, x, rfl⟩ := ho.form
    rw [show cloE ps hs a b = 2 by unfold cloE; rw [if_neg (by omega), hq]] at he
    exact ⟨X, x, he, OwnI.ints ho, ho.ext⟩
  have hga := fun w' (he : Ext w w') => gap_all A c ps B d hs a b w' (hL.ext he)
  have hz : gapE ps hs a b = .tuple #[.int .i64 0, .int .i64 0, .int .i64 0, .int .i64 2] := by unfold gapE; rw [if_neg (by omega), hq]
  rw [hz] at hga
  have Hgr := Lib.hid hgr
  have Hck := Lib.hid hck
  have Hcl := Lib.hid hcl
  have Hga := Lib.hid hga
  clear hgr hck hcl hga hL hA hB hg hl hz hq
  generalize (cloL ps hs a b).length = cn at *
  generalize cloL ps hs a b = CL at *
  generalize ps.length = np at *
  generalize hs.length = nh at *
  obtain ⟨ax, ay⟩ := a
  obtain ⟨bx, bY⟩ := b
  have kl : Blk (((w.alloc (.cells #[.slice A np c, .slice B nh d] 25)).alloc (.cells #[vint ax, vint ay] 27)).alloc (.cells #[vint bx, vint bY] 27)) w.heap.size [.slice A np c, .slice B nh d] := (Blk.new _ _).ext (((Ext.refl _).alloc _).alloc _)
  have ka : Blk (((w.alloc (.cells #[.slice A np c, .slice B nh d] 25)).alloc (.cells #[vint ax, vint ay] 27)).alloc (.cells #[vint bx, vint bY] 27)) (w.heap.size + 1) [vint ax, vint ay] := (Blk.new' (cs := #[vint ax, vint ay]) (by simp)).ext ((Ext.refl _).alloc _)
  have kb : Blk (((w.alloc (.cells #[.slice A np c, .slice B nh d] 25)).alloc (.cells #[vint ax, vint ay] 27)).alloc (.cells #[vint bx, vint bY] 27)) (w.heap.size + 1 + 1) [vint bx, vint bY] := (Blk.new' (cs := #[vint bx, vint bY]) (by simp))
  have l0 := kl.at_ 0 rfl
  have l1 := kl.at_ 1 rfl
  have a0 := ka.at_ 0 rfl
  have a1 := ka.at_ 1 rfl
  have b0 := kb.at_ 0 rfl
  have b1 := kb.at_ 1 rfl
  have hx0 : Ext w (((w.alloc (.cells #[.slice A np c, .slice B nh d] 25)).alloc (.cells #[vint ax, vint ay] 27)).alloc (.cells #[vint bx, vint bY] 27)) := ((((Ext.refl _).alloc _).alloc _).alloc _)
  have Hx0 := Lib.hid hx0
  have hb0 : Ext (((w.alloc (.cells #[.slice A np c, .slice B nh d] 25)).alloc (.cells #[vint ax, vint ay] 27)).alloc (.cells #[vint bx, vint bY] 27)) (((w.alloc (.cells #[.slice A np c, .slice B nh d] 25)).alloc (.cells #[vint ax, vint ay] 27)).alloc (.cells #[vint bx, vint bY] 27)) := Ext.refl _
  clear kl ka kb hx0
  go_enter Try.func11, Try.ntmps11
  go_wp2_with (first
    | (go_at_call 35; have hq := hb4; clear hq; refine (Hga.out _ (Hx0.out.trans hb4)).mono ?_; rintro e w5 ⟨rfl, hx5⟩; have hx45 := hx5; have hb5 := hb4.trans hx5; clear hb4 hx5)
    | (go_at_call 19; refine (Hcl.out _ (Hx0.out.trans hb3)).mono ?_; rintro e w4 ⟨X, x, rfl, hX, hx4⟩; have hb4 := hb3.trans hx4; have HX := Lib.hid hX; clear hb3 hx4 hX)
    | (go_at_call 30; refine (Hck.out _ (Hx0.out.trans hb2)).mono ?_; rintro e w3 ⟨rfl, hx3⟩; have hb3 := hb2.trans hx3; clear hb2 hx3)
    | (go_at_call 17; refine (Hgr.out _ (Hx0.out.trans hb1)).mono ?_; rintro e w2 ⟨rfl, hx2⟩; have hb2 := hb1.trans hx2; clear hb1 hx2)
    | (go_at_call 46; refine (alive_any _).mono ?_; rintro e w1 ⟨rfl, hx1⟩; have hb1 := hb0.trans hx1; clear hb0 hx1))
  go_ret
  exact ⟨rfl, Hx0.out.trans hb5⟩
set_option maxRecDepth 100000 in
set_option maxHeartbeats 32000000 in
theorem closed_law_none (A : Option Addr) (c : Nat) (ps : List (List Sp)) (B : Option Addr) (d : Nat) (hs : List Hg) (a b : Sp) (O : Option Addr) (oc : Nat) (xs : List Int) (w : World) (hA : PnRow w A ps) (hB : HRow w B hs) (hg : ¬ greatP ps hs) (hl : linkP ps hs) (ha : spotB a) (hb : spotB b) (ho : Ints w O xs) (hc : clo a b hs pose0 = none) :
    Calls Try.prog 11 #[.agg #[.slice A ps.length c, .slice B hs.length d], a.val, b.val, .slice O xs.length oc] w fun e w' => e = .returned (.bool true) ∧ Ext w w' := by
  have hL := lk_of hA hB hg
  have hgr := fun w' (he : Ext w w') => great_any A c ps B d hs w' (hA.ext he)
  rw [← greatB_no hg] at hgr
  have hck := fun w' (he : Ext w w') => (hL.ext he).check c d
  rw [← checkE_good hl] at hck
  have hq : askE ps hs a b = 0 := ask_good hl ⟨ha, hb⟩
  have hcl := fun w' (he : Ext w w') => (close_any A c ps B d hs a b w' (hL.ext he)).mono (R' := fun e w'' => ∃ X x, e = .returned (.tuple #[.slice X 0 x, .int .i64 52]) ∧ True ∧ Ext w' w'') fun e w'' ⟨v, he, ho⟩ => by
    have e1 : cloE ps hs a b = 52 := by unfold cloE; rw [if_pos hq, hc]; rfl
    have e2 : cloL ps hs a b = [] := by unfold cloL; rw [if_pos hq, hc]; rfl
    rw [e1] at he
    rw [e2] at ho
    obtain ⟨X, x, rfl⟩ := ho.form
    exact ⟨X, x, he, trivial, ho.ext⟩
  have hga := fun w' (he : Ext w w') => gap_all A c ps B d hs a b w' (hL.ext he)
  have hz : gapE ps hs a b = .tuple #[.int .i64 (gapS (lastP hs) a b).x, .int .i64 (gapS (lastP hs) a b).y, .int .i64 (lastP hs).d, .int .i64 0] := if_pos hq
  rw [hz] at hga
  have hd := (psOk (lastP_ok hl)).bd.1
  have hno := clo_none hs pose0 hc
  have hown : gap0 (lastP hs) a b = false := by
    have h1 := hno (hs.map fun h => h.ang.toNat) (by simp) (fun n hn => by
      obtain ⟨h, hh, rfl⟩ := List.mem_map.1 hn
      have := (hl.hinges h hh).2.2
      omega)
    rw [← last_bent (by simp), bent_own hs hl.hinges] at h1
    exact h1
  have hn1 := ((gap_nums (lastP hs) a b).2 hown).imp (fun h => (show ((gapS (lastP hs) a b).x == 0) = false by simpa using h)) (fun h => And.intro h.1 (show ((gapS (lastP hs) a b).y == 0) = false by simpa using h.2))
  have htw := fun w' (he : Ext w w') => twin_any A c ps B d hs w' (hL.ext he)
  have hgb := fun (hlen : xs.length = hs.length) (hx : ∀ j, j < xs.length → 0 ≤ getI xs j ∧ getI xs j < 36) (w1 w' : World) (A1 : Option Addr) (c1 : Nat) (B1 : Option Addr) (d1 : Nat) (vs : List Value) (h : TwinOk w1 w' A1 c1 B1 d1 vs ps (HB hs xs xs.length)) => (show ∃ X Y D, ((X != 0) = true ∨ X = 0 ∧ (Y != 0) = true) ∧ Calls Try.prog 35 #[.agg #[.slice A1 ps.length c1, .slice B1 hs.length d1], a.val, b.val] w' fun e w'' => e = .returned (.tuple #[.int .i64 X, .int .i64 Y, .int .i64 D, .int .i64 0]) ∧ Ext w' w'' from by
    obtain ⟨X, Y, D, hn, hg⟩ := HB_all hl ha hb hlen hx h hL.np hL.hp
    exact ⟨X, Y, D, hn.2 (hno _ (by simpa using hlen) (HB_36 hx)), hg⟩)
  have hst := fun (j : Nat) (hj : j < hs.length) (hjx : j < xs.length) (h0 : 0 ≤ getI xs j) (w1 w' : World) (A1 : Option Addr) (c1 : Nat) (B1 : Option Addr) (d1 : Nat) (vs : List Value) (h : TwinOk w1 w' A1 c1 B1 d1 vs ps (HB hs xs j)) => HB_step hj hjx h0 h
  have hb0' := HB_zero hs xs
  have hxa := fun (j : Nat) (hj : j < xs.length) => ho.some_ (by omega)
  have hnh := hl.nh
  have Hgr := Lib.hid hgr
  have Hck := Lib.hid hck
  have Hcl := Lib.hid hcl
  have Hga := Lib.hid hga
  have Htw := Lib.hid htw
  have Hgb := Lib.hid hgb
  have Hst := Lib.hid hst
  have Hb0' := Lib.hid hb0'
  have Hxa := Lib.hid hxa
  clear hgr hck hcl hga htw hgb hst hb0' hxa hno hL hA hB hg hl hz hq ho hown hc ha hb
  generalize HB hs xs = F at *
  generalize (gapS (lastP hs) a b).x = gx0 at *
  generalize (gapS (lastP hs) a b).y = gy0 at *
  generalize (lastP hs).d = gd0 at *
  generalize ps.length = np at *
  generalize hnl : hs.length = nh at *
  have Hnl := Lib.hid hnl
  clear hnl
  generalize hxl : xs.length = nx at *
  have Hxl := Lib.hid hxl
  clear hxl
  obtain ⟨ax, ay⟩ := a
  obtain ⟨bx, bY⟩ := b
  have kl : Blk (((w.alloc (.cells #[.slice A np c, .slice B nh d] 25)).alloc (.cells #[vint ax, vint ay] 27)).alloc (.cells #[vint bx, vint bY] 27)) w.heap.size [.slice A np c, .slice B nh d] := (Blk.new _ _).ext (((Ext.refl _).alloc _).alloc _)
  have ka : Blk (((w.alloc (.cells #[.slice A np c, .slice B nh d] 25)).alloc (.cells #[vint ax, vint ay] 27)).alloc (.cells #[vint bx, vint bY] 27)) (w.heap.size + 1) [vint ax, vint ay] := (Blk.new' (cs := #[vint ax, vint ay]) (by simp)).ext ((Ext.refl _).alloc _)
  have kb : Blk (((w.alloc (.cells #[.slice A np c, .slice B nh d] 25)).alloc (.cells #[vint ax, vint ay] 27)).alloc (.cells #[vint bx, vint bY] 27)) (w.heap.size + 1 + 1) [vint bx, vint bY] := (Blk.new' (cs := #[vint bx, vint bY]) (by simp))
  have l0 := kl.at_ 0 rfl
  have l1 := kl.at_ 1 rfl
  have a0 := ka.at_ 0 rfl
  have a1 := ka.at_ 1 rfl
  have b0 := kb.at_ 0 rfl
  have b1 := kb.at_ 1 rfl
  have hx0 : Ext w (((w.alloc (.cells #[.slice A np c, .slice B nh d] 25)).alloc (.cells #[vint ax, vint ay] 27)).alloc (.cells #[vint bx, vint bY] 27)) := ((((Ext.refl _).alloc _).alloc _).alloc _)
  have Hx0 := Lib.hid hx0
  have hb0 : Ext (((w.alloc (.cells #[.slice A np c, .slice B nh d] 25)).alloc (.cells #[vint ax, vint ay] 27)).alloc (.cells #[vint bx, vint bY] 27)) (((w.alloc (.cells #[.slice A np c, .slice B nh d] 25)).alloc (.cells #[vint ax, vint ay] 27)).alloc (.cells #[vint bx, vint bY] 27)) := Ext.refl _
  clear kl ka kb hx0
  by_cases hnx : nx = nh
  · have hnx' := hnx.symm
    subst hnx'
    rcases hn1 with h1 | ⟨rfl, h1⟩
    all_goals
      go_enter Try.func11, Try.ntmps11
      go_wp2_with (first
        | (go_at_call 18; refine (Htw.out _ (Hx0.out.trans hb5)).mono ?_; rintro e w6 ⟨A2, c2, B2, d2, vs2, rfl, hT, hx6⟩; have hb6 := hb5.trans hx6; have HT := Lib.hid hT; have H5 := Lib.hid hb5; clear hb5 hT)
        | (go_at_call 35; have hq := hb4; clear hq; refine (Hga.out _ (Hx0.out.trans hb4)).mono ?_; rintro e w5 ⟨rfl, hx5⟩; have hx45 := hx5; have hb5 := hb4.trans hx5; clear hb4 hx5)
        | (go_at_call 19; refine (Hcl.out _ (Hx0.out.trans hb3)).mono ?_; rintro e w4 ⟨X, x, rfl, hX, hx4⟩; have hb4 := hb3.trans hx4; have HX := Lib.hid hX; clear hb3 hx4 hX)
        | (go_at_call 30; refine (Hck.out _ (Hx0.out.trans hb2)).mono ?_; rintro e w3 ⟨rfl, hx3⟩; have hb3 := hb2.trans hx3; clear hb2 hx3)
        | (go_at_call 17; refine (Hgr.out _ (Hx0.out.trans hb1)).mono ?_; rintro e w2 ⟨rfl, hx2⟩; have hb2 := hb1.trans hx2; clear hb1 hx2)
        | (go_at_call 46; refine (alive_any _).mono ?_; rintro e w1 ⟨rfl, hx1⟩; have hb1 := hb0.trans hx1; clear hb0 hx1))
      have hT0 : TwinOk w5 (w6.alloc (.cells #[.slice A2 np c2, .slice B2 nh d2] 25)) A2 c2 B2 d2 vs2 ps (F 0) := by
        rw [Hb0'.out]
        exact HT.out.later ((Ext.refl _).alloc _)
      have hW0 : Whole (w6.alloc (.cells #[.slice A2 np c2, .slice B2 nh d2] 25)) w6.heap.size #[.slice A2 np c2, .slice B2 nh d2] 25 := Whole.new rfl
      have Hb6 := Lib.hid hb6
      clear hb6 hx6 l0 l1 Hgr Hck Hcl Hga Htw
      go_loopw [145] (fun i wr => ∃ j : Nat, j ≤ nh ∧ i = .int .i64 j ∧ (∀ m, m < j → 0 ≤ getI xs m ∧ getI xs m < 36) ∧ TwinOk w5 wr A2 c2 B2 d2 vs2 ps (F j) ∧ Whole wr w6.heap.size #[.slice A2 np c2, .slice B2 nh d2] 25) (fun i _ => nh - (intOf i).toNat)
      case atStart => exact ⟨0, by omega, rfl, fun m hm => by omega, hT0, hW0⟩
      case round =>
        clear hT0 hW0
        obtain ⟨j, hj, rfl, hrg, hTj, hWj⟩ := hrel
        have hx5r := hTj.pown.ext
        have hxw := (Hx0.out.trans H5.out).trans hx5r
        by_cases hlt : j < nh
        · have hji : (j : Int) < (nh : Int) := by omega
          obtain ⟨ado, rfl, hO⟩ := Hxa.out j hlt
          have c0 : ∀ w', Ext wr w' → _ := fun w' he => hO j hlt w' (hxw.trans he)
          by_cases hr : 0 ≤ getI xs j ∧ getI xs j < 36
          · obtain ⟨hr1, hr2⟩ := hr
            obtain ⟨g, rfl, hg1, hg2, ⟨u, hcell⟩, hfro, hT'⟩ := Hst.out j hlt hlt hr1 _ _ _ _ _ _ _ hTj
            have hgne : w6.heap.size ≠ g := fun e => hTj.hown.ne_whole hWj (by decide) (by rw [e]; rfl)
            have hW' := hWj.farCell hgne (j * 5 + 4) (vint (getI xs j))
            have kb := hWj.blk
            have o0 := kb.at_ 0 rfl
            have o1 := kb.at_ 1 rfl
            have hrg' : ∀ m, m < j + 1 → 0 ≤ getI xs m ∧ getI xs m < 36 := fun m hm => by
              by_cases h : m < j
              · exact hrg m h
              · obtain rfl : m = j := by omega
                exact ⟨hr1, hr2⟩
            have HR := Lib.hid (And.intro hrg' (And.intro hT' hW'))
            clear hrg hTj hWj hx5r hxw hO hT' hW' kb hrg' hg1 hg2 hgne
            go_wp2
            go_roundw
            case rel => exact ⟨j + 1, by omega, by go_num, HR.out.1, HR.out.2.1, HR.out.2.2⟩
            case measure => simp [intOf]; omega
          · rcases (by omega : getI xs j < 0 ∨ (¬ getI xs j < 0 ∧ 36 ≤ getI xs j)) with h7 | ⟨h7, h8⟩
            all_goals
              clear hr hrg hTj hWj hO
              go_wp2
              go_ret
              exact ⟨rfl, hxw⟩
        · obtain rfl : j = nh := by omega
          obtain ⟨wp, rfl⟩ : ∃ wp : World, wp = wr := ⟨_, rfl⟩
          have HR := Lib.hid (And.intro hrg (And.intro hTj hWj))
          clear hrg hTj hWj hx5r hxw
          go_wp2
          go_loopw [166, 24] (fun i v wr => i = .int .i64 0 ∧ v = .bool true ∧ Ext wp wr) (fun _ _ _ => 0)
          case atStart => exact ⟨rfl, rfl, Ext.refl _⟩
          case round =>
            obtain ⟨rfl, rfl, hxq⟩ := hrel
            obtain ⟨X2, Y2, D2, hXY, hg⟩ := Hgb.out (by trivial) HR.out.1 _ _ _ _ _ _ _ (HR.out.2.1.later hxq)
            have Hg := Lib.hid hg
            have kb := (HR.out.2.2.ext hxq).blk
            have o0 := kb.at_ 0 rfl
            have o1 := kb.at_ 1 rfl
            have hwq := (Hx0.out.trans H5.out).trans (HR.out.2.1.pown.ext.trans hxq)
            have p0 : ∀ w', Ext wr w' → _ := fun w' he => a0 w' ((H5.out.trans (HR.out.2.1.pown.ext.trans hxq)).trans he)
            have p1 : ∀ w', Ext wr w' → _ := fun w' he => a1 w' ((H5.out.trans (HR.out.2.1.pown.ext.trans hxq)).trans he)
            have p2 : ∀ w', Ext wr w' → _ := fun w' he => b0 w' ((H5.out.trans (HR.out.2.1.pown.ext.trans hxq)).trans he)
            have p3 : ∀ w', Ext wr w' → _ := fun w' he => b1 w' ((H5.out.trans (HR.out.2.1.pown.ext.trans hxq)).trans he)
            clear hg kb a0 a1 b0 b1
            rcases hXY with h9 | ⟨rfl, h9⟩
            all_goals
              go_wp2_with (go_at_call 35; refine Hg.out.mono ?_; rintro e wf ⟨rfl, hxf⟩)
              go_ret
              exact ⟨rfl, hwq.trans hxf⟩
  · have hn2 : ((nx : Int) != (nh : Int)) = true := by simp; omega
    clear hnx
    rcases hn1 with h1 | ⟨rfl, h1⟩
    all_goals
      go_enter Try.func11, Try.ntmps11
      go_wp2_with (first
        | (go_at_call 35; have hq := hb4; clear hq; refine (Hga.out _ (Hx0.out.trans hb4)).mono ?_; rintro e w5 ⟨rfl, hx5⟩; have hx45 := hx5; have hb5 := hb4.trans hx5; clear hb4 hx5)
        | (go_at_call 19; refine (Hcl.out _ (Hx0.out.trans hb3)).mono ?_; rintro e w4 ⟨X, x, rfl, hX, hx4⟩; have hb4 := hb3.trans hx4; have HX := Lib.hid hX; clear hb3 hx4 hX)
        | (go_at_call 30; refine (Hck.out _ (Hx0.out.trans hb2)).mono ?_; rintro e w3 ⟨rfl, hx3⟩; have hb3 := hb2.trans hx3; clear hb2 hx3)
        | (go_at_call 17; refine (Hgr.out _ (Hx0.out.trans hb1)).mono ?_; rintro e w2 ⟨rfl, hx2⟩; have hb2 := hb1.trans hx2; clear hb1 hx2)
        | (go_at_call 46; refine (alive_any _).mono ?_; rintro e w1 ⟨rfl, hx1⟩; have hb1 := hb0.trans hx1; clear hb0 hx1))
      go_ret
      exact ⟨rfl, Hx0.out.trans hb5⟩
end Go.Proofs.Yteilglljigjefaa
