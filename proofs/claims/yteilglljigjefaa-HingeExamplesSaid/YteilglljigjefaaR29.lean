/- The examples of the outright laws: a square, two squares with a hinge. -/
import Derived.Test.YteilglljigjefaaR28
import Derived.Test.YteilglljigjefaaR27
import Derived.Test.YteilglljigjefaaR26
namespace Go.Proofs.Yteilglljigjefaa
open Go.RowKit
def sqL : List Sp := [⟨0, 0⟩, ⟨4, 0⟩, ⟨4, 4⟩, ⟨0, 4⟩]
def twL : List (List Sp) := [sqL, sqL]
def twH (n : Int) : List Hg := [⟨⟨4, 0⟩, ⟨0, 0⟩, n⟩]
set_option maxRecDepth 100000 in
theorem square_any (w : World) :
    Calls Try.prog 49 #[] w fun e w' => ∃ g, e = .returned (.slice (some ⟨g, 0, none⟩) 4 4) ∧ OwnS w w' (.slice (some ⟨g, 0, none⟩) 4 4) sqL := by
  have hrow : OwnS w (w.alloc (.cells #[.int .i64 0, .int .i64 0, .int .i64 4, .int .i64 0, .int .i64 4, .int .i64 4, .int .i64 0, .int .i64 4] 27)) (.slice (some ⟨w.heap.size, 0, none⟩) 4 4) sqL := Own.lit (e := 27) (size := 2) (Ext.refl _) #[.int .i64 0, .int .i64 0, .int .i64 4, .int .i64 0, .int .i64 4, .int .i64 4, .int .i64 0, .int .i64 4] 4 (by unfold maxLen; omega) rfl
  have H := Lib.hid hrow
  clear hrow
  go_enter Try.func49, Try.ntmps49
  go_wp2
  go_ret
  exact ⟨_, rfl, H.out⟩
theorem twL_ok {n : Nat} (hn : n < 36) : linkP twL (twH n) := by
  refine ⟨by decide, rfl, by decide, fun h hh => ?_⟩
  simp only [twH, List.mem_singleton] at hh
  subst hh
  exact ⟨(by decide : spotB ⟨4, 0⟩), (by decide : spotB ⟨0, 0⟩), by show (0 : Int) ≤ n; omega, by show (n : Int) ≤ 35; omega⟩
set_option maxRecDepth 100000 in
set_option maxHeartbeats 4000000 in
theorem two_link (n : Int) (w : World) :
    Calls Try.prog 48 #[.int .i64 n] w fun e w' => ∃ A B, e = .returned (.agg #[.slice A 2 2, .slice B 1 1]) ∧ Lk w' A twL B (twH n) ∧ Ext w w' := by
  have hz : Whole (w.alloc (.cells #[.slice none 0 0, .slice none 0 0] 25)) w.heap.size #[.slice none 0 0, .slice none 0 0] 25 := Whole.new rfl
  have hx0 : Ext w (w.alloc (.cells #[.slice none 0 0, .slice none 0 0] 25)) := (Ext.refl _).alloc _
  have hQ0 := Pans.nil w (w.alloc (.cells #[.slice none 0 0, .slice none 0 0] 25))
  have Hz := Lib.hid hz
  have HQ0 := Lib.hid hQ0
  have Hx0 := Lib.hid hx0
  clear hz hx0 hQ0
  go_enter Try.func48, Try.ntmps48
  go_wp2_with (first
    | (go_at_call 49; refine (square_any (w.alloc (.cells #[.slice none 0 0, .slice none 0 0] 25))).mono ?_; rintro e w1 ⟨g1, rfl, ho1⟩; have hQ1 := (HQ0.out.later ho1.ext).snoc HQ0.out Hx0.out ho1; have hZ1 := Whole.ext Hz.out ho1.ext; have hx1 := Hx0.out.trans ho1.ext; clear ho1)
    | (go_at_call 49; refine (square_any w1).mono ?_; rintro e w2 ⟨g2, rfl, ho2⟩; have hQ2 := (hQ1.later ho2.ext).snoc hQ1 hx1 ho2; have hZ2 := hZ1.ext ho2.ext; have hx2 := hx1.trans ho2.ext; clear ho2 hQ1 hZ1 hx1; have hZ3 := (hZ2.ext ((Ext.refl w2).alloc (.cells #[.slice (some ⟨g1, 0, none⟩) 4 4, .slice (some ⟨g2, 0, none⟩) 4 4] 40))).blk; have z0 := hZ3.at_ 0 rfl; have z1 := hZ3.at_ 1 rfl; have zf := hZ3.free; clear hZ3; have HH := Lib.hid (And.intro hQ2 (And.intro hZ2 hx2)); clear hQ2 hZ2 hx2))
  obtain ⟨hQ2, hZ2, hx2⟩ := HH.out
  have hx34 : Ext w2 ((w2.alloc (.cells #[.slice (some ⟨g1, 0, none⟩) 4 4, .slice (some ⟨g2, 0, none⟩) 4 4] 40)).alloc (.cells #[.int .i64 4, .int .i64 0, .int .i64 0, .int .i64 0, .int .i64 n] 85)) := ((Ext.refl _).alloc _).alloc _
  have hQ4 := hQ2.later hx34
  have hZ4 := hZ2.ext hx34
  have hP4 : Own w ((w2.alloc (.cells #[.slice (some ⟨g1, 0, none⟩) 4 4, .slice (some ⟨g2, 0, none⟩) 4 4] 40)).alloc (.cells #[.int .i64 4, .int .i64 0, .int .i64 0, .int .i64 0, .int .i64 n] 85)) 40 1 (.slice (some ⟨w2.heap.size, 0, none⟩) 2 2) 2 [.slice (some ⟨g1, 0, none⟩) 4 4, .slice (some ⟨g2, 0, none⟩) 4 4] := (Own.lit (e := 40) (size := 1) hx2 #[.slice (some ⟨g1, 0, none⟩) 4 4, .slice (some ⟨g2, 0, none⟩) 4 4] 2 (by unfold maxLen; omega) rfl).alloc _
  have hH4 : Own w ((w2.alloc (.cells #[.slice (some ⟨g1, 0, none⟩) 4 4, .slice (some ⟨g2, 0, none⟩) 4 4] 40)).alloc (.cells #[.int .i64 4, .int .i64 0, .int .i64 0, .int .i64 0, .int .i64 n] 85)) 85 5 (.slice (some ⟨w2.heap.size + 1, 0, none⟩) 1 1) 1 ((twH n).map Hg.cells).flatten := by
    have h := Own.lit (e := 85) (size := 5) (hx2.alloc (.cells #[.slice (some ⟨g1, 0, none⟩) 4 4, .slice (some ⟨g2, 0, none⟩) 4 4] 40)) #[.int .i64 4, .int .i64 0, .int .i64 0, .int .i64 0, .int .i64 n] 1 (by unfold maxLen; omega) rfl
    have e : (w2.alloc (.cells #[.slice (some ⟨g1, 0, none⟩) 4 4, .slice (some ⟨g2, 0, none⟩) 4 4] 40)).heap.size = w2.heap.size + 1 := by simp
    rw [e] at h
    exact h
  have hge : w.heap.size ≤ w.heap.size := Nat.le_refl _
  have hP5 := (hP4.other (p := ⟨w.heap.size, 0, none⟩) hge (hP4.ne_whole hZ4 (by decide)) (.slice (some ⟨w2.heap.size, 0, none⟩) 2 2)).other (p := ⟨w.heap.size, 1, none⟩) hge (hP4.ne_whole hZ4 (by decide)) (.slice (some ⟨w2.heap.size + 1, 0, none⟩) 1 1)
  have hH5 := (hH4.other (p := ⟨w.heap.size, 0, none⟩) hge (hH4.ne_whole hZ4 (by decide)) (.slice (some ⟨w2.heap.size, 0, none⟩) 2 2)).other (p := ⟨w.heap.size, 1, none⟩) hge (hH4.ne_whole hZ4 (by decide)) (.slice (some ⟨w2.heap.size + 1, 0, none⟩) 1 1)
  have hQ5 := (hQ4.other (p := ⟨w.heap.size, 0, none⟩) hge (fun j hj => (hQ4.own j hj).ne_whole hZ4 (by decide)) (.slice (some ⟨w2.heap.size, 0, none⟩) 2 2)).other (p := ⟨w.heap.size, 1, none⟩) hge (fun j hj => (hQ4.own j hj).ne_whole hZ4 (by decide)) (.slice (some ⟨w2.heap.size + 1, 0, none⟩) 1 1)
  have hK5 := ((hZ4.setCell 0 (.slice (some ⟨w2.heap.size, 0, none⟩) 2 2)).setCell 1 (.slice (some ⟨w2.heap.size + 1, 0, none⟩) 1 1)).blk
  have hL : Lk ((((w2.alloc (.cells #[.slice (some ⟨g1, 0, none⟩) 4 4, .slice (some ⟨g2, 0, none⟩) 4 4] 40)).alloc (.cells #[.int .i64 4, .int .i64 0, .int .i64 0, .int .i64 0, .int .i64 n] 85)).setCell ⟨w.heap.size, 0, none⟩ (.slice (some ⟨w2.heap.size, 0, none⟩) 2 2)).setCell ⟨w.heap.size, 1, none⟩ (.slice (some ⟨w2.heap.size + 1, 0, none⟩) 1 1)) (some ⟨w2.heap.size, 0, none⟩) twL (some ⟨w2.heap.size + 1, 0, none⟩) (twH n) :=
    ⟨hQ5.row hP5, OwnH.row hH5, by decide, by simp [twH], fun k hk => by
      rcases (by simp [twL] at hk; omega : k = 0 ∨ k = 1) with rfl | rfl <;> decide⟩
  refine bodyPost_ret (results_link rfl _ _ rfl hK5) rfl ?_
  exact ⟨_, _, rfl, hL, hP5.ext⟩
end Go.Proofs.Yteilglljigjefaa

/- The examples of the outright laws, in numbers. -/
namespace Go.Proofs.Yteilglljigjefaa
set_option maxRecDepth 100000
set_option maxHeartbeats 4000000
theorem ex_trn : trn 9 = (3, 4, 5) := by decide
theorem ex_poses : posesL (twH 9) = [⟨1, 0, 0, 0, 1⟩, ⟨3, 4, 20, 0, 5⟩] := by decide
theorem ex_crn : (crnS (posF (twH 9) 1) (pnA twL 1)) = [⟨20, 0⟩, ⟨32, 16⟩, ⟨16, 28⟩, ⟨4, 12⟩] := by decide
theorem ex_d : (posF (twH 9) 1).d = 5 := by decide
theorem ex_clash9 : clashB (pcrn twL (twH 9) 0) (pcrn twL (twH 9) 1) = true := by decide
theorem ex_clash3 : clashB (pcrn twL (twH 3) 0) (pcrn twL (twH 3) 1) = false := by decide
theorem ex_gap : gapS (lastP (twH 2)) ⟨4, 0⟩ ⟨4, 4⟩ = ⟨0, 0⟩ ∧ (lastP (twH 2)).d = 1 := by decide
theorem ex_clo : clo ⟨4, 0⟩ ⟨4, 4⟩ (twH 9) pose0 = some [2] := by decide
end Go.Proofs.Yteilglljigjefaa

/- The code's Close: the walk. -/
namespace Go.Proofs.Yteilglljigjefaa
open Go.RowKit
set_option maxRecDepth 100000 in
set_option maxHeartbeats 16000000 in
theorem close_good (A : Option Addr) (c : Nat) (ps : List (List Sp)) (B : Option Addr) (d : Nat) (hs : List Hg) (a b : Sp) (w : World) (hL : Lk w A ps B hs) (h1 : linkP ps hs) (h2 : spotB a) (h3 : spotB b) (h4 : askE ps hs a b = 0) :
    Calls Try.prog 19 #[.agg #[.slice A ps.length c, .slice B hs.length d], a.val, b.val] w fun e w' => ∃ v, e = .returned (.tuple #[v, .int .i64 (cloE ps hs a b)]) ∧ OwnI w w' v (cloL ps hs a b) := by
  have hak := fun w' (he : Ext w w') => asked_any A c ps B d hs a b w' (hL.ext he)
  rw [h4] at hak
  have hn3 := h1.nh
  have hcl := fun (w0 w2 w5 : World) (gs : Nat) (hx0 : Ext w w0) (hxw : Ext w0 w2) (l1 : ∀ w', Ext w0 w' → w'.cell? ⟨w.heap.size, 1, none⟩ = some (.slice B hs.length d)) (a0 : ∀ w', Ext w0 w' → w'.cell? ⟨w.heap.size + 1, 0, none⟩ = some (vint a.x)) (a1 : ∀ w', Ext w0 w' → w'.cell? ⟨w.heap.size + 1, 1, none⟩ = some (vint a.y)) (b0 : ∀ w', Ext w0 w' → w'.cell? ⟨w.heap.size + 1 + 1, 0, none⟩ = some (vint b.x)) (b1 : ∀ w', Ext w0 w' → w'.cell? ⟨w.heap.size + 1 + 1, 1, none⟩ = some (vint b.y)) ho => clo_start (gl := w.heap.size) (ga := w.heap.size + 1) (gb := w.heap.size + 1 + 1) w0 w2 w5 gs hxw (hL.hB.ext (hx0.trans hxw)) (fun w' he => l1 w' (hxw.trans he)) (fun w' he => a0 w' (hxw.trans he)) (fun w' he => a1 w' (hxw.trans he)) (fun w' he => b0 w' (hxw.trans he)) (fun w' he => b1 w' (hxw.trans he)) h2 h3 h1.hinges hn3 ho
  have hres : ∀ (w' : World) (gs : Nat) (xs : List Int), (clo a b hs pose0).isSome = true → (∀ r, clo a b hs pose0 = some r → xs = r.map fun (m : Nat) => (m : Int)) → Own w w' 3 1 (.slice (some ⟨gs, 0, none⟩) hs.length hs.length) hs.length (xs.map vint) → ∃ v, Ending.returned (.tuple #[.slice (some ⟨gs, 0, none⟩) hs.length hs.length, .int .i64 0]) = .returned (.tuple #[v, .int .i64 (cloE ps hs a b)]) ∧ OwnI w w' v (cloL ps hs a b) := fun w' gs xs hs1 hr ho => by
    refine ⟨_, by rw [cloE, if_pos h4, if_pos hs1], ?_⟩
    obtain ⟨r, er⟩ := Option.isSome_iff_exists.1 hs1
    have e1 := hr r er
    have e2 : cloL ps hs a b = xs := by rw [cloL, if_pos h4, er, e1]; rfl
    have e3 : xs.length = hs.length := by rw [e1, List.length_map]; exact clo_len er
    show Own w w' _ 1 _ (cloL ps hs a b).length _
    rw [e2, e3]
    exact ho
  have hbad : ∀ (w' : World), (clo a b hs pose0).isSome = false → Ext w w' → ∃ v, Ending.returned (.tuple #[.slice none 0 0, .int .i64 52]) = .returned (.tuple #[v, .int .i64 (cloE ps hs a b)]) ∧ OwnI w w' v (cloL ps hs a b) := fun w' hs1 hx => by
    have e1 : cloE ps hs a b = 52 := by rw [cloE, if_pos h4, hs1]; rfl
    have e2 : cloL ps hs a b = [] := by
      rw [cloL, if_pos h4]
      cases e : clo a b hs pose0 with
      | none => rfl
      | some r => rw [e] at hs1; cases hs1
    rw [e1, e2]
    exact ⟨_, rfl, Own.nil' hx _ _⟩
  have Hak := Lib.hid hak
  have Hcl := Lib.hid hcl
  have Hres := Lib.hid hres
  have Hbad := Lib.hid hbad
  clear hak hcl hres hbad hL h1 h2 h3 h4
  generalize (clo a b hs pose0) = O at *
  obtain ⟨os, hos⟩ : ∃ os, os = O.isSome := ⟨_, rfl⟩
  rw [← hos] at Hcl Hres Hbad
  clear hos
  generalize cloE ps hs a b = CE at *
  generalize cloL ps hs a b = CL at *
  generalize ps.length = np at *
  generalize hs.length = nh at *
  obtain ⟨ax, ay⟩ := a
  obtain ⟨bx, bY⟩ := b
  have kl : Blk (((w.alloc (.cells #[.slice A np c, .slice B nh d] 25)).alloc (.cells #[vint ax, vint ay] 27)).alloc (.cells #[vint bx, vint bY] 27)) w.heap.size [.slice A np c, .slice B nh d] := (Blk.new _ _).ext (((Ext.refl _).alloc _).alloc _)
  have ka : Blk (((w.alloc (.cells #[.slice A np c, .slice B nh d] 25)).alloc (.cells #[vint ax, vint ay] 27)).alloc (.cells #[vint bx, vint bY] 27)) (w.heap.size + 1) [vint ax, vint ay] := (Blk.new' (cs := #[vint ax, vint ay]) (by simp)).ext ((Ext.refl _).alloc _)
  have kb : Blk (((w.alloc (.cells #[.slice A np c, .slice B nh d] 25)).alloc (.cells #[vint ax, vint ay] 27)).alloc (.cells #[vint bx, vint bY] 27)) (w.heap.size + 1 + 1) [vint bx, vint bY] := Blk.new' (cs := #[vint bx, vint bY]) (by simp)
  have l0 := kl.at_ 0 rfl
  have l1 := kl.at_ 1 rfl
  have a0 := ka.at_ 0 rfl
  have a1 := ka.at_ 1 rfl
  have b0 := kb.at_ 0 rfl
  have b1 := kb.at_ 1 rfl
  have hx0 : Ext w (((w.alloc (.cells #[.slice A np c, .slice B nh d] 25)).alloc (.cells #[vint ax, vint ay] 27)).alloc (.cells #[vint bx, vint bY] 27)) := (((Ext.refl _).alloc _).alloc _).alloc _
  have Hx0 := Lib.hid hx0
  clear kl ka kb hx0
  have hmf : ∀ (fn : Fn) (first cap : Array Value) (w : World), (Instr.makeFunc fn first cap).run Try.prog w = .ok (.func fn first cap) w := fun _ _ _ _ => rfl
  have hsf : ∀ (a : Addr) (f : Fn) (x y : Array Value) (w : World), (store a (.func f x y)).run Try.prog w = stored Try.prog w a (.func f x y) .plain := fun a f x y w => run_store Try.prog w a _ .plain rfl
  go_enter Try.func19, Try.ntmps19
  cases os
  all_goals
    go_wp2_with (first
      | (go_at_call 51; refine (Hak.out _ Hx0.out).mono ?_; rintro e w1 ⟨rfl, hx1⟩; have hxx := Hx0.out.trans hx1; replace l1 : ∀ w', Ext w1 w' → _ := fun w' he => l1 w' (hx1.trans he); replace a0 : ∀ w', Ext w1 w' → _ := fun w' he => a0 w' (hx1.trans he); replace a1 : ∀ w', Ext w1 w' → _ := fun w' he => a1 w' (hx1.trans he); replace b0 : ∀ w', Ext w1 w' → _ := fun w' he => b0 w' (hx1.trans he); replace b1 : ∀ w', Ext w1 w' → _ := fun w' he => b1 w' (hx1.trans he))
      | (go_at_call 52; refine (table_any _).mono ?_; rintro e w2 ⟨rfl, hx2⟩; have hcl2 := fun w5 gs => Hcl.out w1 w2 w5 gs hxx hx2 l1 a0 a1 b0 b1; have Hcl2 := Lib.hid hcl2; have l2 : ∀ w', Ext (w2.alloc (.cells (turns.flatMap tcells).toArray 99)) w' → _ := fun w' he => l1 w' ((hx2.alloc _).trans he); clear hcl2 l1 a0 a1 b0 b1)
      | (refine wpList_store_row rfl 99 (.tmp 9) (.tmp 19) rfl w2.heap.size (turns.flatMap tcells).toArray rfl rfl 99 Try.zeroCells99 (Go.heap_alloc_new _ _) (by kernel_rfl) (by kernel_rfl) (by kernel_rfl) ?_; rw [World.setRow_alloc_new])
      | (refine own_make (w1 := (w2.alloc (.cells (turns.flatMap tcells).toArray 99))) int_elem rfl _ _ rfl Try.underlying30 _ nh rfl rfl (by omega) (by unfold maxLen; omega) (Ext.refl _) ?_; intro w5 ho5 hx5; generalize (w2.alloc (.cells (turns.flatMap tcells).toArray 99)).heap.size = gs at ho5 ⊢; have hcl5 := Hcl2.out w5 gs ho5; have Hcl5 := Lib.hid hcl5; have Ho5 := Lib.hid ho5; clear hcl5 ho5)
      | (go_at_call 53; refine Hcl5.out.mono ?_; rintro e w6 ⟨xs, rfl, hc6, ho6, hr6⟩))
    go_ret2
  · exact Hbad.out _ (by simp) (hxx.trans ho6.ext)
  · exact Hres.out _ gs xs (by simp) hr6 (ho6.since hxx)
set_option maxRecDepth 100000 in
set_option maxHeartbeats 8000000 in
theorem close_bad (A : Option Addr) (c : Nat) (ps : List (List Sp)) (B : Option Addr) (d : Nat) (hs : List Hg) (a b : Sp) (w : World) (hL : Lk w A ps B hs) (h4 : askE ps hs a b = 2 ∨ askE ps hs a b = 50) :
    Calls Try.prog 19 #[.agg #[.slice A ps.length c, .slice B hs.length d], a.val, b.val] w fun e w' => ∃ v, e = .returned (.tuple #[v, .int .i64 (cloE ps hs a b)]) ∧ OwnI w w' v (cloL ps hs a b) := by
  have hak := fun w' (he : Ext w w') => asked_any A c ps B d hs a b w' (hL.ext he)
  have h5 : ¬ askE ps hs a b = 0 := by omega
  have h6 : cloE ps hs a b = askE ps hs a b := by rw [cloE, if_neg h5]
  have h7 : cloL ps hs a b = [] := by rw [cloL, if_neg h5]
  rw [h6, h7]
  have Hak := Lib.hid hak
  clear hak hL h6 h7 h5
  generalize ps.length = np at *
  generalize hs.length = nh at *
  rcases h4 with h | h
  all_goals
    rw [h] at Hak ⊢
    clear h
    obtain ⟨ax, ay⟩ := a
    obtain ⟨bx, bY⟩ := b
    have kl : Blk (((w.alloc (.cells #[.slice A np c, .slice B nh d] 25)).alloc (.cells #[vint ax, vint ay] 27)).alloc (.cells #[vint bx, vint bY] 27)) w.heap.size [.slice A np c, .slice B nh d] := (Blk.new _ _).ext (((Ext.refl _).alloc _).alloc _)
    have ka : Blk (((w.alloc (.cells #[.slice A np c, .slice B nh d] 25)).alloc (.cells #[vint ax, vint ay] 27)).alloc (.cells #[vint bx, vint bY] 27)) (w.heap.size + 1) [vint ax, vint ay] := (Blk.new' (cs := #[vint ax, vint ay]) (by simp)).ext ((Ext.refl _).alloc _)
    have kb : Blk (((w.alloc (.cells #[.slice A np c, .slice B nh d] 25)).alloc (.cells #[vint ax, vint ay] 27)).alloc (.cells #[vint bx, vint bY] 27)) (w.heap.size + 1 + 1) [vint bx, vint bY] := Blk.new' (cs := #[vint bx, vint bY]) (by simp)
    have l0 := kl.at_ 0 rfl
    have l1 := kl.at_ 1 rfl
    have a0 := ka.at_ 0 rfl
    have a1 := ka.at_ 1 rfl
    have b0 := kb.at_ 0 rfl
    have b1 := kb.at_ 1 rfl
    have hx0 : Ext w (((w.alloc (.cells #[.slice A np c, .slice B nh d] 25)).alloc (.cells #[vint ax, vint ay] 27)).alloc (.cells #[vint bx, vint bY] 27)) := (((Ext.refl _).alloc _).alloc _).alloc _
    have Hx0 := Lib.hid hx0
    clear kl ka kb hx0
    go_enter Try.func19, Try.ntmps19
    go_wp2_with (go_at_call 51; refine (Hak.out _ Hx0.out).mono ?_; rintro e w1 ⟨rfl, hx1⟩; have hxx := Hx0.out.trans hx1)
    go_ret2
    exact ⟨_, rfl, Own.nil' hxx _ _⟩
theorem close_any (A : Option Addr) (c : Nat) (ps : List (List Sp)) (B : Option Addr) (d : Nat) (hs : List Hg) (a b : Sp) (w : World) (hL : Lk w A ps B hs) :
    Calls Try.prog 19 #[.agg #[.slice A ps.length c, .slice B hs.length d], a.val, b.val] w fun e w' => ∃ v, e = .returned (.tuple #[v, .int .i64 (cloE ps hs a b)]) ∧ OwnI w w' v (cloL ps hs a b) := by
  rcases ask_cases ps hs a b with ⟨h1, h2, h3, h4⟩ | ⟨h4, _⟩
  · exact close_good A c ps B d hs a b w hL h1 h2 h3 h4
  · exact close_bad A c ps B d hs a b w hL h4
end Go.Proofs.Yteilglljigjefaa

/- The examples of the outright laws: what the code answers. -/
namespace Go.Proofs.Yteilglljigjefaa
open Go.RowKit
theorem link9 : linkP twL (twH (9 : Nat)) := twL_ok (by decide)
theorem ex_angle (w : World) : Calls Try.prog 23 #[.int .i64 9] w fun e w' => e = .returned (.tuple #[.int .i64 3, .int .i64 4, .int .i64 5, .int .i64 0]) ∧ Ext w w' := angle_any 9 w
theorem ex_posesC (A B : Option Addr) (w : World) (hL : Lk w A twL B (twH 9)) :
    Calls Try.prog 27 #[.agg #[.slice A 2 2, .slice B 1 1]] w fun e w' => ∃ X x, e = .returned (.tuple #[.slice X 2 x, .int .i64 0]) ∧ PRow w' X [⟨1, 0, 0, 0, 1⟩, ⟨3, 4, 20, 0, 5⟩] ∧ Ext w w' := by
  have hl : linkB twL (twH 9) = true := decide_eq_true link9
  refine (poses_all A 2 twL B 1 (twH 9) w hL).mono fun e w' ⟨v, he, ho⟩ => ?_
  unfold posesR at ho
  rw [if_pos hl, ex_poses] at ho
  unfold checkE at he
  rw [if_pos hl] at he
  obtain ⟨X, x, rfl⟩ := ho.form
  exact ⟨X, x, he, ho.row, ho.ext⟩
theorem link_n {n : Nat} (hn : n < 36) : linkB twL (twH n) = true := decide_eq_true (twL_ok hn)
theorem ex_cornC (A B : Option Addr) (w : World) (hL : Lk w A twL B (twH 9)) :
    Calls Try.prog 32 #[.agg #[.slice A 2 2, .slice B 1 1], .int .i64 1] w fun e w' => ∃ X x, e = .returned (.tuple #[.slice X 4 x, .int .i64 5, .int .i64 0]) ∧ SRow w' X [⟨20, 0⟩, ⟨32, 16⟩, ⟨16, 28⟩, ⟨4, 12⟩] ∧ Ext w w' := by
  refine (corners_all A 2 twL B 1 (twH 9) 1 w hL).mono fun e w' ⟨v, he, ho⟩ => ?_
  have h : linkP twL (twH 9) ∧ inP twL 1 := ⟨link9, by decide⟩
  have e1 : cornL twL (twH 9) 1 = [⟨20, 0⟩, ⟨32, 16⟩, ⟨16, 28⟩, ⟨4, 12⟩] := by rw [cornL, if_pos h]; exact ex_crn
  have e2 : cornD twL (twH 9) 1 = 5 := by rw [cornD, if_pos h]; exact ex_d
  have e3 : cornE twL (twH 9) 1 = 0 := by rw [cornE, if_pos h.1, if_pos h.2]
  rw [e1] at ho
  rw [e2, e3] at he
  obtain ⟨X, x, rfl⟩ := ho.form
  exact ⟨X, x, he, ho.row, ho.ext⟩
/-- A proof of the example's, accepted ever after. -/
def TellsOk (n : Nat) (w : World) (v : Value) : Prop := ∀ w' A B, Ext w w' → Lk w' A twL B (twH n) → Calls Try.prog 44 #[.agg #[.slice A 2 2, .slice B 1 1], .int .i64 0, .int .i64 1, v] w' fun e w'' => e = .returned (.int .i64 0) ∧ Ext w' w''
theorem ex_clashC {n : Nat} (hn : n < 36) {b : Bool} (hb : clashB (pcrn twL (twH n) 0) (pcrn twL (twH n) 1) = b) (A B : Option Addr) (w : World) (hL : Lk w A twL B (twH n)) :
    Calls Try.prog 42 #[.agg #[.slice A 2 2, .slice B 1 1], .int .i64 0, .int .i64 1] w fun e w' => ∃ (v0 : Bool) (v1 v2 v3 v4 : Int) (v5 : Option Addr) (v6 v7 : Nat), e = .returned (.tuple #[.agg #[.bool v0, .int .i64 v1, .int .i64 v2, .int .i64 v3, .int .i64 v4, .slice v5 v6 v7], .int .i64 (if b = true then 51 else 0)]) ∧ TellsOk n w' (.agg #[.bool v0, .int .i64 v1, .int .i64 v2, .int .i64 v3, .int .i64 v4, .slice v5 v6 v7]) ∧ Ext w w' := by
  refine (clash_good A 2 twL B 1 (twH n) 0 1 w hL (twL_ok hn) (by decide) (by decide) (by decide)).mono fun e w' ⟨r, I, ic, he, hr, hx, hp⟩ => ?_
  rw [hb] at he
  refine ⟨_, _, _, _, _, _, _, _, he, fun w2 A2 B2 hx2 hL2 => ?_, hx⟩
  refine (checkapart_any A2 2 twL B2 1 (twH n) (0 : Nat) (1 : Nat) r I ic w2 hL2 (hr.ext hx2)).mono fun e w3 ⟨he, hx3⟩ => ⟨?_, hx3⟩
  have h0 : twoE twL (twH n) ((0 : Nat) : Int) ((1 : Nat) : Int) = 0 := by
    rcases two_cases twL (twH n) ((0 : Nat) : Int) ((1 : Nat) : Int) with ⟨_, _, h⟩ | ⟨_, h⟩
    · exact h
    · exact absurd ⟨twL_ok hn, by decide⟩ h
  rw [apartE_nat h0, rightB, decide_eq_true hp, if_pos rfl] at he
  exact he
theorem ex_gapC (A B : Option Addr) (w : World) (hL : Lk w A twL B (twH 2)) :
    Calls Try.prog 35 #[.agg #[.slice A 2 2, .slice B 1 1], .agg #[.int .i64 4, .int .i64 0], .agg #[.int .i64 4, .int .i64 4]] w fun e w' => e = .returned (.tuple #[.int .i64 0, .int .i64 0, .int .i64 1, .int .i64 0]) ∧ Ext w w' := by
  have ha : askE twL (twH 2) ⟨4, 0⟩ ⟨4, 4⟩ = 0 := ask_good (twL_ok (n := 2) (by decide)) (by decide)
  have e1 : gapE twL (twH 2) ⟨4, 0⟩ ⟨4, 4⟩ = .tuple #[.int .i64 0, .int .i64 0, .int .i64 1, .int .i64 0] := by rw [gapE, if_pos ha, ex_gap.1, ex_gap.2]
  have h := gap_all A 2 twL B 1 (twH 2) ⟨4, 0⟩ ⟨4, 4⟩ w hL
  rw [e1] at h
  exact h
theorem ex_closeC (A B : Option Addr) (w : World) (hL : Lk w A twL B (twH 9)) :
    Calls Try.prog 19 #[.agg #[.slice A 2 2, .slice B 1 1], .agg #[.int .i64 4, .int .i64 0], .agg #[.int .i64 4, .int .i64 4]] w fun e w' => ∃ X x, e = .returned (.tuple #[.slice X 1 x, .int .i64 0]) ∧ Ints w' X [2] ∧ Ext w w' := by
  have ha : askE twL (twH 9) ⟨4, 0⟩ ⟨4, 4⟩ = 0 := ask_good link9 (by decide)
  refine (close_any A 2 twL B 1 (twH 9) ⟨4, 0⟩ ⟨4, 4⟩ w hL).mono fun e w' ⟨v, he, ho⟩ => ?_
  have e1 : cloE twL (twH 9) ⟨4, 0⟩ ⟨4, 4⟩ = 0 := by rw [cloE, if_pos ha, ex_clo]; rfl
  have e2 : cloL twL (twH 9) ⟨4, 0⟩ ⟨4, 4⟩ = [2] := by rw [cloL, if_pos ha, ex_clo]; rfl
  rw [e1] at he
  rw [e2] at ho
  obtain ⟨X, x, rfl⟩ := ho.form
  exact ⟨X, x, he, ho.ints, ho.ext⟩
end Go.Proofs.Yteilglljigjefaa
