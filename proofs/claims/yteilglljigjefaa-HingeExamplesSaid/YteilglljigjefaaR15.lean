/- Linkages that are not great; that are the same; in new memory. -/
import Derived.Test.YteilglljigjefaaR14
import Derived.Lib.AppendZeros
namespace Go.Proofs.Yteilglljigjefaa
open Go.RowKit
def greatP (ps : List (List Sp)) (hs : List Hg) : Prop := 10 < ps.length ∨ 10 < hs.length ∨ ∃ k, k < ps.length ∧ 20 < (pnA ps k).length
noncomputable def greatB (ps : List (List Sp)) (hs : List Hg) : Bool := @decide (greatP ps hs) (Classical.propDecidable _)
theorem greatB_yes {ps : List (List Sp)} {hs : List Hg} (h : greatP ps hs) : true = greatB ps hs := by simp [greatB, h]
theorem greatB_no {ps : List (List Sp)} {hs : List Hg} (h : ¬ greatP ps hs) : false = greatB ps hs := by simp [greatB, h]
theorem greatB_iff {ps : List (List Sp)} {hs : List Hg} : greatB ps hs = true ↔ greatP ps hs := by simp [greatB]
set_option maxRecDepth 100000 in
set_option maxHeartbeats 4000000 in
theorem great_any (A : Option Addr) (c : Nat) (ps : List (List Sp)) (B : Option Addr) (d : Nat) (hs : List Hg) (w : World) (hA : PnRow w A ps) :
    Calls Try.prog 17 #[.agg #[.slice A ps.length c, .slice B hs.length d]] w fun e w' => e = .returned (.bool (greatB ps hs)) ∧ Ext w w' := by
  have yes1 : 10 < ps.length → true = greatB ps hs := fun h => greatB_yes (.inl h)
  have yes2 : 10 < hs.length → true = greatB ps hs := fun h => greatB_yes (.inr (.inl h))
  have yes3 : ∀ k, k < ps.length → 20 < (pnA ps k).length → true = greatB ps hs := fun k hk h => greatB_yes (.inr (.inr ⟨k, hk, h⟩))
  have no : ¬ 10 < ps.length → ¬ 10 < hs.length → (∀ k, k < ps.length → (pnA ps k).length ≤ 20) → false = greatB ps hs := fun h1 h2 h3 => greatB_no fun h => by
    rcases h with h | h | ⟨k, hk, h⟩
    · exact h1 h
    · exact h2 h
    · have := h3 k hk; omega
  have hpa := fun k (hk : k < ps.length) => hA.at_ hk
  have Yes1 := Lib.hid yes1
  have Yes2 := Lib.hid yes2
  have Yes3 := Lib.hid yes3
  have No := Lib.hid no
  have Hpa := Lib.hid hpa
  clear yes1 yes2 yes3 no hpa hA
  generalize greatB ps hs = E at *
  generalize ps.length = np at *
  generalize hs.length = nh at *
  have kb : Blk (w.alloc (.cells #[.slice A np c, .slice B nh d] 25)) w.heap.size [.slice A np c, .slice B nh d] := Blk.new _ _
  have b0 := kb.at_ 0 rfl
  have b1 := kb.at_ 1 rfl
  have hx0 : Ext w (w.alloc (.cells #[.slice A np c, .slice B nh d] 25)) := (Ext.refl _).alloc _
  have B0 := Lib.hid b0
  have Hx0 := Lib.hid hx0
  clear kb hx0
  by_cases h1 : 10 < np
  · have hy := Yes1.out h1
    have Hy := Lib.hid hy
    have d1 : decide ((10 : Int) < (np : Int)) = true := by simp; omega
    clear hy
    go_enter Try.func17, Try.ntmps17
    go_wp2
    go_ret
    exact ⟨ret_b Hy.out, Hx0.out⟩
  · have d1 : decide ((10 : Int) < (np : Int)) = false := by simp; omega
    by_cases h2 : 10 < nh
    · have hy := Yes2.out h2
      have Hy := Lib.hid hy
      have d2 : decide ((10 : Int) < (nh : Int)) = true := by simp; omega
      clear hy
      go_enter Try.func17, Try.ntmps17
      go_wp2
      go_ret
      exact ⟨ret_b Hy.out, Hx0.out⟩
    · have hn := No.out h1 h2
      have Hn := Lib.hid hn
      have d2 : decide ((10 : Int) < (nh : Int)) = false := by simp; omega
      clear hn No Yes1 Yes2
      go_enter Try.func17, Try.ntmps17
      go_wp2
      generalize (w.alloc (.cells #[.slice A np c, .slice B nh d] 25)) = w0 at B0 Hx0 b0 b1 ⊢
      clear b0 b1
      go_loopw [3] (fun i wr => ∃ k : Nat, k ≤ np ∧ i = .int .i64 k ∧ Ext w0 wr ∧ ∀ j, j < k → (pnA ps j).length ≤ 20) (fun i _ => np - (intOf i).toNat)
      case atStart => exact ⟨0, by omega, rfl, Ext.refl _, fun i h => absurd h (by omega)⟩
      case round =>
        obtain ⟨k, hk, rfl, hex, hall⟩ := hrel
        have Hall := Lib.hid hall
        clear hall
        have p0 : ∀ w', Ext wr w' → _ := fun w' he => B0.out w' (hex.trans he)
        by_cases hlt : k < np
        · obtain ⟨ad, B', c', rfl, r0, _⟩ := Hpa.out k hlt
          have hxr := Hx0.out.trans hex
          have q0 : ∀ w', Ext wr w' → _ := fun w' he => r0 w' (hxr.trans he)
          have hy := Yes3.out k hlt
          have hnx : (pnA ps k).length ≤ 20 → ∀ j, j < k + 1 → (pnA ps j).length ≤ 20 := fun h j hj => by
            by_cases e : j = k
            · subst e; exact h
            · exact Hall.out j (by omega)
          have Hy := Lib.hid hy
          have Hnx := Lib.hid hnx
          clear r0 hy hnx Hpa Yes3
          generalize (pnA ps k).length = m at *
          by_cases hm : 20 < m
          · have hy := Hy.out hm
            have Hy' := Lib.hid hy
            have d4 : decide ((20 : Int) < (m : Int)) = true := by simp; omega
            clear hy Hnx Hy
            go_wp2
            go_ret
            exact ⟨ret_b Hy'.out, hxr⟩
          · have hy := Hnx.out (by omega)
            have Hy' := Lib.hid hy
            have d4 : decide ((20 : Int) < (m : Int)) = false := by simp; omega
            clear hy Hnx Hy
            go_wp2
            go_roundw
            case rel => exact ⟨k + 1, by omega, by go_num, hex, Hy'.out⟩
            case measure => simp [intOf]; omega
        · obtain rfl : np = k := by omega
          go_wp2
          go_ret
          exact ⟨ret_b (Hn.out Hall.out), Hx0.out.trans hex⟩
/-- What is not great, in memory. -/
theorem lk_of {w : World} {A : Option Addr} {ps : List (List Sp)} {B : Option Addr} {hs : List Hg} (hA : PnRow w A ps) (hB : HRow w B hs) (h : ¬ greatP ps hs) : Lk w A ps B hs := by
  unfold greatP at h
  refine ⟨hA, hB, by omega, by omega, fun k hk => ?_⟩
  have : ¬ 20 < (pnA ps k).length := fun h' => h (.inr (.inr ⟨k, hk, h'⟩))
  omega
theorem neq_Hg (a0 a1 a2 a3 a4 : Int) (w : World) : (binOp .neq 85 (.agg #[.int .i64 a0, .int .i64 a1, .int .i64 a2, .int .i64 a3, .int .i64 a4]) (.agg #[.int .i64 a0, .int .i64 a1, .int .i64 a2, .int .i64 a3, .int .i64 a4])).run Try.prog w = .ok (.bool false) w := by
  simp [go_sem]
set_option maxRecDepth 100000 in
set_option maxHeartbeats 4000000 in
theorem same_link (A A2 : Option Addr) (c c2 : Nat) (ps : List (List Sp)) (B B2 : Option Addr) (d d2 : Nat) (hs : List Hg) (w : World) (h1 : Lk w A ps B hs) (h2 : Lk w A2 ps B2 hs) :
    Calls Try.prog 22 #[.agg #[.slice A ps.length c, .slice B hs.length d], .agg #[.slice A2 ps.length c2, .slice B2 hs.length d2]] w fun e w' => e = .returned (.bool true) ∧ Ext w w' := by
  have hpa := fun k (hk : k < ps.length) => h1.hA.at_ hk
  have hpb := fun k (hk : k < ps.length) => h2.hA.at_ hk
  have hha := fun k (hk : k < hs.length) => h1.hB.at_ hk
  have hhb := fun k (hk : k < hs.length) => h2.hB.at_ hk
  have hsp := fun (k : Nat) (hk : k < ps.length) (X Y : Option Addr) (c d : Nat) (w' : World) (hX : SRow w' X (pnA ps k)) (hY : SRow w' Y (pnA ps k)) => same_spots X Y c d (pnA ps k) w' hX hY (by have := h1.hp k hk; omega)
  have np0 := h1.np
  have nh0 := h1.nh
  have Hpa := Lib.hid hpa
  have Hpb := Lib.hid hpb
  have Hha := Lib.hid hha
  have Hhb := Lib.hid hhb
  have Hsp := Lib.hid hsp
  clear hpa hpb hha hhb hsp h1 h2
  generalize ps.length = np at *
  generalize hs.length = nh at *
  have kl : Blk ((w.alloc (.cells #[.slice A np c, .slice B nh d] 25)).alloc (.cells #[.slice A2 np c2, .slice B2 nh d2] 25)) w.heap.size [.slice A np c, .slice B nh d] := (Blk.new _ _).ext ((Ext.refl _).alloc _)
  have kk : Blk ((w.alloc (.cells #[.slice A np c, .slice B nh d] 25)).alloc (.cells #[.slice A2 np c2, .slice B2 nh d2] 25)) (w.heap.size + 1) [.slice A2 np c2, .slice B2 nh d2] := Blk.new' (cs := #[.slice A2 np c2, .slice B2 nh d2]) (by simp)
  have a0 := kl.at_ 0 rfl
  have a1 := kl.at_ 1 rfl
  have b0 := kk.at_ 0 rfl
  have b1 := kk.at_ 1 rfl
  have hx0 : Ext w ((w.alloc (.cells #[.slice A np c, .slice B nh d] 25)).alloc (.cells #[.slice A2 np c2, .slice B2 nh d2] 25)) := ((Ext.refl _).alloc _).alloc _
  have A0 := Lib.hid a0
  have A1 := Lib.hid a1
  have B0 := Lib.hid b0
  have B1 := Lib.hid b1
  have Hx0 := Lib.hid hx0
  clear kl kk hx0
  go_enter Try.func22, Try.ntmps22
  go_wp2
  generalize ((w.alloc (.cells #[.slice A np c, .slice B nh d] 25)).alloc (.cells #[.slice A2 np c2, .slice B2 nh d2] 25)) = w0 at *
  clear a0 a1 b0 b1
  go_loopw [5] (fun i wr => ∃ k : Nat, k ≤ np ∧ i = .int .i64 k ∧ Ext w0 wr) (fun i _ => np - (intOf i).toNat)
  case atStart => exact ⟨0, by omega, rfl, Ext.refl _⟩
  case round =>
    obtain ⟨k, hk, rfl, hex⟩ := hrel
    have p0 : ∀ w', Ext wr w' → _ := fun w' he => A0.out w' (hex.trans he)
    have p1 : ∀ w', Ext wr w' → _ := fun w' he => B0.out w' (hex.trans he)
    by_cases hlt : k < np
    · obtain ⟨ad, X, cx, rfl, x0, hX⟩ := Hpa.out k hlt
      obtain ⟨bd, Y, cy, rfl, y0, hY⟩ := Hpb.out k hlt
      have hxr := Hx0.out.trans hex
      have u0 : ∀ w', Ext wr w' → _ := fun w' he => x0 w' (hxr.trans he)
      have v0 : ∀ w', Ext wr w' → _ := fun w' he => y0 w' (hxr.trans he)
      have hc := fun (w' : World) (he : Ext wr w') => Hsp.out k hlt X Y cx cy w' (hX.ext (hxr.trans he)) (hY.ext (hxr.trans he))
      have Hc := Lib.hid hc
      have hkn : (k : Int) < (np : Int) := by omega
      clear x0 y0 hX hY hc Hpa Hpb Hha Hhb Hsp
      generalize (pnA ps k).length = m at *
      go_wp2
      refine wp_region_calm 12 (fun j _ v _ => j = 10 → v = .bool true) (fun _ _ _ _ _ _ h => h) (by kernel_rfl) (by kernel_rfl) ?_
      simp only [List.take_succ_cons, List.take_zero, List.drop_succ_cons, List.drop_zero]
      refine calm_quiet calm_mono_final 10 (by kernel_rfl) ?_
      simp only [List.take_succ_cons, List.take_zero, List.drop_succ_cons, List.drop_zero]
      repeat (go_big_quiet_step (fail))
      refine wpQuiet_nil ?_
      refine calm_call calm_mono_final 34 #[.slice X m cx, .slice Y m cy] rfl (fun w => ?_) (fun w he hF => ?_) ?_
      · go_simp
      · exact (Hc.out w he).mono fun e w'' ⟨he', hx⟩ => ⟨_, he', hx, fun _ => rfl⟩
      rintro _ _ _ h
      cases h rfl
      simp only [Act.put, List.setIfInBounds_toArray, List.set_cons_succ, List.set_cons_zero]
      refine calm_quiet calm_mono_final 1 (by kernel_rfl) ?_
      simp only [List.take_succ_cons, List.take_zero, List.drop_succ_cons, List.drop_zero]
      repeat (go_big_quiet_step (fail))
      refine wpQuiet_nil ?_
      refine calm_nil fun w3 he3 _ => ?_
      go_wp2
      go_roundw
      case rel => exact ⟨k + 1, by omega, by go_num, hex.trans he3⟩
      case measure => simp [intOf]; omega
    · obtain rfl : np = k := by omega
      clear Hpa Hpb Hsp
      go_wp2
      clear p0 p1
      obtain ⟨wo, rfl⟩ : ∃ wo : World, wo = wr := ⟨_, rfl⟩
      go_loopw [6] (fun i wr => ∃ k : Nat, k ≤ nh ∧ i = .int .i64 k ∧ Ext w0 wr) (fun i _ => nh - (intOf i).toNat)
      case atStart => exact ⟨0, by omega, rfl, hex⟩
      case round =>
        obtain ⟨k, hk, rfl, hex⟩ := hrel
        have p0 : ∀ w', Ext wr w' → _ := fun w' he => A1.out w' (hex.trans he)
        have p1 : ∀ w', Ext wr w' → _ := fun w' he => B1.out w' (hex.trans he)
        by_cases hlt : k < nh
        · obtain ⟨ad, rfl, x0, x1, x2, x3, x4⟩ := Hha.out k hlt
          obtain ⟨bd, rfl, y0, y1, y2, y3, y4⟩ := Hhb.out k hlt
          have hxr := Hx0.out.trans hex
          have u0 : ∀ w', Ext wr w' → _ := fun w' he => x0 w' (hxr.trans he)
          have v0 : ∀ w', Ext wr w' → _ := fun w' he => y0 w' (hxr.trans he)
          have u1 : ∀ w', Ext wr w' → _ := fun w' he => x1 w' (hxr.trans he)
          have v1 : ∀ w', Ext wr w' → _ := fun w' he => y1 w' (hxr.trans he)
          have u2 : ∀ w', Ext wr w' → _ := fun w' he => x2 w' (hxr.trans he)
          have v2 : ∀ w', Ext wr w' → _ := fun w' he => y2 w' (hxr.trans he)
          have u3 : ∀ w', Ext wr w' → _ := fun w' he => x3 w' (hxr.trans he)
          have v3 : ∀ w', Ext wr w' → _ := fun w' he => y3 w' (hxr.trans he)
          have u4 : ∀ w', Ext wr w' → _ := fun w' he => x4 w' (hxr.trans he)
          have v4 : ∀ w', Ext wr w' → _ := fun w' he => y4 w' (hxr.trans he)
          clear x0 x1 x2 x3 x4 y0 y1 y2 y3 y4 Hha Hhb
          generalize hgA hs k = h at *
          obtain ⟨⟨a0, a1⟩, ⟨a2, a3⟩, a4⟩ := h
          simp only at u0 u1 u2 u3 u4 v0 v1 v2 v3 v4
          have hne := neq_Hg a0 a1 a2 a3 a4
          have hkn : (k : Int) < (nh : Int) := by omega
          go_wp2
          refine wp_region_calm 11 (fun _ _ _ _ => True) (fun _ _ _ _ _ _ h => h) (by kernel_rfl) (by kernel_rfl) ?_
          simp only [List.take_succ_cons, List.take_zero, List.drop_succ_cons, List.drop_zero]
          refine calm_quiet calm_mono_final 11 (by kernel_rfl) ?_
          simp only [List.take_succ_cons, List.take_zero, List.drop_succ_cons, List.drop_zero]
          repeat (go_big_quiet_step (fail))
          refine wpQuiet_nil ?_
          refine calm_nil fun w3 he3 _ => ?_
          go_wp2
          go_roundw
          case rel => exact ⟨k + 1, by omega, by go_num, hex.trans he3⟩
          case measure => simp [intOf]; omega
        · obtain rfl : nh = k := by omega
          go_wp2
          go_ret
          exact ⟨rfl, Hx0.out.trans hex⟩
end Go.Proofs.Yteilglljigjefaa

/- A linkage in new memory. -/
namespace Go.Proofs.Yteilglljigjefaa
open Go.RowKit
theorem panel_elem : ElemInfo 40 (.slice none 0 0) 1 24 := ⟨info_parts (by kernel_rfl), rfl, by decide⟩
theorem hinge_elem : ElemInfo 85 (.agg #[.int .i64 0, .int .i64 0, .int .i64 0, .int .i64 0, .int .i64 0]) 5 40 := ⟨info_parts (by kernel_rfl), rfl, by decide⟩
section
variable {w1 w w' : World} {e : TypeId} {size n : Nat} {v : Value} {xs : List Value}
/-- Growth elsewhere. -/
theorem Own.grown {row : Option Nat} (h : Own w1 w e size v n xs) (hg : w.grownBy w' row) (hx : Ext w1 w') (hne : ∀ g, v.ownBlock = some g → some g ≠ row) : Own w1 w' e size v n xs := by
  refine ⟨hx, h.2.1, ?_⟩
  rcases h.2.2 with h1 | ⟨g, cap, cur, rfl, hb, hh, r⟩
  · exact .inl h1
  · exact .inr ⟨g, cap, cur, rfl, hb, (hg.block g (Array.getElem?_eq_some_iff.1 hh).1 (hne g rfl)).trans hh, r⟩
theorem Whole.grown {row : Option Nat} {g : Nat} {cs : Array Value} {t : TypeId} (h : Whole w g cs t) (hg : w.grownBy w' row) (hne : some g ≠ row) : Whole w' g cs t := ⟨(hg.block g (Array.getElem?_eq_some_iff.1 h.h).1 hne).trans h.h⟩
theorem Own.ne_whole {g : Nat} {cs : Array Value} {t : TypeId} (h : Own w1 w e size v n xs) (hg : Whole w g cs t) (ht : t ≠ e) : v.ownBlock ≠ some g := h.ne_block hg.h ht
theorem Own.lt (h : Own w1 w e size v n xs) {g : Nat} (hg : v.ownBlock = some g) : w1.heap.size ≤ g ∧ g < w.heap.size := h.2.lt g hg
theorem Own.ne_own {e2 : TypeId} {size2 n2 : Nat} {v2 : Value} {xs2 : List Value} {w2 : World} (h : Own w1 w e size v n xs) (h2 : Own w2 w e2 size2 v2 n2 xs2) (ht : e2 ≠ e) {g : Nat} (hg : v2.ownBlock = some g) : v.ownBlock ≠ some g := by
  rcases h2.2.2 with ⟨rfl, _⟩ | ⟨g', cap, cur, rfl, _, hh, _⟩
  · simp [Value.ownBlock] at hg
  · have e3 : g' = g := by simpa [Value.ownBlock] using hg
    subst e3
    exact h.ne_block hh ht
end
/-- Panels, each in its own memory. -/
structure Pans (w1 w : World) (vs : List Value) (ps : List (List Sp)) : Prop where
  len : vs.length = ps.length
  own : ∀ k, k < ps.length → Own w1 w 27 2 (vs.getD k undef) (pnA ps k).length ((pnA ps k).map Sp.cells).flatten
  apart : ∀ i k, i < k → k < ps.length → ∀ g, (vs.getD i undef).ownBlock = some g → (vs.getD k undef).ownBlock ≠ some g
section
variable {w1 w w' : World} {vs : List Value} {ps : List (List Sp)}
theorem Pans.later (h : Pans w1 w vs ps) (he : Ext w w') : Pans w1 w' vs ps := ⟨h.len, fun k hk => (h.own k hk).later he, h.apart⟩
theorem Pans.grown {row : Option Nat} (h : Pans w1 w vs ps) (hg : w.grownBy w' row) (hx : Ext w1 w') (hne : ∀ k, k < ps.length → ∀ g, (vs.getD k undef).ownBlock = some g → some g ≠ row) : Pans w1 w' vs ps := ⟨h.len, fun k hk => (h.own k hk).grown hg hx (hne k hk), h.apart⟩
theorem Pans.other {p : Addr} (h : Pans w1 w vs ps) (hp : w1.heap.size ≤ p.block) (hne : ∀ k, k < ps.length → (vs.getD k undef).ownBlock ≠ some p.block) (u : Value) : Pans w1 (w.setCell p u) vs ps := ⟨h.len, fun k hk => (h.own k hk).other hp (hne k hk) u, h.apart⟩
theorem Pans.nil (w1 w : World) : Pans w1 w [] [] := ⟨rfl, fun k hk => by simp at hk, fun i k _ hk => by simp at hk⟩
theorem Pans.since {w0 : World} (h : Pans w1 w vs ps) (he : Ext w0 w1) : Pans w0 w vs ps := ⟨h.len, fun k hk => (h.own k hk).since he, h.apart⟩
theorem Pans.snoc {wm : World} {x : Value} {p : List Sp} (h : Pans w1 w vs ps) (hm : Pans w1 wm vs ps) (hx : Ext w1 wm) (ho : Own wm w 27 2 x p.length (p.map Sp.cells).flatten) : Pans w1 w (vs ++ [x]) (ps ++ [p]) := by
  have hl := h.len
  have e1 : ∀ k, k < ps.length → (vs ++ [x]).getD k undef = vs.getD k undef := fun k hk => by simp [List.getD, List.getElem?_append_left (show k < vs.length by omega)]
  have e2 : (vs ++ [x]).getD ps.length undef = x := by simp [List.getD, ← hl]
  have e3 : ∀ k, k < ps.length → pnA (ps ++ [p]) k = pnA ps k := fun k hk => by simp [pnA, List.getD, List.getElem?_append_left hk]
  have e4 : pnA (ps ++ [p]) ps.length = p := by simp [pnA]
  refine ⟨by simp [hl], fun k hk => ?_, fun i k hik hk g hg => ?_⟩
  · by_cases hkl : k < ps.length
    · rw [e1 k hkl, e3 k hkl]; exact h.own k hkl
    · have : k = ps.length := by simp at hk; omega
      subst this
      rw [e2, e4]
      exact ho.since hx
  · by_cases hkl : k < ps.length
    · rw [e1 k hkl]
      rw [e1 i (by omega)] at hg
      exact h.apart i k hik hkl g hg
    · have : k = ps.length := by simp at hk; omega
      subst this
      rw [e1 i hik] at hg
      rw [e2]
      intro hxg
      have h1 := ((hm.own i hik).lt hg).2
      have h2 := (ho.lt hxg).1
      omega
theorem Pans.row {A : Option Addr} {c n : Nat} (h : Pans w1 w vs ps) (ho : Own w1 w 40 1 (.slice A n c) ps.length vs) : PnRow w A ps := fun k hk => by
  obtain ⟨B, c', hB⟩ := (h.own k hk).form
  have hrow := h.own k hk
  rw [hB] at hrow
  have hrow := hrow.row
  obtain ⟨A', c2, hv⟩ := ho.form
  injection hv with h1 h2 h3
  subst h2
  have hr := ho.row
  obtain ⟨ad, ha, hc⟩ := hr k (by rw [h.len]; exact hk)
  refine ⟨ad, B, c', ha, fun w2 he => he.cell ?_, by rw [pnA_at hk] at hrow; exact hrow⟩
  rw [hc]
  have e : vs.getD k undef = vs[k]'(by rw [h.len]; exact hk) := by simp [List.getD, h.len, hk]
  rw [e, pnA_at hk] at hB
  rw [List.getElem?_eq_getElem (by rw [h.len]; exact hk), hB]
end
/-- A linkage, all in memory that is new since w1. -/
structure TwinOk (w1 w : World) (A : Option Addr) (c : Nat) (B : Option Addr) (d : Nat) (vs : List Value) (ps : List (List Sp)) (hs : List Hg) : Prop where
  pans : Pans w1 w vs ps
  pown : Own w1 w 40 1 (.slice A ps.length c) ps.length vs
  hown : Own w1 w 85 5 (.slice B hs.length d) hs.length (hs.map Hg.cells).flatten
theorem TwinOk.later {w1 w w' : World} {A B : Option Addr} {c d : Nat} {vs : List Value} {ps : List (List Sp)} {hs : List Hg} (h : TwinOk w1 w A c B d vs ps hs) (he : Ext w w') : TwinOk w1 w' A c B d vs ps hs := ⟨h.pans.later he, h.pown.later he, h.hown.later he⟩
theorem TwinOk.lk {w1 w w0 : World} {A B A0 B0 : Option Addr} {c d : Nat} {vs : List Value} {ps : List (List Sp)} {hs : List Hg} (h : TwinOk w1 w A c B d vs ps hs) (hL : Lk w0 A0 ps B0 hs) : Lk w A ps B hs := ⟨h.pans.row h.pown, h.hown.row, hL.np, hL.nh, hL.hp⟩
set_option maxRecDepth 100000 in
set_option maxHeartbeats 8000000 in
theorem twin_any (A : Option Addr) (c : Nat) (ps : List (List Sp)) (B : Option Addr) (d : Nat) (hs : List Hg) (w : World) (hL : Lk w A ps B hs) :
    Calls Try.prog 18 #[.agg #[.slice A ps.length c, .slice B hs.length d]] w fun e w' => ∃ A' c' B' d' vs, e = .returned (.agg #[.slice A' ps.length c', .slice B' hs.length d']) ∧ TwinOk w w' A' c' B' d' vs ps hs ∧ Ext w w' := by
  have hpa := fun k (hk : k < ps.length) => hL.hA.at_ hk
  have hcp := fun (w2 : World) (he : Ext w w2) (b : Nat) (hb : w2.heap[b]? = some (.cells #[] 85)) (hbb : w.heap.size ≤ b) => app_copy (w := w2) (base := w.heap.size) (c := d) hinge_elem Try.underlying23 23 hb hbb (Hg.cells_len hs) (hL.hB.ext he) (Hg.cells_one hs) hL.nh (by omega)
  have hpp := fun (k : Nat) (hk : k < ps.length) (w2 : World) (X : Option Addr) (c base b : Nat) (hX : SRow w2 X (pnA ps k)) (hb : w2.heap[b]? = some (.cells #[] 27)) (hbb : base ≤ b) => app_copy (w := w2) (base := base) (c := c) spot_elem Try.underlying40 40 hb hbb (Sp.cells_len (pnA ps k)) hX (Sp.cells_one _) (hL.hp k hk) (by omega)
  have htk := fun k (hk : k < ps.length) => (show ps.take (k + 1) = ps.take k ++ [pnA ps k] by rw [List.take_succ_eq_append_getElem hk, pnA_at hk])
  have htl : ps.take ps.length = ps := List.take_length
  have htkl := fun k (hk : k ≤ ps.length) => (show (ps.take k).length = k by rw [List.length_take]; omega)
  have hnp := hL.np
  have Hpa := Lib.hid hpa
  have Hcp := Lib.hid hcp
  have Hpp := Lib.hid hpp
  have Htk := Lib.hid htk
  have Htl := Lib.hid htl
  have Htkl := Lib.hid htkl
  clear hpa hcp hpp htk htl htkl hL
  obtain ⟨np, hnp2⟩ : ∃ np, np = ps.length := ⟨_, rfl⟩
  obtain ⟨nh, hnh2⟩ : ∃ nh, nh = hs.length := ⟨_, rfl⟩
  rw [← hnp2] at Hpa Hpp Htk Htl Htkl hnp ⊢
  rw [← hnh2] at Hcp ⊢
  have Hnp2 := Lib.hid hnp2
  have Hnh2 := Lib.hid hnh2
  clear hnp2 hnh2
  have kl : Blk ((w.alloc (.cells #[.slice A np c, .slice B nh d] 25)).alloc (.cells #[.slice none 0 0, .slice none 0 0] 25)) w.heap.size [.slice A np c, .slice B nh d] := (Blk.new _ _).ext ((Ext.refl _).alloc _)
  have kz : Whole ((w.alloc (.cells #[.slice A np c, .slice B nh d] 25)).alloc (.cells #[.slice none 0 0, .slice none 0 0] 25)) (w.heap.size + 1) #[.slice none 0 0, .slice none 0 0] 25 := Whole.new (by simp)
  have b0 := kl.at_ 0 rfl
  have b1 := kl.at_ 1 rfl
  have hx0 : Ext w ((w.alloc (.cells #[.slice A np c, .slice B nh d] 25)).alloc (.cells #[.slice none 0 0, .slice none 0 0] 25)) := ((Ext.refl _).alloc _).alloc _
  have Hx0 := Lib.hid hx0
  have Kz := Lib.hid kz
  have B0 := Lib.hid b0
  clear kl kz hx0
  have hW : (((w.alloc (.cells #[.slice A np c, .slice B nh d] 25)).alloc (.cells #[.slice none 0 0, .slice none 0 0] 25)).alloc (.cells #[] 85)).heap[w.heap.size + 1 + 1]? = some (.cells #[] 85) := (Whole.new (cs := #[]) (t := 85) (g := w.heap.size + 1 + 1) (by simp)).h
  obtain ⟨v1, w1, hr, hx1, ho1, _⟩ := Hcp.out _ (Hx0.out.alloc _) _ hW (by omega)
  have hxw1 := (Hx0.out.alloc (.cells #[] 85)).trans hx1
  have hown1 : Own w w1 85 5 v1 nh (hs.map Hg.cells).flatten := ⟨hxw1, ho1⟩
  have hx2 := (((Ext.refl ((w.alloc (.cells #[.slice A np c, .slice B nh d] 25)).alloc (.cells #[.slice none 0 0, .slice none 0 0] 25))).alloc (.cells #[] 85)).trans hx1)
  have kz := Whole.ext Kz.out hx2
  have c0 : ∀ w', Ext w1 w' → _ := fun w' he => b0 w' (hx2.trans he)
  obtain ⟨B1, d1, rfl⟩ := hown1.form
  have Hr := Lib.hid hr
  have Hown1 := Lib.hid hown1
  have Kz1 := Lib.hid kz
  clear hr hW ho1 hx2 kz hx1 hown1 Hcp Kz
  go_enter Try.func18, Try.ntmps18
  go_wp2_with (at_builtin; refine Lib.wpList_append_run _ rfl _ _ 23 23 rfl _ _ rfl rfl _ w1 Hr.out ?_; clear b0 b1)
  obtain ⟨g3, hg3⟩ : ∃ g3, g3 = w1.heap.size := ⟨_, rfl⟩
  have hS0 : Whole (w1.alloc (.cells #[.slice none 0 0, .slice B1 nh d1] 25)) g3 #[.slice none 0 0, .slice B1 nh d1] 25 := Whole.new hg3.symm
  have hge : w.heap.size ≤ g3 := by rw [hg3]; exact hxw1.le
  have hh0 := Hown1.out.alloc (.cells #[.slice none 0 0, .slice B1 nh d1] 25)
  have hK0 := Whole.ext Kz1.out ((Ext.refl w1).alloc (.cells #[.slice none 0 0, .slice B1 nh d1] 25))
  have hne3 : w.heap.size + 1 ≠ g3 := by
    have h1 := (Array.getElem?_eq_some_iff.1 Kz1.out.h).1
    omega
  have hxa := hxw1.alloc (.cells #[.slice none 0 0, .slice B1 nh d1] 25)
  rw [← hg3]
  have Hge := Lib.hid hge
  have Hne3 := Lib.hid hne3
  have hP0 : Own w (w1.alloc (.cells #[.slice none 0 0, .slice B1 nh d1] 25)) 40 1 (.slice none 0 0) 0 [] := Own.nil' hxa _ _
  have hQ0 := Pans.nil w (w1.alloc (.cells #[.slice none 0 0, .slice B1 nh d1] 25))
  generalize (w1.alloc (.cells #[.slice none 0 0, .slice B1 nh d1] 25)) = W2 at *
  clear hg3 hge hne3 Hr Hown1 Kz1 B0 Hx0 c0 hxw1
  go_loopw [14] (fun i wr => ∃ (k : Nat) (vs : List Value) (v : Value), k ≤ np ∧ i = .int .i64 k ∧ Whole wr g3 #[v, .slice B1 nh d1] 25 ∧ Own w wr 40 1 v k vs ∧ Pans w wr vs (ps.take k) ∧ Own w wr 85 5 (.slice B1 nh d1) nh (hs.map Hg.cells).flatten ∧ Whole wr (w.heap.size + 1) #[.slice none 0 0, .slice none 0 0] 25) (fun i _ => np - (intOf i).toNat)
  case atStart => exact ⟨0, [], _, by omega, rfl, hS0, hP0, hQ0, hh0, hK0⟩
  case round =>
    clear hS0 hP0 hQ0 hh0 hK0 hxa
    obtain ⟨k, vs, v, hk, rfl, hS, hP, hQ, hh, hK⟩ := hrel
    by_cases hlt : k < np
    · obtain ⟨Av, cv, rfl⟩ := hP.form
      obtain ⟨ad, X, cx, rfl, x0, hX⟩ := Hpa.out k hlt
      have hex := hP.ext
      have u0 : ∀ w', Ext wr w' → _ := fun w' he => x0 w' (hex.trans he)
      have hXr := hX.ext hex
      have hpp := fun (w2 : World) (he : Ext wr w2) (b : Nat) (hb : w2.heap[b]? = some (.cells #[] 27)) (hbb : wr.heap.size ≤ b) => Hpp.out k hlt w2 X cx wr.heap.size b (hXr.ext he) hb hbb
      have Hpp' := Lib.hid hpp
      have s0 : ∀ w', Ext wr w' → w'.cell? ⟨g3, 0, none⟩ = some (.slice Av k cv) := fun w' he => he.cell (hS.cell 0 rfl)
      have Htk' := Lib.hid (Htk.out k hlt)
      have HH := Lib.hid (And.intro hS (And.intro hP (And.intro hQ (And.intro hh hK))))
      have Hlk := Lib.hid (Htkl.out k hk)
      clear x0 hX hXr hpp Hpp Hpa Htk hS hP hQ hh hK Htkl Htl
      obtain ⟨m, hm⟩ : ∃ m, m = (pnA ps k).length := ⟨_, rfl⟩
      rw [← hm] at u0 Hpp'
      have Hm := Lib.hid hm
      have hkn : (k : Int) < (np : Int) := by omega
      clear hm
      go_wp2
      refine Cg.wp_region_calm (p := Cg.extPre) (fr := (fun _ => false)) 6 (fun _ _ _ _ => True) (fun _ _ _ _ _ _ h => h) (by kernel_rfl) (by kernel_rfl) ?_
      simp only [List.take_succ_cons, List.take_zero, List.drop_succ_cons, List.drop_zero]
      refine Cg.calm_quiet Cg.calm_mono_final wr (fun _ h => h) 2 (by kernel_rfl) ?_
      simp only [List.take_succ_cons, List.take_zero, List.drop_succ_cons, List.drop_zero]
      repeat (go_big_quiet_step (fail))
      refine wpQuiet_nil ?_
      refine Cg.calm_value Cg.calm_mono_final (fun v w => ∃ b, v = .slice (some ⟨b, 0, none⟩) 0 0 ∧ wr.heap.size ≤ b ∧ w.heap[b]? = some (.cells #[] 27)) (fun _ w' w'' hR ⟨b, e, hb, hh⟩ => ⟨b, e, hb, (show Ext w' w'' from hR).heap hh⟩) rfl (fun w' hR _ => ⟨.slice (some ⟨w'.heap.size, 0, none⟩) 0 0, w'.alloc (.cells #[] 27), by go_simp, (Ext.refl _).alloc _, ⟨_, rfl, (show Ext wr w' from hR).le, heap_alloc_new _ _⟩, fun hf => by cases hf⟩) ?_
      rintro v2 _ _ ⟨b2, rfl, _, _⟩ _
      simp only [Act.put, List.setIfInBounds_toArray, List.set_cons_succ, List.set_cons_zero]
      refine Cg.calm_quiet Cg.calm_mono_final wr (fun _ h => h) 1 (by kernel_rfl) ?_
      simp only [List.take_succ_cons, List.take_zero, List.drop_succ_cons, List.drop_zero]
      repeat (go_big_quiet_step (fail))
      refine wpQuiet_nil ?_
      refine Cg.calm_value Cg.calm_mono_final (fun v w => w.ownsRow wr.heap.size 27 2 v m ((pnA ps k).map Sp.cells).flatten ∧ True) (fun _ w' w'' hR ⟨h1, h2⟩ => ⟨(show Ext w' w'' from hR).owns h1, h2⟩) rfl (fun w' hR hf => ?_) ?_
      · obtain ⟨b', eb, hbb, hb2⟩ := (hf 2 (by kernel_rfl)).2 rfl
        simp only [Value.slice.injEq, Option.some.injEq, Addr.mk.injEq, and_true] at eb
        subst eb
        obtain ⟨v', w'', hr, hx2, ho, _⟩ := Hpp'.out w' hR _ hb2 hbb
        exact ⟨_, w'', exec_append _ _ 40 rfl rfl rfl hr, hx2, ⟨ho, trivial⟩, fun hf => by cases hf⟩
      rintro v4 wq hq ⟨ho4, _⟩ _
      obtain ⟨X4, c4, rfl⟩ : ∃ X4 c4, v4 = .slice X4 m c4 := Own.form (w1 := wr) (w := wq) ⟨hq, ho4⟩
      clear ho4 hq
      simp only [Act.put, List.setIfInBounds_toArray, List.set_cons_succ, List.set_cons_zero]
      refine Cg.calm_value Cg.calm_mono_final (fun v w => ∃ b, v = .slice (some ⟨b, 0, none⟩) 1 1 ∧ w.heap[b]? = some (.cells #[.slice X4 m c4] 40)) (fun _ w' w'' hR ⟨b, e, hh⟩ => ⟨b, e, (show Ext w' w'' from hR).heap hh⟩) rfl (fun w' hR _ => ⟨.slice (some ⟨w'.heap.size, 0, none⟩) 1 1, w'.alloc (.cells #[.slice X4 m c4] 40), by go_simp, (Ext.refl _).alloc _, ⟨_, rfl, heap_alloc_new _ _⟩, fun hf => by cases hf⟩) ?_
      rintro v5 _ _ ⟨b5, rfl, _⟩ _
      simp only [Act.put, List.setIfInBounds_toArray, List.set_cons_succ, List.set_cons_zero]
      refine Cg.calm_nil fun w3 he3 hF => ?_
      have he3 : Ext wr w3 := he3
      obtain ⟨_, e5, hh5⟩ := (hF.1 5).2 rfl
      simp only [Value.slice.injEq, Option.some.injEq, Addr.mk.injEq, and_true] at e5
      subst e5
      obtain ⟨hx4, _⟩ := (hF.1 4).1.2 rfl
      clear hF
      obtain ⟨hS, hP, hQ, hh, hK⟩ := HH.out
      have hx4' : Own wr w3 27 2 (.slice X4 m c4) m ((pnA ps k).map Sp.cells).flatten := ⟨he3, hx4⟩
      have hrow5 : Row w3 (some ⟨b5, 0, none⟩) [.slice X4 m c4] := row_heap hh5
      have hone : ∀ u ∈ [Value.slice X4 m c4], u.oneCell' = true := by
        intro u hu
        simp at hu
        subst hu
        rfl
      have hQ3 := (hQ.later he3).snoc (x := .slice X4 m c4) hQ hP.ext (by rw [← Hm.out]; exact hx4')
      rw [← Htk'.out] at hQ3
      have hS3 := hS.ext he3
      have hP3 := hP.later he3
      have hh3 := hh.later he3
      have hK3 := hK.ext he3
      have H3 := Lib.hid (And.intro hS3 (And.intro hP3 (And.intro hQ3 (And.intro hh3 hK3))))
      have Hx4 := Lib.hid hx4'
      clear hS3 hP3 hQ3 hh3 hK3 hS hP hQ hh hK HH hx4 hx4' hh5
      go_wp2_with (refine own_append_src (w1 := w) panel_elem rfl _ _ 22 rfl Try.underlying22 _ k _ rfl H3.out.2.1 _ 1 1 _ rfl rfl hrow5 hone (by omega) (by unfold maxLen; omega) ?_; intro v' w' ho hg; obtain ⟨A6, c6, rfl⟩ := ho.form; have hg : w3.grownBy w' (Value.slice Av k cv).ownBlock := hg; obtain ⟨hS3, hP3, hQ3, hh3, hK3⟩ := H3.out; have hS4 := hS3.grown hg (fun e => hP3.ne_whole hS3 (by decide) e.symm); have hK4 := hK3.grown hg (fun e => hP3.ne_whole hK3 (by decide) e.symm); have t0 := hS4.cell 0 rfl; have tf := hS4.free 0; clear hS3 hP3 hQ3 hh3 hK3)
      obtain ⟨hS3, hP3, hQ3, hh3, hK3⟩ := H3.out
      have hQ4 := hQ3.grown hg ho.ext (fun j hj g e1 e2 => (hQ3.own j hj).ne_own hP3 (by decide) e2.symm e1)
      have hh4 := hh3.grown hg ho.ext (fun g e1 e2 => hh3.ne_own hP3 (by decide) e2.symm e1)
      have hge := Hge.out
      have hS5 := hS4.setCell 0 (.slice A6 (k + 1) c6)
      have hK5 := hK4.farCell Hne3.out 0 (.slice A6 (k + 1) c6)
      have hP5 := ho.other (p := ⟨g3, 0, none⟩) hge (ho.ne_whole hS4 (by decide)) (.slice A6 (k + 1) c6)
      have hQ5 := hQ4.other (p := ⟨g3, 0, none⟩) hge (fun j hj => (hQ4.own j hj).ne_whole hS4 (by decide)) (.slice A6 (k + 1) c6)
      have hh5 := hh4.other (p := ⟨g3, 0, none⟩) hge (hh4.ne_whole hS4 (by decide)) (.slice A6 (k + 1) c6)
      go_roundw
      case rel => exact ⟨k + 1, _, (.slice A6 (k + 1) c6), by omega, by go_num, hS5, hP5, hQ5, hh5, hK5⟩
      case measure => simp [intOf]; omega
    · obtain rfl : np = k := by omega
      have s0 := hS.cell 0 rfl
      have s1 := hS.cell 1 rfl
      have z0 := hK.cell 0 rfl
      have z1 := hK.cell 1 rfl
      have zf := hK.free
      rw [Htl.out] at hQ
      have hne := Hne3.out
      obtain ⟨Av, cv, rfl⟩ := hP.form
      have HH := Lib.hid (And.intro hS (And.intro hP (And.intro hQ (And.intro hh hK))))
      clear hS hP hQ hh hK Hpa Hpp Htk
      go_wp2
      obtain ⟨hS, hP, hQ, hh, hK⟩ := HH.out
      have hge1 : w.heap.size ≤ w.heap.size + 1 := by omega
      have hP5 := (hP.other (p := ⟨w.heap.size + 1, 0, none⟩) hge1 (hP.ne_whole hK (by decide)) (.slice Av np cv)).other (p := ⟨w.heap.size + 1, 1, none⟩) hge1 (hP.ne_whole hK (by decide)) (.slice B1 nh d1)
      have hh5 := (hh.other (p := ⟨w.heap.size + 1, 0, none⟩) hge1 (hh.ne_whole hK (by decide)) (.slice Av np cv)).other (p := ⟨w.heap.size + 1, 1, none⟩) hge1 (hh.ne_whole hK (by decide)) (.slice B1 nh d1)
      have hQ5 := (hQ.other (p := ⟨w.heap.size + 1, 0, none⟩) hge1 (fun j hj => (hQ.own j hj).ne_whole hK (by decide)) (.slice Av np cv)).other (p := ⟨w.heap.size + 1, 1, none⟩) hge1 (fun j hj => (hQ.own j hj).ne_whole hK (by decide)) (.slice B1 nh d1)
      have hK5 := ((hK.setCell 0 (.slice Av np cv)).setCell 1 (.slice B1 nh d1)).blk
      refine bodyPost_ret (results_link rfl _ _ rfl hK5) rfl ?_
      refine ⟨_, _, _, _, vs, rfl, ⟨hQ5, ?_, ?_⟩, hP5.ext⟩
      · rw [← Hnp2.out]; exact hP5
      · rw [← Hnh2.out]; exact hh5
end Go.Proofs.Yteilglljigjefaa

/- HingePoses: the law's own walk. -/
namespace Go.Proofs.Yteilglljigjefaa
open Go.RowKit
set_option maxHeartbeats 1000000 in
theorem check_panel_ref (A : Option Addr) (c : Nat) (l : List Sp) (w : World) (hA : SRow w A l) (hl : l.length ≤ 1000) :
    Calls Try.prog 26 #[.slice A l.length c] w fun e w' => e = .returned (.int .i64 (panelE l)) ∧ Ext w w' := by
  have hv := fun w' (he : Ext w w') => vpanel_any A c l w' (hA.ext he) hl
  have hp : panelE l = if panelB l = true then 0 else 50 := rfl
  rw [hp]
  have Hv := Lib.hid hv
  clear hv hp hA
  generalize panelB l = S at *
  generalize l.length = n at *
  cases S
  all_goals
    go_enter Try.func26, Try.ntmps26
    go_wp2_with (go_at_call 63; refine (Hv.out _ (Ext.refl _)).mono ?_; rintro e w1 ⟨rfl, hx1⟩)
    go_ret
    exact ⟨rfl, hx1⟩
set_option maxHeartbeats 1000000 in
theorem check_ref (A : Option Addr) (c : Nat) (ps : List (List Sp)) (B : Option Addr) (d : Nat) (hs : List Hg) (w : World) (hL : Lk w A ps B hs) :
    Calls Try.prog 31 #[.agg #[.slice A ps.length c, .slice B hs.length d]] w fun e w' => e = .returned (.int .i64 (checkE ps hs)) ∧ Ext w w' := by
  have hv := fun w' (he : Ext w w') => (hL.ext he).valid c d
  have hp : checkE ps hs = if linkB ps hs = true then 0 else 50 := rfl
  rw [hp]
  have Hv := Lib.hid hv
  clear hv hp hL
  generalize linkB ps hs = S at *
  generalize ps.length = np at *
  generalize hs.length = nh at *
  have hx0 : Ext w (w.alloc (.cells #[.slice A np c, .slice B nh d] 25)) := (Ext.refl _).alloc _
  cases S
  all_goals
    go_enter Try.func31, Try.ntmps31
    go_wp2_with (go_at_call 65; refine (Hv.out _ hx0).mono ?_; rintro e w1 ⟨rfl, hx1⟩)
    go_ret
    exact ⟨rfl, hx0.trans hx1⟩
theorem gapE_form (ps : List (List Sp)) (hs : List Hg) (a b : Sp) : ∃ X Y D E, gapE ps hs a b = .tuple #[.int .i64 X, .int .i64 Y, .int .i64 D, .int .i64 E] := by
  unfold gapE
  split
  · exact ⟨_, _, _, _, rfl⟩
  · exact ⟨_, _, _, _, rfl⟩
set_option maxRecDepth 100000 in
set_option maxHeartbeats 4000000 in
theorem poses_law_out (n : Int) (P : Option Addr) (pc : Nat) (p : List Sp) (A : Option Addr) (c : Nat) (ps : List (List Sp)) (B : Option Addr) (d : Nat) (hs : List Hg) (x : Int) (a b : Sp) (w : World) (_hp : SRow w P p) (hA : PnRow w A ps) (_hB : HRow w B hs) (hg : greatP ps hs ∨ 20 < p.length) :
    Calls Try.prog 4 #[.int .i64 n, .slice P p.length pc, .agg #[.slice A ps.length c, .slice B hs.length d], .int .i64 x, a.val, b.val] w fun e w' => e = .returned (.bool true) ∧ Ext w w' := by
  obtain ⟨ax, ay⟩ := a
  obtain ⟨bx, bY⟩ := b
  have hgr := fun w' (he : Ext w w') => great_any A c ps B d hs w' (hA.ext he)
  by_cases h1 : greatP ps hs
  · rw [← greatB_yes h1] at hgr
    have Hgr := Lib.hid hgr
    clear hgr hA _hB _hp hg h1
    generalize ps.length = np at *
    generalize hs.length = nh at *
    generalize p.length = m at *
    have kl : Blk (((w.alloc (.cells #[.slice A np c, .slice B nh d] 25)).alloc (.cells #[vint ax, vint ay] 27)).alloc (.cells #[vint bx, vint bY] 27)) w.heap.size [.slice A np c, .slice B nh d] := (Blk.new _ _).ext (((Ext.refl _).alloc _).alloc _)
    have ka : Blk (((w.alloc (.cells #[.slice A np c, .slice B nh d] 25)).alloc (.cells #[vint ax, vint ay] 27)).alloc (.cells #[vint bx, vint bY] 27)) (w.heap.size + 1) [vint ax, vint ay] := (Blk.new' (cs := #[vint ax, vint ay]) (by simp)).ext ((Ext.refl _).alloc _)
    have kb : Blk (((w.alloc (.cells #[.slice A np c, .slice B nh d] 25)).alloc (.cells #[vint ax, vint ay] 27)).alloc (.cells #[vint bx, vint bY] 27)) (w.heap.size + 1 + 1) [vint bx, vint bY] := Blk.new' (cs := #[vint bx, vint bY]) (by simp)
    have l0 := kl.at_ 0 rfl
    have l1 := kl.at_ 1 rfl
    have a0 := ka.at_ 0 rfl
    have a1 := ka.at_ 1 rfl
    have b0 := kb.at_ 0 rfl
    have b1 := kb.at_ 1 rfl
    have hx0 : Ext w (((w.alloc (.cells #[.slice A np c, .slice B nh d] 25)).alloc (.cells #[vint ax, vint ay] 27)).alloc (.cells #[vint bx, vint bY] 27)) := (((Ext.refl _).alloc _).alloc _).alloc _
    have Hx0 := Lib.hid hx0
    clear kl ka kb hx0
    go_enter Try.func4, Try.ntmps4
    go_wp2_with (go_at_call 17; refine (Hgr.out _ Hx0.out).mono ?_; rintro e w1 ⟨rfl, hx1⟩)
    go_ret
    exact ⟨rfl, Hx0.out.trans hx1⟩
  · rw [← greatB_no h1] at hgr
    have hm : 20 < p.length := by
      rcases hg with h | h
      · exact absurd h h1
      · exact h
    have Hgr := Lib.hid hgr
    clear hgr hA _hB _hp hg h1
    generalize ps.length = np at *
    generalize hs.length = nh at *
    generalize p.length = m at *
    have d1 : decide ((20 : Int) < (m : Int)) = true := by simp; omega
    have kl : Blk (((w.alloc (.cells #[.slice A np c, .slice B nh d] 25)).alloc (.cells #[vint ax, vint ay] 27)).alloc (.cells #[vint bx, vint bY] 27)) w.heap.size [.slice A np c, .slice B nh d] := (Blk.new _ _).ext (((Ext.refl _).alloc _).alloc _)
    have ka : Blk (((w.alloc (.cells #[.slice A np c, .slice B nh d] 25)).alloc (.cells #[vint ax, vint ay] 27)).alloc (.cells #[vint bx, vint bY] 27)) (w.heap.size + 1) [vint ax, vint ay] := (Blk.new' (cs := #[vint ax, vint ay]) (by simp)).ext ((Ext.refl _).alloc _)
    have kb : Blk (((w.alloc (.cells #[.slice A np c, .slice B nh d] 25)).alloc (.cells #[vint ax, vint ay] 27)).alloc (.cells #[vint bx, vint bY] 27)) (w.heap.size + 1 + 1) [vint bx, vint bY] := Blk.new' (cs := #[vint bx, vint bY]) (by simp)
    have l0 := kl.at_ 0 rfl
    have l1 := kl.at_ 1 rfl
    have a0 := ka.at_ 0 rfl
    have a1 := ka.at_ 1 rfl
    have b0 := kb.at_ 0 rfl
    have b1 := kb.at_ 1 rfl
    have hx0 : Ext w (((w.alloc (.cells #[.slice A np c, .slice B nh d] 25)).alloc (.cells #[vint ax, vint ay] 27)).alloc (.cells #[vint bx, vint bY] 27)) := (((Ext.refl _).alloc _).alloc _).alloc _
    have Hx0 := Lib.hid hx0
    clear kl ka kb hx0
    go_enter Try.func4, Try.ntmps4
    go_wp2_with (go_at_call 17; refine (Hgr.out _ Hx0.out).mono ?_; rintro e w1 ⟨rfl, hx1⟩)
    go_ret
    exact ⟨rfl, Hx0.out.trans hx1⟩
set_option maxRecDepth 100000 in
set_option maxHeartbeats 16000000 in
theorem poses_law_in (n : Int) (P : Option Addr) (pc : Nat) (p : List Sp) (A : Option Addr) (c : Nat) (ps : List (List Sp)) (B : Option Addr) (d : Nat) (hs : List Hg) (x : Int) (a b : Sp) (w : World) (hp : SRow w P p) (hA : PnRow w A ps) (hB : HRow w B hs) (hg : ¬ greatP ps hs) (hm : p.length ≤ 20) :
    Calls Try.prog 4 #[.int .i64 n, .slice P p.length pc, .agg #[.slice A ps.length c, .slice B hs.length d], .int .i64 x, a.val, b.val] w fun e w' => e = .returned (.bool true) ∧ Ext w w' := by
  have hL := lk_of hA hB hg
  have hgr := fun w' (he : Ext w w') => great_any A c ps B d hs w' (hA.ext he)
  rw [← greatB_no hg] at hgr
  have han := fun w' => angle_any n w'
  have har := fun w' => angle_ref n w'
  have hcp := fun w' (he : Ext w w') => check_panel P pc p w' (hp.ext he) (by omega)
  have hcq := fun w' (he : Ext w w') => check_panel_ref P pc p w' (hp.ext he) (by omega)
  have htw := fun w' (he : Ext w w') => twin_any A c ps B d hs w' (hL.ext he)
  have hlk := fun (w1 w' : World) (A1 : Option Addr) (c1 : Nat) (B1 : Option Addr) (d1 : Nat) (vs : List Value) (h : TwinOk w1 w' A1 c1 B1 d1 vs ps hs) => h.lk hL
  have hps := fun (w' : World) (A1 : Option Addr) (c1 : Nat) (B1 : Option Addr) (d1 : Nat) (h : Lk w' A1 ps B1 hs) => (poses_all A1 c1 ps B1 d1 hs w' h).mono (R' := fun e w'' => ∃ P c, e = .returned (.tuple #[.slice P (posesR ps hs).length c, .int .i64 (checkE ps hs)]) ∧ PRow w'' P (posesR ps hs) ∧ Ext w' w'') fun e w'' ⟨v, he, ho⟩ => by obtain ⟨P, c, rfl⟩ := ho.form; exact ⟨P, c, he, ho.row, ho.ext⟩
  have hpr := fun w' (he : Ext w w') => (poses_ref A c ps B d hs w' (hL.ext he)).mono (R' := fun e w'' => ∃ P c, e = .returned (.tuple #[.slice P (posesR ps hs).length c, .int .i64 (checkE ps hs)]) ∧ PRow w'' P (posesR ps hs) ∧ Ext w' w'') fun e w'' ⟨v, he, ho⟩ => by obtain ⟨P, c, rfl⟩ := ho.form; exact ⟨P, c, he, ho.row, ho.ext⟩
  have hck := fun (w' : World) (A1 : Option Addr) (c1 : Nat) (B1 : Option Addr) (d1 : Nat) (h : Lk w' A1 ps B1 hs) => h.check c1 d1
  have hcr := fun w' (he : Ext w w') => check_ref A c ps B d hs w' (hL.ext he)
  have hcs := fun (w' : World) (A1 : Option Addr) (c1 : Nat) (B1 : Option Addr) (d1 : Nat) (h : Lk w' A1 ps B1 hs) => (corners_all A1 c1 ps B1 d1 hs x w' h).mono (R' := fun e w'' => ∃ X c, e = .returned (.tuple #[.slice X (cornL ps hs x).length c, .int .i64 (cornD ps hs x), .int .i64 (cornE ps hs x)]) ∧ Own w' w'' 27 2 (.slice X (cornL ps hs x).length c) (cornL ps hs x).length ((cornL ps hs x).map Sp.cells).flatten ∧ Ext w' w'') fun e w'' ⟨v, he, ho⟩ => by obtain ⟨X, c, rfl⟩ := ho.form; exact ⟨X, c, he, ho, ho.ext⟩
  have hct := fun w' (he : Ext w w') => (corners_ref A c ps B d hs x w' (hL.ext he)).mono (R' := fun e w'' => ∃ X c, e = .returned (.tuple #[.slice X (cornL ps hs x).length c, .int .i64 (cornD ps hs x), .int .i64 (cornE ps hs x)]) ∧ Row w'' X ((cornL ps hs x).map Sp.cells).flatten ∧ Ext w' w'') fun e w'' ⟨v, he, ho⟩ => by obtain ⟨X, c, rfl⟩ := ho.form; exact ⟨X, c, he, ho.row, ho.ext⟩
  have hga := fun (w' : World) (A1 : Option Addr) (c1 : Nat) (B1 : Option Addr) (d1 : Nat) (h : Lk w' A1 ps B1 hs) => gap_all A1 c1 ps B1 d1 hs a b w' h
  have hgb := fun w' (he : Ext w w') => gap_ref A c ps B d hs a b w' (hL.ext he)
  obtain ⟨gX, gY, gD, gE, hge⟩ := gapE_form ps hs a b
  rw [hge] at hga hgb
  have hsp := fun (X Y : Option Addr) (c d : Nat) (w' : World) (hX : PRow w' X (posesR ps hs)) (hY : PRow w' Y (posesR ps hs)) => same_poses X Y c d (posesR ps hs) w' hX hY (by
    unfold posesR
    split
    · rename_i h
      rw [posesL_len]
      have h : linkP ps hs := of_decide_eq_true h
      have := h.nh
      omega
    · simp)
  have hcl : (cornL ps hs x).length ≤ 1000 := by
    unfold cornL
    split
    · rename_i h
      rw [crnS_len]
      exact hL.hp _ (by have := h.2; unfold inP at this; omega)
    · simp
  have hss := fun (X Y : Option Addr) (c d : Nat) (w' : World) (hX : Row w' X ((cornL ps hs x).map Sp.cells).flatten) (hY : Row w' Y ((cornL ps hs x).map Sp.cells).flatten) => same_spots X Y c d (cornL ps hs x) w' hX hY (by omega)
  have hcv : ∀ v ∈ ((cornL ps hs x).map Sp.cells).flatten, ∃ z, v = .int .i64 z := fun v hv => by
    obtain ⟨r, hr, hur⟩ := List.mem_flatten.1 hv
    obtain ⟨y, _, rfl⟩ := List.mem_map.1 hr
    simp [Sp.cells] at hur
    rcases hur with rfl | rfl <;> exact ⟨_, rfl⟩
  have hcn : ((cornL ps hs x).map Sp.cells).flatten.length = (cornL ps hs x).length * 2 := Sp.cells_len _
  have hsl := fun (A1 : Option Addr) (c1 : Nat) (B1 : Option Addr) (d1 : Nat) (w' : World) (h : Lk w' A1 ps B1 hs) (he : Ext w w') => same_link A1 A c1 c ps B1 B d1 d hs w' h (hL.ext he)
  clear hge hA hB hg hp hL
  have Hgr := Lib.hid hgr
  have Han := Lib.hid han
  have Har := Lib.hid har
  have Hcp := Lib.hid hcp
  have Hcq := Lib.hid hcq
  have Htw := Lib.hid htw
  have Hlk := Lib.hid hlk
  have Hps := Lib.hid hps
  have Hpr := Lib.hid hpr
  have Hck0 := Lib.hid hck
  have Hcr0 := Lib.hid hcr
  have Hcs := Lib.hid hcs
  have Hct := Lib.hid hct
  have Hga := Lib.hid hga
  have Hgb := Lib.hid hgb
  have Hsp0 := Lib.hid hsp
  have Hss := Lib.hid hss
  have Hcv := Lib.hid hcv
  have Hcn := Lib.hid hcn
  have Hsl := Lib.hid hsl
  clear hgr han har hcp hcq htw hlk hps hpr hck hcr hcs hct hga hgb hsp hss hcv hcn hsl
  unfold angV at Han Har
  generalize (angS n).1 = n1 at *
  generalize (angS n).2.1 = n2 at *
  generalize (angS n).2.2 = n3 at *
  generalize angE n = n4 at *
  generalize panelE p = pE at *
  generalize checkE ps hs = CE at *
  generalize posesR ps hs = PR at *
  generalize PR.length = pn at *
  generalize cornD ps hs x = cD at *
  generalize cornE ps hs x = cE at *
  generalize (cornL ps hs x).length = N at *
  generalize ((cornL ps hs x).map Sp.cells).flatten = Z at *
  generalize ps.length = np at *
  generalize hs.length = nh at *
  generalize p.length = m at *
  have d1 : decide ((20 : Int) < (m : Int)) = false := by simp; omega
  obtain ⟨ax, ay⟩ := a
  obtain ⟨bx, bY⟩ := b
  have kl : Blk (((w.alloc (.cells #[.slice A np c, .slice B nh d] 25)).alloc (.cells #[vint ax, vint ay] 27)).alloc (.cells #[vint bx, vint bY] 27)) w.heap.size [.slice A np c, .slice B nh d] := (Blk.new _ _).ext (((Ext.refl _).alloc _).alloc _)
  have ka : Blk (((w.alloc (.cells #[.slice A np c, .slice B nh d] 25)).alloc (.cells #[vint ax, vint ay] 27)).alloc (.cells #[vint bx, vint bY] 27)) (w.heap.size + 1) [vint ax, vint ay] := (Blk.new' (cs := #[vint ax, vint ay]) (by simp)).ext ((Ext.refl _).alloc _)
  have kb : Blk (((w.alloc (.cells #[.slice A np c, .slice B nh d] 25)).alloc (.cells #[vint ax, vint ay] 27)).alloc (.cells #[vint bx, vint bY] 27)) (w.heap.size + 1 + 1) [vint bx, vint bY] := Blk.new' (cs := #[vint bx, vint bY]) (by simp)
  have l0 := kl.at_ 0 rfl
  have l1 := kl.at_ 1 rfl
  have a0 := ka.at_ 0 rfl
  have a1 := ka.at_ 1 rfl
  have b0 := kb.at_ 0 rfl
  have b1 := kb.at_ 1 rfl
  have hx0 : Ext w (((w.alloc (.cells #[.slice A np c, .slice B nh d] 25)).alloc (.cells #[vint ax, vint ay] 27)).alloc (.cells #[vint bx, vint bY] 27)) := (((Ext.refl _).alloc _).alloc _).alloc _
  have Hx0 := Lib.hid hx0
  clear kl ka kb hx0
  go_enter Try.func4, Try.ntmps4
  go_wp2_with (first
    | (go_at_call 17; refine (Hgr.out _ Hx0.out).mono ?_; rintro e w1 ⟨rfl, hx1⟩; have hw1 := Hx0.out.trans hx1; replace l0 : ∀ w', Ext w1 w' → _ := fun w' he => l0 w' (hx1.trans he); replace l1 : ∀ w', Ext w1 w' → _ := fun w' he => l1 w' (hx1.trans he); replace a0 : ∀ w', Ext w1 w' → _ := fun w' he => a0 w' (hx1.trans he); replace a1 : ∀ w', Ext w1 w' → _ := fun w' he => a1 w' (hx1.trans he); replace b0 : ∀ w', Ext w1 w' → _ := fun w' he => b0 w' (hx1.trans he); replace b1 : ∀ w', Ext w1 w' → _ := fun w' he => b1 w' (hx1.trans he))
    | (go_at_call 23; refine (Han.out _).mono ?_; rintro e w2 ⟨rfl, hx2⟩)
    | (go_at_call 24; refine (Har.out _).mono ?_; rintro e w3 ⟨rfl, hx3⟩; have hw3 := (hw1.trans hx2).trans hx3)
    | (go_at_call 25; refine (Hcp.out _ hw3).mono ?_; rintro e w4 ⟨rfl, hx4⟩)
    | (go_at_call 26; refine (Hcq.out _ (hw3.trans hx4)).mono ?_; rintro e w5 ⟨rfl, hx5⟩; have hw5 := (hw3.trans hx4).trans hx5; have hx15 := ((hx2.trans hx3).trans hx4).trans hx5; replace l0 : ∀ w', Ext w5 w' → _ := fun w' he => l0 w' (hx15.trans he); replace l1 : ∀ w', Ext w5 w' → _ := fun w' he => l1 w' (hx15.trans he); replace a0 : ∀ w', Ext w5 w' → _ := fun w' he => a0 w' (hx15.trans he); replace a1 : ∀ w', Ext w5 w' → _ := fun w' he => a1 w' (hx15.trans he); replace b0 : ∀ w', Ext w5 w' → _ := fun w' he => b0 w' (hx15.trans he); replace b1 : ∀ w', Ext w5 w' → _ := fun w' he => b1 w' (hx15.trans he))
    | (go_at_call 18; refine (Htw.out _ hw5).mono ?_; rintro e w6 ⟨A1, c1, B1, d1, vs, rfl, htw6, hx6⟩; have hw6 := hw5.trans hx6; have hlk6 := Hlk.out _ _ _ _ _ _ _ htw6; replace l0 : ∀ w', Ext w6 w' → _ := fun w' he => l0 w' (hx6.trans he); replace l1 : ∀ w', Ext w6 w' → _ := fun w' he => l1 w' (hx6.trans he); replace a0 : ∀ w', Ext w6 w' → _ := fun w' he => a0 w' (hx6.trans he); replace a1 : ∀ w', Ext w6 w' → _ := fun w' he => a1 w' (hx6.trans he); replace b0 : ∀ w', Ext w6 w' → _ := fun w' he => b0 w' (hx6.trans he); replace b1 : ∀ w', Ext w6 w' → _ := fun w' he => b1 w' (hx6.trans he); have ko := (Blk.new (W := w6) #[.slice A1 np c1, .slice B1 nh d1] 25); have o0 := ko.at_ 0 rfl; have o1 := ko.at_ 1 rfl; clear ko htw6)
    | (go_at_call 27; have hlk6a := hlk6.ext ((Ext.refl w6).alloc (.cells #[.slice A1 np c1, .slice B1 nh d1] 25)); refine (Hps.out _ _ _ _ _ hlk6a).mono ?_; rintro e w7a ⟨P1, p1c, rfl, hr1, hx7a⟩; replace o0 : ∀ w', Ext w7a w' → _ := fun w' he => o0 w' (hx7a.trans he); replace o1 : ∀ w', Ext w7a w' → _ := fun w' he => o1 w' (hx7a.trans he); have hx67a := ((Ext.refl w6).alloc (.cells #[.slice A1 np c1, .slice B1 nh d1] 25)).trans hx7a; replace l0 : ∀ w', Ext w7a w' → _ := fun w' he => l0 w' (hx67a.trans he); replace l1 : ∀ w', Ext w7a w' → _ := fun w' he => l1 w' (hx67a.trans he); replace a0 : ∀ w', Ext w7a w' → _ := fun w' he => a0 w' (hx67a.trans he); replace a1 : ∀ w', Ext w7a w' → _ := fun w' he => a1 w' (hx67a.trans he); replace b0 : ∀ w', Ext w7a w' → _ := fun w' he => b0 w' (hx67a.trans he); replace b1 : ∀ w', Ext w7a w' → _ := fun w' he => b1 w' (hx67a.trans he))
    | (go_at_call 28; refine (Hpr.out _ (hw6.trans hx67a)).mono ?_; rintro e w7 ⟨P2, p2c, rfl, hr2, hx7⟩; replace l0 : ∀ w', Ext w7 w' → _ := fun w' he => l0 w' (hx7.trans he); replace l1 : ∀ w', Ext w7 w' → _ := fun w' he => l1 w' (hx7.trans he); replace a0 : ∀ w', Ext w7 w' → _ := fun w' he => a0 w' (hx7.trans he); replace a1 : ∀ w', Ext w7 w' → _ := fun w' he => a1 w' (hx7.trans he); replace b0 : ∀ w', Ext w7 w' → _ := fun w' he => b0 w' (hx7.trans he); replace b1 : ∀ w', Ext w7 w' → _ := fun w' he => b1 w' (hx7.trans he); replace o0 : ∀ w', Ext w7 w' → _ := fun w' he => o0 w' (hx7.trans he); replace o1 : ∀ w', Ext w7 w' → _ := fun w' he => o1 w' (hx7.trans he)))
  have hsp := fun w' (he : Ext w7 w') => Hsp0.out P1 P2 p1c p2c w' (hr1.ext (hx7.trans he)) (hr2.ext he)
  have hx7' : Ext w6 w7 := hx67a.trans hx7
  have hlk7 := hlk6.ext hx7'
  have hw7 := hw6.trans hx7'
  have hck := fun w' (he : Ext w7 w') => Hck0.out w' A1 c1 B1 d1 (hlk7.ext he)
  have hcr := fun w' (he : Ext w7 w') => Hcr0.out w' (hw7.trans he)
  have Hsp := Lib.hid hsp
  have Hck := Lib.hid hck
  have Hcr := Lib.hid hcr
  have Hlk7 := Lib.hid hlk7
  have Hw7 := Lib.hid hw7
  clear hsp hck hcr hlk6 hlk7 hw7 hx7' hx67a hw6 hr1 hr2 hx7 hx7a hlk6a hw1 hw3 hw5 hx1 hx2 hx3 hx4 hx5 hx15 hx6 Hgr Han Har Hcp Hcq Htw Hlk Hps Hpr Hck0 Hcr0 Hsp0 Hx0
  refine wp_region_calm 16 (fun j _ v _ => (j = 2 → v = .bool true) ∧ (j = 11 → v = .int .i64 CE) ∧ (j = 13 → v = .int .i64 CE)) (fun _ _ _ _ _ _ h => h) (by kernel_rfl) (by kernel_rfl) ?_
  simp only [List.take_succ_cons, List.take_zero, List.drop_succ_cons, List.drop_zero]
  refine calm_quiet calm_mono_final 2 (by kernel_rfl) ?_
  simp only [List.take_succ_cons, List.take_zero, List.drop_succ_cons, List.drop_zero]
  repeat (go_big_quiet_step (fail))
  refine wpQuiet_nil ?_
  refine calm_call calm_mono_final 29 #[.slice P1 pn p1c, .slice P2 pn p2c] rfl (fun w => ?_) (fun w he hF => ?_) ?_
  · go_simp
  · exact (Hsp.out w (show Ext w7 w from he)).mono fun e w'' ⟨he', hx⟩ => ⟨_, he', hx, And.intro (fun _ => rfl) (And.intro (fun h => by cases h) (fun h => by cases h))⟩
  rintro _ _ _ ⟨h, _⟩
  cases h rfl
  simp only [Act.put, List.setIfInBounds_toArray, List.set_cons_succ, List.set_cons_zero]
  refine calm_quiet calm_mono_final 8 (by kernel_rfl) ?_
  simp only [List.take_succ_cons, List.take_zero, List.drop_succ_cons, List.drop_zero]
  repeat (go_big_quiet_step (fail))
  refine wpQuiet_nil ?_
  refine calm_call calm_mono_final 30 #[.agg #[.slice A1 np c1, .slice B1 nh d1]] rfl (fun w => ?_) (fun w he hF => ?_) ?_
  · go_simp
  · exact (Hck.out w (show Ext w7 w from he)).mono fun e w'' ⟨he', hx⟩ => ⟨_, he', hx, And.intro (fun h => by cases h) (And.intro (fun _ => rfl) (fun h => by cases h))⟩
  rintro _ _ _ ⟨_, h, _⟩
  cases h rfl
  simp only [Act.put, List.setIfInBounds_toArray, List.set_cons_succ, List.set_cons_zero]
  refine calm_quiet calm_mono_final 1 (by kernel_rfl) ?_
  simp only [List.take_succ_cons, List.take_zero, List.drop_succ_cons, List.drop_zero]
  repeat (go_big_quiet_step (fail))
  refine wpQuiet_nil ?_
  refine calm_call calm_mono_final 31 #[.agg #[.slice A np c, .slice B nh d]] rfl (fun w => ?_) (fun w he hF => ?_) ?_
  · go_simp
  · exact (Hcr.out w (show Ext w7 w from he)).mono fun e w'' ⟨he', hx⟩ => ⟨_, he', hx, And.intro (fun h => by cases h) (And.intro (fun h => by cases h) (fun _ => rfl))⟩
  rintro _ _ _ ⟨_, _, h⟩
  cases h rfl
  simp only [Act.put, List.setIfInBounds_toArray, List.set_cons_succ, List.set_cons_zero]
  refine calm_quiet calm_mono_final 2 (by kernel_rfl) ?_
  simp only [List.take_succ_cons, List.take_zero, List.drop_succ_cons, List.drop_zero]
  repeat (go_big_quiet_step (fail))
  refine wpQuiet_nil ?_
  refine calm_nil fun w8 he8 _ => ?_
  have he8 : Ext w7 w8 := he8
  replace l0 : ∀ w', Ext w8 w' → _ := fun w' he => l0 w' (he8.trans he)
  replace l1 : ∀ w', Ext w8 w' → _ := fun w' he => l1 w' (he8.trans he)
  replace a0 : ∀ w', Ext w8 w' → _ := fun w' he => a0 w' (he8.trans he)
  replace a1 : ∀ w', Ext w8 w' → _ := fun w' he => a1 w' (he8.trans he)
  replace b0 : ∀ w', Ext w8 w' → _ := fun w' he => b0 w' (he8.trans he)
  replace b1 : ∀ w', Ext w8 w' → _ := fun w' he => b1 w' (he8.trans he)
  replace o0 : ∀ w', Ext w8 w' → _ := fun w' he => o0 w' (he8.trans he)
  replace o1 : ∀ w', Ext w8 w' → _ := fun w' he => o1 w' (he8.trans he)
  have Hw8 := Lib.hid (Hw7.out.trans he8)
  have Hlk8 := Lib.hid (Hlk7.out.ext he8)
  clear he8 Hsp Hck Hcr Hw7 Hlk7
  have L0 := Lib.hid l0
  have L1 := Lib.hid l1
  have A0 := Lib.hid a0
  have A1' := Lib.hid a1
  have B0 := Lib.hid b0
  have B1' := Lib.hid b1
  have O0 := Lib.hid o0
  have O1 := Lib.hid o1
  go_wp2_with (first
    | (go_at_call 32; refine (Hcs.out _ _ _ _ _ Hlk8.out).mono ?_; rintro e w9 ⟨X3, c3, rfl, ho3, hx9⟩; replace l0 : ∀ w', Ext w9 w' → _ := fun w' he => l0 w' (hx9.trans he); replace l1 : ∀ w', Ext w9 w' → _ := fun w' he => l1 w' (hx9.trans he); replace a0 : ∀ w', Ext w9 w' → _ := fun w' he => a0 w' (hx9.trans he); replace a1 : ∀ w', Ext w9 w' → _ := fun w' he => a1 w' (hx9.trans he); replace b0 : ∀ w', Ext w9 w' → _ := fun w' he => b0 w' (hx9.trans he); replace b1 : ∀ w', Ext w9 w' → _ := fun w' he => b1 w' (hx9.trans he); replace o0 : ∀ w', Ext w9 w' → _ := fun w' he => o0 w' (hx9.trans he); replace o1 : ∀ w', Ext w9 w' → _ := fun w' he => o1 w' (hx9.trans he))
    | (go_at_call 33; refine (Hct.out _ (Hw8.out.trans hx9)).mono ?_; rintro e w10 ⟨X4, c4, rfl, hr4, hx10⟩; replace l0 : ∀ w', Ext w10 w' → _ := fun w' he => l0 w' (hx10.trans he); replace l1 : ∀ w', Ext w10 w' → _ := fun w' he => l1 w' (hx10.trans he); replace a0 : ∀ w', Ext w10 w' → _ := fun w' he => a0 w' (hx10.trans he); replace a1 : ∀ w', Ext w10 w' → _ := fun w' he => a1 w' (hx10.trans he); replace b0 : ∀ w', Ext w10 w' → _ := fun w' he => b0 w' (hx10.trans he); replace b1 : ∀ w', Ext w10 w' → _ := fun w' he => b1 w' (hx10.trans he); replace o0 : ∀ w', Ext w10 w' → _ := fun w' he => o0 w' (hx10.trans he); replace o1 : ∀ w', Ext w10 w' → _ := fun w' he => o1 w' (hx10.trans he))
    | (go_at_call 34; refine (Hss.out X3 X4 c3 c4 _ (Row.ext ho3.row hx10) hr4).mono ?_; rintro e w11 ⟨rfl, hx11⟩; replace l0 : ∀ w', Ext w11 w' → _ := fun w' he => l0 w' (hx11.trans he); replace l1 : ∀ w', Ext w11 w' → _ := fun w' he => l1 w' (hx11.trans he); replace a0 : ∀ w', Ext w11 w' → _ := fun w' he => a0 w' (hx11.trans he); replace a1 : ∀ w', Ext w11 w' → _ := fun w' he => a1 w' (hx11.trans he); replace b0 : ∀ w', Ext w11 w' → _ := fun w' he => b0 w' (hx11.trans he); replace b1 : ∀ w', Ext w11 w' → _ := fun w' he => b1 w' (hx11.trans he); replace o0 : ∀ w', Ext w11 w' → _ := fun w' he => o0 w' (hx11.trans he); replace o1 : ∀ w', Ext w11 w' → _ := fun w' he => o1 w' (hx11.trans he)))
  have hx8 := (hx9.trans hx10).trans hx11
  have ho11 : Own w8 w11 27 2 (.slice X3 N c3) N Z := (ho3.later hx10).later hx11
  have hzv := Hcv.out
  clear ho3 hr4 hx9 hx10 hx11 Hcs Hct Hss Hcv l0 l1 a0 a1 b0 b1 o0 o1 hx8
  go_loopw [133] (fun i wr => ∃ (k : Nat) (xs : List Value), k ≤ N ∧ i = .int .i64 k ∧ Own w8 wr 27 2 (.slice X3 N c3) N xs ∧ ∀ v ∈ xs, ∃ z, v = .int .i64 z) (fun i _ => N - (intOf i).toNat)
  case atStart => exact ⟨0, Z, by omega, rfl, ho11, hzv⟩
  case round =>
    clear ho11 hzv
    obtain ⟨k, xs, hk, rfl, hown, hxs⟩ := hrel
    by_cases hlt : k < N
    · obtain ⟨g, cg, ee, _, _⟩ := hown.at_ (by omega)
      injection ee with ee _ _
      subst ee
      have hlen := hown.len
      have hkx : k * 2 < xs.length := by omega
      obtain ⟨z, hz⟩ := hxs _ (List.getElem_mem hkx)
      have e0 : wr.cell? ⟨g, k * 2, none⟩ = some (.int .i64 z) := by
        rw [hown.cell (j := k * 2) hkx, List.getElem?_eq_getElem hkx, hz]
      have hf := hown.free
      have hown2 := hown.store (k * 2) (.int .i64 (wrap64 (z + 1)))
      have hxs2 : ∀ v ∈ xs.set (k * 2) (.int .i64 (wrap64 (z + 1))), ∃ z, v = .int .i64 z := fun v hv => by
        rcases List.mem_or_eq_of_mem_set hv with h | h
        · exact hxs v h
        · exact ⟨_, h⟩
      have H2 := Lib.hid (And.intro hown2 hxs2)
      have hkn : (k : Int) < (N : Int) := by omega
      clear hown2 hxs2 hown hxs hz hlen Hsl Hga Hgb Hlk8 Hw8 L0 L1 A0 A1' B0 B1' O0 O1
      go_wp2
      go_roundw
      case rel => exact ⟨k + 1, _, by omega, by go_num, H2.out.1, H2.out.2⟩
      case measure => simp [intOf]; omega
    · obtain rfl : N = k := by omega
      have hex := hown.ext
      have l0 : ∀ w', Ext wr w' → _ := fun w' he => L0.out w' (hex.trans he)
      have l1 : ∀ w', Ext wr w' → _ := fun w' he => L1.out w' (hex.trans he)
      have a0 : ∀ w', Ext wr w' → _ := fun w' he => A0.out w' (hex.trans he)
      have a1 : ∀ w', Ext wr w' → _ := fun w' he => A1'.out w' (hex.trans he)
      have b0 : ∀ w', Ext wr w' → _ := fun w' he => B0.out w' (hex.trans he)
      have b1 : ∀ w', Ext wr w' → _ := fun w' he => B1'.out w' (hex.trans he)
      have o0 : ∀ w', Ext wr w' → _ := fun w' he => O0.out w' (hex.trans he)
      have o1 : ∀ w', Ext wr w' → _ := fun w' he => O1.out w' (hex.trans he)
      have Hlk9 := Lib.hid (Hlk8.out.ext hex)
      have Hw9 := Lib.hid (Hw8.out.trans hex)
      clear hown hxs Hlk8 Hw8 L0 L1 A0 A1' B0 B1' O0 O1 hex
      go_wp2_with (first
        | (go_at_call 35; refine (Hga.out _ _ _ _ _ Hlk9.out).mono ?_; rintro e w12 ⟨rfl, hx12⟩; replace l0 : ∀ w', Ext w12 w' → _ := fun w' he => l0 w' (hx12.trans he); replace l1 : ∀ w', Ext w12 w' → _ := fun w' he => l1 w' (hx12.trans he); replace a0 : ∀ w', Ext w12 w' → _ := fun w' he => a0 w' (hx12.trans he); replace a1 : ∀ w', Ext w12 w' → _ := fun w' he => a1 w' (hx12.trans he); replace b0 : ∀ w', Ext w12 w' → _ := fun w' he => b0 w' (hx12.trans he); replace b1 : ∀ w', Ext w12 w' → _ := fun w' he => b1 w' (hx12.trans he); replace o0 : ∀ w', Ext w12 w' → _ := fun w' he => o0 w' (hx12.trans he); replace o1 : ∀ w', Ext w12 w' → _ := fun w' he => o1 w' (hx12.trans he))
        | (go_at_call 36; refine (Hgb.out _ (Hw9.out.trans hx12)).mono ?_; rintro e w13 ⟨rfl, hx13⟩; replace l0 : ∀ w', Ext w13 w' → _ := fun w' he => l0 w' (hx13.trans he); replace l1 : ∀ w', Ext w13 w' → _ := fun w' he => l1 w' (hx13.trans he); replace a0 : ∀ w', Ext w13 w' → _ := fun w' he => a0 w' (hx13.trans he); replace a1 : ∀ w', Ext w13 w' → _ := fun w' he => a1 w' (hx13.trans he); replace b0 : ∀ w', Ext w13 w' → _ := fun w' he => b0 w' (hx13.trans he); replace b1 : ∀ w', Ext w13 w' → _ := fun w' he => b1 w' (hx13.trans he); replace o0 : ∀ w', Ext w13 w' → _ := fun w' he => o0 w' (hx13.trans he); replace o1 : ∀ w', Ext w13 w' → _ := fun w' he => o1 w' (hx13.trans he))
        | (go_at_call 22; refine (Hsl.out _ _ _ _ _ ((Hlk9.out.ext hx12).ext hx13) ((Hw9.out.trans hx12).trans hx13)).mono ?_; rintro e w14 ⟨rfl, hx14⟩))
      go_ret
      exact ⟨rfl, ((Hw9.out.trans hx12).trans hx13).trans hx14⟩
theorem poses_law (n : Int) (P : Option Addr) (pc : Nat) (p : List Sp) (A : Option Addr) (c : Nat) (ps : List (List Sp)) (B : Option Addr) (d : Nat) (hs : List Hg) (x : Int) (a b : Sp) (w : World) (hp : SRow w P p) (hA : PnRow w A ps) (hB : HRow w B hs) :
    Calls Try.prog 4 #[.int .i64 n, .slice P p.length pc, .agg #[.slice A ps.length c, .slice B hs.length d], .int .i64 x, a.val, b.val] w fun e w' => e = .returned (.bool true) ∧ Ext w w' := by
  by_cases h : greatP ps hs ∨ 20 < p.length
  · exact poses_law_out n P pc p A c ps B d hs x a b w hp hA hB h
  · exact poses_law_in n P pc p A c ps B d hs x a b w hp hA hB (fun h' => h (.inl h')) (by omega)
end Go.Proofs.Yteilglljigjefaa
