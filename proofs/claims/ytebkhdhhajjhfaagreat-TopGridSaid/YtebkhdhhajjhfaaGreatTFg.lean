/- Compose, quarters; the law TopGrid's walk. -/
import Derived.Test.YtebkhdhhajjhfaaGreatTFf
import Derived.Test.YtebkhdhhajjhfaaGreatT34
import Derived.Test.YtebkhdhhajjhfaaGreatT24
namespace Go.Proofs.YtebkhdhhajjhfaaGreat.Lt
open Go.RowKit
set_option maxRecDepth 100000 in
set_option maxHeartbeats 1000000 in
theorem composeo_any (a b : Nat) (ha : a < 4) (hb : b < 4) (w : World) : Calls Tryz.prog 22 #[.int .i64 a, .int .i64 b] w fun e w' => e = .returned (.tuple #[.int .i64 ((a + b) % 4 : Nat), .int .i64 0]) ∧ Ext w w' := by
  have h2 := fun w' (g : Nat) (h : Ints w' (some ⟨g, 0, none⟩) [(a : Int), (b : Int)]) => isturn_any (some ⟨g, 0, none⟩) 2 [(a : Int), (b : Int)] w' h (by simp)
  have h3 := fun w' => compose_any a b ha hb w'
  rw [show turnsB [(a : Int), (b : Int)] = true by simp [turnsB]; omega] at h2
  have H2 := Lib.hid h2
  have H3 := Lib.hid h3
  clear h2 h3
  generalize (a + b) % 4 = m at *
  go_enter Tryz.func22, Tryz.ntmps22
  go_wp2_with (first
    | (go_at_call 58; refine (H2.out _ _ (Gr.row_alloc w #[.int .i64 a, .int .i64 b] 3)).mono ?_; rintro e w2 ⟨rfl, hx2⟩; have K2 := Lib.hid (((Ext.refl w).alloc (.cells #[.int .i64 a, .int .i64 b] 3)).trans hx2); clear hx2)
    | (go_at_call 62; refine (H3.out _).mono ?_; rintro e w3 ⟨rfl, hx3⟩; have K3 := Lib.hid (K2.out.trans hx3); clear hx3))
  go_ret2
  exact ⟨rfl, K3.out⟩
set_option maxRecDepth 100000 in
theorem quarters_any (n : Nat) (w : World) (hn : n < 4) : Calls Tryz.prog 23 #[.int .i64 n] w fun e w' => e = .returned (.int .i64 (quart n : Nat)) ∧ Ext w w' := by
  have hb : Blk (w.alloc (.cells #[.int .i64 2, .int .i64 3, .int .i64 1, .int .i64 0] 3)) w.heap.size [.int .i64 2, .int .i64 3, .int .i64 1, .int .i64 0] := Blk.new _ _
  have hv : (w.alloc (.cells #[.int .i64 2, .int .i64 3, .int .i64 1, .int .i64 0] 3)).cell? ⟨w.heap.size, n, none⟩ = some (.int .i64 (quart n : Nat)) := by
    refine hb.c n _ ?_
    rcases t_cases hn with rfl | rfl | rfl | rfl <;> rfl
  have ht4 : (n : Int) < 4 := by omega
  clear hb hn
  generalize quart n = q at *
  go_enter Tryz.func23, Tryz.ntmps23
  go_wp2
  go_ret
  exact ⟨rfl, (Ext.refl w).alloc _⟩
theorem gP_bound {hs : List Hg} (hh : ∀ h ∈ hs, hingeB h) : ∀ k, k ≤ hs.length → (-(100 * (k : Int)) ≤ (gP hs k).x ∧ (gP hs k).x ≤ 100 * k) ∧ -(100 * (k : Int)) ≤ (gP hs k).y ∧ (gP hs k).y ≤ 100 * k
  | 0, _ => by simp [gP]
  | k + 1, hk => by
    obtain ⟨⟨h1, h2⟩, h3, h4⟩ := gP_bound hh k (by omega)
    have hb := hh _ (List.getElem_mem (show k < hs.length by omega))
    rw [← hgA_at (show k < hs.length by omega)] at hb
    obtain ⟨⟨a1, a2⟩, a3, a4⟩ := rotS_near hb.1 (gT_lt hs k)
    obtain ⟨⟨b1, b2⟩, b3, b4⟩ := rotS_near hb.2.1 (gT_lt hs (k + 1))
    show (_ ≤ (gP hs k).x + (rotS (gT hs k) (hgA hs k).a).x - (rotS (gT hs (k + 1)) (hgA hs k).b).x ∧ (gP hs k).x + (rotS (gT hs k) (hgA hs k).a).x - (rotS (gT hs (k + 1)) (hgA hs k).b).x ≤ _) ∧ _ ≤ (gP hs k).y + (rotS (gT hs k) (hgA hs k).a).y - (rotS (gT hs (k + 1)) (hgA hs k).b).y ∧ (gP hs k).y + (rotS (gT hs k) (hgA hs k).a).y - (rotS (gT hs (k + 1)) (hgA hs k).b).y ≤ _
    omega
/-- What a round of the law has at hand. -/
structure Rnd (ax ay bx by' ang : Int) (m q t u : Nat) (px py qx qy rx ry sx sy c s : Int) : Prop where
  ang : ang = m
  m4 : m < 4
  q4 : q < 4
  t4 : t < 4
  u4 : u < 4
  hq : quart m = q
  tu : (t + q) % 4 = u
  a : turnC ⟨ax, ay, 0⟩ t = ⟨px, py, 0⟩
  b : turnC ⟨bx, by', 0⟩ u = ⟨qx, qy, 0⟩
  o : turnC ⟨1, 0, 0⟩ u = ⟨c, s, 0⟩
  x : rx + px - qx = sx
  y : ry + py - qy = sy
  ha : (-50 ≤ ax ∧ ax ≤ 50) ∧ -50 ≤ ay ∧ ay ≤ 50
  hb : (-50 ≤ bx ∧ bx ≤ 50) ∧ -50 ≤ by' ∧ by' ≤ 50
  hp : (-50 ≤ px ∧ px ≤ 50) ∧ -50 ≤ py ∧ py ≤ 50
  hqq : (-50 ≤ qx ∧ qx ≤ 50) ∧ -50 ≤ qy ∧ qy ≤ 50
  hr : (-1000 ≤ rx ∧ rx ≤ 1000) ∧ -1000 ≤ ry ∧ ry ≤ 1000
theorem rnd_of {ps : List (List Sp)} {hs : List Hg} (hl : linkP ps hs) (hang : ∀ j, j < hs.length → 0 ≤ (hgA hs j).ang ∧ (hgA hs j).ang ≤ 3) {k : Nat} (hk : k < hs.length) :
    Rnd (hgA hs k).a.x (hgA hs k).a.y (hgA hs k).b.x (hgA hs k).b.y (hgA hs k).ang (hgA hs k).ang.toNat (quart (hgA hs k).ang) (gT hs k) (gT hs (k + 1)) (rotS (gT hs k) (hgA hs k).a).x (rotS (gT hs k) (hgA hs k).a).y (rotS (gT hs (k + 1)) (hgA hs k).b).x (rotS (gT hs (k + 1)) (hgA hs k).b).y (gP hs k).x (gP hs k).y (gP hs (k + 1)).x (gP hs (k + 1)).y (cosT (gT hs (k + 1))) (sinT (gT hs (k + 1))) := by
  have hb := hl.hinges _ (List.getElem_mem hk)
  rw [← hgA_at hk] at hb
  have h3 := hl.nh
  obtain ⟨⟨g1, g2⟩, g3, g4⟩ := gP_bound hl.hinges k (by omega)
  have ha := hang k hk
  exact ⟨by omega, by omega, quart_lt _, gT_lt _ _, gT_lt _ _, by rw [show ((hgA hs k).ang.toNat : Int) = (hgA hs k).ang by omega], rfl, turnC_flat (gT_lt _ _) _, turnC_flat (gT_lt _ _) _, turnC_one (gT_lt _ _), rfl, rfl, hb.1, hb.2.1, rotS_near hb.1 (gT_lt _ _), rotS_near hb.2.1 (gT_lt _ _), by omega⟩
theorem psA_grid {hs : List Hg} (hang : ∀ j, j < hs.length → 0 ≤ (hgA hs j).ang ∧ (hgA hs j).ang ≤ 3) {k : Nat} (hk : k ≤ hs.length) : psA (posesL hs) k = ⟨cosT (gT hs k), sinT (gT hs k), (gP hs k).x, (gP hs k).y, 1⟩ := by
  rw [psA_at (by rw [posesL_len]; omega), posesL_at, grid_pose (fun h hh => ?_) k hk]
  obtain ⟨j, hj, rfl⟩ := List.getElem_of_mem hh
  have := hang j hj
  rwa [hgA_at hj] at this
end Go.Proofs.YtebkhdhhajjhfaaGreat.Lt
