/- What a free way is. -/
import Derived.Test.YtebkhdhhajjhfaaGreatU33
namespace Go.Proofs.YtebkhdhhajjhfaaGreat.Lt
open Go Go.RowKit
/-- A cell, n steps back along d. -/
def farC (c : Ce) (d n : Nat) : Ce := ⟨c.x + n * (backC d).x, c.y + n * (backC d).y, c.z + n * (backC d).z⟩
theorem farC_zero (c : Ce) (d : Nat) : farC c d 0 = c := by simp [farC]
theorem farC_step (c : Ce) (d n : Nat) : farC c d (n + 1) = ⟨(farC c d n).x + (backC d).x, (farC c d n).y + (backC d).y, (farC c d n).z + (backC d).z⟩ := by
  simp only [farC, Ce.mk.injEq]
  have : ∀ b : Int, ((n + 1 : Nat) : Int) * b = n * b + b := fun b => by rw [Int.natCast_add, Int.add_mul]; simp
  simp only [this]
  omega
theorem backC_near (d : Nat) : nearP (backC d) (-1) 1 := by
  have := stepC_near d
  unfold nearP backC at *
  simp only
  omega
theorem farC_near {c : Ce} {d n : Nat} (h : nearP c (-2000) 2000) (hn : n ≤ 64) : nearP (farC c d n) (-2064) 2064 := by
  have h1 := backC_near d
  unfold nearP farC at *
  simp only
  have key : ∀ b : Int, -1 ≤ b → b ≤ 1 → -64 ≤ (n : Int) * b ∧ (n : Int) * b ≤ 64 := fun b h1 h2 => by
    have : b = -1 ∨ b = 0 ∨ b = 1 := by omega
    rcases this with rfl | rfl | rfl <;> omega
  have kx := key (backC d).x (by omega) (by omega)
  have ky := key (backC d).y (by omega) (by omega)
  have kz := key (backC d).z (by omega) (by omega)
  omega
/-- A cell that may be passed: not below the table, in no brick of the choice. -/
def passP (CL : List (List Ce)) (m : Nat) (gr : Int) (S : Nat) (c : Ce) : Prop := gr ≤ c.z ∧ ∀ i, i < m → c ∈ klA CL i → S.testBit i = false
/-- The brick's way back along d is free. -/
def freeP (CL : List (List Ce)) (m : Nat) (gr : Int) (S b d : Nat) : Prop := ∀ t, t < (klA CL b).length → ∀ n, 1 ≤ n → n ≤ 64 → passP CL m gr S (farC (ceA (klA CL b) t) d n)
end Go.Proofs.YtebkhdhhajjhfaaGreat.Lt

/- free: whether a brick's way back is free. -/
namespace Go.Proofs.YtebkhdhhajjhfaaGreat.Lt
open Go Go.RowKit
def FreeRes (P Z : Prop) (w : World) (e : Ending) (w' : World) : Prop := ∃ v : Bool, e = .returned (.bool v) ∧ Ext w w' ∧ (v = true → P) ∧ (Z → P → v = true)
theorem FreeRes.no {P Z : Prop} {w w' : World} (he : Ext w w') (h : Z → P → False) : FreeRes P Z w (.returned (.bool false)) w' := ⟨false, rfl, he, fun e => (by cases e), fun z p => (h z p).elim⟩
theorem FreeRes.yes {P Z : Prop} {w w' : World} (he : Ext w w') (h : P) : FreeRes P Z w (.returned (.bool true)) w' := ⟨true, rfl, he, fun _ => h, fun _ _ => rfl⟩
/-- The word at place i of six. -/
def six (S0 S1 S2 S3 S4 S5 : Nat) (i : Nat) : Nat := match i with
  | 0 => S0
  | 1 => S1
  | 2 => S2
  | 3 => S3
  | 4 => S4
  | _ => S5
theorem idx_six (S0 S1 S2 S3 S4 S5 i : Nat) (hi : i < 6) (w : World) : (Instr.index 164 (.agg #[.int .u64 S0, .int .u64 S1, .int .u64 S2, .int .u64 S3, .int .u64 S4, .int .u64 S5]) (.int .i64 i)).run Tryz.prog w = .ok (.int .u64 (six S0 S1 S2 S3 S4 S5 i)) w := by
  rcases six_cases hi with rfl | rfl | rfl | rfl | rfl | rfl <;> kernel_rfl
set_option maxRecDepth 100000 in
set_option maxHeartbeats 4000000 in
theorem free_any (CL : List (List Ce)) (m : Nat) (gr : Int) (NK : Prop) (S b d : Nat) (w0 w : World) (p : Value) (hP : Plan CL m gr NK w0 w p) (hlen : CL.length = m) (hm : m ≤ 40) (hb : b < m) (hd : d < 6) (hS : S < 2 ^ 64) (hcl : ∀ i, i < m → (klA CL i).length ≤ 24) (hnr : ∀ i, i < m → ∀ t, t < (klA CL i).length → nearP (ceA (klA CL i) t) (-2000) 2000) (hun : ∀ i j c, i < m → j < m → c ∈ klA CL i → c ∈ klA CL j → i = j) :
    Calls Tryz.prog 67 #[p, .int .u64 S, .int .i64 b, .int .i64 d] w (FreeRes (freeP CL m gr S b d) NK w) := by
  obtain ⟨gb, gm, gj, u, SL, rfl, c2, c4, c5, c6, hT, hC, hJ, hz⟩ := hP
  have hsl := hJ.len
  have hS6 : ∀ j, j < 6 → ∃ s, SL.getD (b * 6 + j) 0 = s ∧ (∀ w', Ext w w' → w'.cell? ⟨gj, b * 6 + j, none⟩ = some (.int .u64 (s : Nat))) ∧ s < 2 ^ 64 ∧ (NK → s = 0) := fun j hj => ⟨_, rfl, fun w' he => he.cell (hJ.cell (by omega)), hJ.lt _, fun hnk => by
    rw [hz hnk]
    simp [List.getD, List.getElem?_replicate]
    split <;> rfl⟩
  obtain ⟨s0, _, d0, l0, n0⟩ := hS6 0 (by omega)
  obtain ⟨s1, _, d1, l1, n1⟩ := hS6 1 (by omega)
  obtain ⟨s2, _, d2, l2, n2⟩ := hS6 2 (by omega)
  obtain ⟨s3, _, d3, l3, n3⟩ := hS6 3 (by omega)
  obtain ⟨s4, _, d4, l4, n4⟩ := hS6 4 (by omega)
  obtain ⟨s5, _, d5, l5, n5⟩ := hS6 5 (by omega)
  have Hsix := Lib.hid (show ∀ i, i < 6 → six s0 s1 s2 s3 s4 s5 i < 2 ^ 64 ∧ (NK → six s0 s1 s2 s3 s4 s5 i = 0) from fun i hi => by
    rcases six_cases hi with rfl | rfl | rfl | rfl | rfl | rfl
    · exact ⟨l0, n0⟩
    · exact ⟨l1, n1⟩
    · exact ⟨l2, n2⟩
    · exact ⟨l3, n3⟩
    · exact ⟨l4, n4⟩
    · exact ⟨l5, n5⟩)
  have Hidx := Lib.hid (fun i hi w' => idx_six s0 s1 s2 s3 s4 s5 i hi w')
  generalize six s0 s1 s2 s3 s4 s5 = sx at *
  have ha := add_zero' gj (b * 6)
  have hbm : (b : Int) < (m : Int) := by omega
  clear hS6 l0 l1 l2 l3 l4 l5 n0 n1 n2 n3 n4 n5 hsl hz
  rw [Nat.add_zero] at d0
  go_enter Tryz.func67, Tryz.ntmps67
  go_wp2
  go_loopw [23] (fun i wr => ∃ k : Nat, k ≤ 6 ∧ i = .int .i64 k ∧ Ext w wr) (fun i _ => 6 - (intOf i).toNat)
  case atStart => exact ⟨0, by omega, rfl, Ext.refl _⟩
  case round =>
    clear d0 d1 d2 d3 d4 d5 ha
    obtain ⟨k, hk, rfl, hex⟩ := hrel
    by_cases hlt : k < 6
    · have hi := Hidx.out k hlt
      obtain ⟨h64, hz⟩ := Hsix.out k hlt
      have hki : (k : Int) < 6 := by omega
      have hw1 : IntKind.i64.wrap ((k : Int) + 1) = ((k + 1 : Nat) : Int) := by rw [IntKind.wrap_i64]; omega
      generalize sx k = s at hi h64 hz
      have Hz := Lib.hid (show (bits .and .u64 (s : Int) (S : Int) != 0) = true → NK → False from fun h hnk => by
        have e := hz hnk
        subst e
        have := bits_and_u64_nat 0 S (by omega) hS
        rw [Nat.zero_and] at this
        rw [this] at h
        cases h)
      clear hz h64 Hidx Hsix c2 c4 c5 c6
      cases hkd : ((k : Int) != (d : Int)) with
      | false =>
        go_wp2
        go_roundw
        case rel => exact ⟨k + 1, by omega, by go_num, hex⟩
        case measure => simp [intOf]; omega
      | true =>
        cases hbt : (bits .and .u64 (s : Int) (S : Int) != 0) with
        | false =>
          go_wp2
          go_roundw
          case rel => exact ⟨k + 1, by omega, by go_num, hex⟩
          case measure => simp [intOf]; omega
        | true =>
          have HB := Lib.hid (Hz.out hbt)
          clear Hz
          go_wp2
          go_ret
          exact FreeRes.no hex (fun z _ => HB.out z)
    · obtain rfl : k = 6 := by omega
      clear Hidx Hsix
      obtain ⟨U, uc, rfl⟩ := hT.form
      rw [hlen] at c4
      obtain ⟨ad, c2', g, gc, e, hcell, hO⟩ := hT.get (show b < CL.length by omega)
      obtain rfl : U = some ad := by simp only [Value.slice.injEq] at e; exact e.1
      clear e c2'
      have hrow : CeRow w (some ⟨g, 0, none⟩) (klA CL b) := hO.row
      have hbk := fun w' => back_any d hd w'
      have hL24 := hcl b hb
      have Hnr := Lib.hid (hnr b hb)
      have Hrow := Lib.hid hrow
      obtain ⟨⟨bx, by_, bz⟩, hbE⟩ : ∃ q, backC d = q := ⟨_, rfl⟩
      have hbn := backC_near d
      rw [hbE] at hbk hbn
      have Hbk := Lib.hid hbk
      have HbE := Lib.hid hbE
      have Hbn := Lib.hid hbn
      obtain ⟨L, hL⟩ : ∃ L, L = (klA CL b).length := ⟨_, rfl⟩
      rw [← hL] at hcell hL24 Hnr
      have HL := Lib.hid hL
      have HC := Lib.hid hC
      have Hun := Lib.hid hun
      have Hlen := Lib.hid hlen
      have z4 := fun w' he => c4 w' (hex.trans he)
      have zc := fun w' he => hcell w' (hex.trans he)
      have C2 := Lib.hid (fun w' he => c2 w' (hex.trans he))
      have C5 := Lib.hid (fun w' he => c5 w' (hex.trans he))
      have Hex := Lib.hid hex
      clear hT hO hrow hbk hbn hbE hL hC hun hlen hnr hcl c2 c4 c5 c6 hcell hex hJ
      go_wp2_with (go_at_call 99; refine (Hbk.out _).mono ?_; rintro e w2 ⟨rfl, hx2⟩; have hx3 := hx2.trans ((Ext.refl w2).alloc (.cells #[.int .i64 bx, .int .i64 by_, .int .i64 bz] 60)); have y4 := fun w' he => z4 w' (hx3.trans he); have yc := fun w' he => zc w' (hx3.trans he); have Hx3 := Lib.hid hx3; clear z4 zc hx3 hx2)
      obtain ⟨g11, hg11⟩ : ∃ g11, g11 = w2.heap.size := ⟨_, rfl⟩
      have hk3 : Blk (w2.alloc (.cells #[.int .i64 bx, .int .i64 by_, .int .i64 bz] 60)) w2.heap.size [.int .i64 bx, .int .i64 by_, .int .i64 bz] := Blk.new _ _
      rw [← hg11] at hk3 ⊢
      generalize (w2.alloc (.cells #[.int .i64 bx, .int .i64 by_, .int .i64 bz] 60)) = w3 at *
      have HK3 := Lib.hid hk3
      clear hg11 hk3 y4 yc Hbk
      go_loopw [47] (fun i wr => ∃ t : Nat, t ≤ L ∧ i = .int .i64 t ∧ Ext w3 wr ∧ Hid (∀ t', t' < t → ∀ n, 1 ≤ n → n ≤ 64 → passP CL m gr S (farC (ceA (klA CL b) t') d n))) (fun i _ => L - (intOf i).toNat)
      case atStart => exact ⟨0, by omega, rfl, Ext.refl _, Lib.hid (fun t' h => absurd h (by omega))⟩
      case round =>
        obtain ⟨wo, rfl⟩ : ∃ wo : World, wo = wr := ⟨_, rfl⟩
        obtain ⟨t, ht, rfl, hx, Hall⟩ := hrel
        by_cases hlt2 : t < L
        · have hti : (t : Int) < (L : Int) := by omega
          have htk : t < (klA CL b).length := by rw [← HL.out]; exact hlt2
          have hx0 := (Hex.out.trans Hx3.out).trans hx
          obtain ⟨_, ee, y0, y1, y2⟩ := (Hrow.out.ext hx0).at_ htk
          cases ee
          simp only [add_zero'] at y0 y1 y2
          have hn2 := Hnr.out t hlt2
          obtain ⟨C, hCE⟩ : ∃ q, ceA (klA CL b) t = q := ⟨_, rfl⟩
          rw [hCE] at y0 y1 y2 hn2
          have HCE := Lib.hid hCE
          have Hn2 := Lib.hid hn2
          have hw2 : IntKind.i64.wrap ((t : Int) + 1) = ((t + 1 : Nat) : Int) := by rw [IntKind.wrap_i64]; omega
          have HO4 := Lib.hid (show Own wo (wo.alloc (.cells #[.int .i64 C.x, .int .i64 C.y, .int .i64 C.z] 60)) 60 3 (.slice (some ⟨wo.heap.size, 0, none⟩) 1 1) 1 [.int .i64 (farC C d 0).x, .int .i64 (farC C d 0).y, .int .i64 (farC C d 0).z] from by
            rw [farC_zero]
            exact Own.lit (e := 60) (size := 3) (Ext.refl wo) #[.int .i64 C.x, .int .i64 C.y, .int .i64 C.z] 1 (by unfold maxLen; omega) rfl)
          have Hx := Lib.hid hx
          clear hx0 hn2 hCE hx htk
          go_wp2
          obtain ⟨g13, hg13⟩ : ∃ g13, g13 = wo.heap.size := ⟨_, rfl⟩
          rw [← hg13] at HO4 ⊢
          clear hg13 y0 y1 y2
          go_loopw [51] (fun i wr => ∃ n : Nat, n ≤ 64 ∧ i = .int .i64 n ∧ Own wo wr 60 3 (.slice (some ⟨g13, 0, none⟩) 1 1) 1 [.int .i64 (farC C d n).x, .int .i64 (farC C d n).y, .int .i64 (farC C d n).z] ∧ Hid (∀ n', 1 ≤ n' → n' ≤ n → passP CL m gr S (farC C d n'))) (fun i _ => 64 - (intOf i).toNat)
          case atStart => exact ⟨0, by omega, rfl, HO4.out, Lib.hid (fun n' h1 h2 => absurd h1 (by omega))⟩
          case round =>
            clear HO4
            obtain ⟨n, hn, rfl, hO, Hps⟩ := hrel
            by_cases hlt3 : n < 64
            · have hni : (n : Int) < 64 := by omega
              have hw3 : IntKind.i64.wrap ((n : Int) + 1) = ((n + 1 : Nat) : Int) := by rw [IntKind.wrap_i64]; omega
              have hfn := farC_near (d := d) (n := n) Hn2.out (by omega)
              have hf1 := farC_near (d := d) (n := n + 1) Hn2.out (by omega)
              have hst := farC_step C d n
              rw [HbE.out] at hst
              obtain ⟨⟨fx, fy, fz⟩, hfE⟩ : ∃ q, farC C d n = q := ⟨_, rfl⟩
              rw [hfE] at hO hfn hst
              simp only at hO hst
              have hbn := Hbn.out
              have e1 : IntKind.i64.wrap (fx + bx) = fx + bx := by rw [IntKind.wrap_i64]; unfold nearP at *; simp only at *; omega
              have e2 : IntKind.i64.wrap (fy + by_) = fy + by_ := by rw [IntKind.wrap_i64]; unfold nearP at *; simp only at *; omega
              have e3 : IntKind.i64.wrap (fz + bz) = fz + bz := by rw [IntKind.wrap_i64]; unfold nearP at *; simp only at *; omega
              rw [hst] at hf1
              have hxw := Hx.out.trans hO.ext
              have k0 := (HK3.out.at_ 0 rfl) wr hxw
              have k1 := (HK3.out.at_ 1 rfl) wr hxw
              have k2 := (HK3.out.at_ 2 rfl) wr hxw
              have c0 := hO.cell (j := 0) (by simp)
              have c1 := hO.cell (j := 1) (by simp)
              have c2 := hO.cell (j := 2) (by simp)
              simp only [List.getElem?_cons_succ, List.getElem?_cons_zero] at c0 c1 c2
              have f0 := hO.free 0
              have f1 := hO.free 1
              have f2 := hO.free 2
              have HO5 := Lib.hid (((hO.store 0 (.int .i64 (fx + bx))).store 1 (.int .i64 (fy + by_))).store 2 (.int .i64 (fz + bz)))
              have Hst := Lib.hid hst
              have Hf1 := Lib.hid hf1
              clear hO hfn hst hbn hxw hf1 hfE
              go_wp2
              obtain ⟨w5, hw5⟩ : ∃ w5, w5 = (((wr.setCell ⟨g13, 0, none⟩ (.int .i64 (fx + bx))).setCell ⟨g13, 1, none⟩ (.int .i64 (fy + by_))).setCell ⟨g13, 2, none⟩ (.int .i64 (fz + bz))) := ⟨_, rfl⟩
              rw [← hw5] at HO5 ⊢
              simp only [List.set_cons_succ, List.set_cons_zero] at HO5
              clear hw5 c0 c1 c2 f0 f1 f2 k0 k1 k2 e1 e2 e3
              generalize fx + bx = X at *
              generalize fy + by_ = Y at *
              generalize fz + bz = Z at *
              have hx5 := Hx3.out.trans (Hx.out.trans HO5.out.ext)
              have j5 := fun w' he => C5.out w' (hx5.trans he)
              have j2 := fun w' he => C2.out w' (hx5.trans he)
              have q0 := HO5.out.cell (j := 0) (by simp)
              have q1 := HO5.out.cell (j := 1) (by simp)
              have q2 := HO5.out.cell (j := 2) (by simp)
              simp only [List.getElem?_cons_succ, List.getElem?_cons_zero] at q0 q1 q2
              have o0 := fun w' (he : Ext w5 w') => he.cell q0
              have o1 := fun w' (he : Ext w5 w') => he.cell q1
              have o2 := fun w' (he : Ext w5 w') => he.cell q2
              have HC5 := Lib.hid (HC.out.later (Hex.out.trans hx5))
              clear q0 q1 q2 hx5
              have Hnr5 := Lib.hid (show nearP ⟨X, Y, Z⟩ (-5000) 5000 by have := Hf1.out; unfold nearP at *; simp only at *; omega)
              refine Cg.wp_region_calm (p := Cg.extPre) (fr := (fun _ => false)) 11 (fun _ _ _ _ => True) (fun _ _ _ _ _ _ h => h) (by kernel_rfl) (by kernel_rfl) ?_
              simp only [List.take_succ_cons, List.take_zero, List.drop_succ_cons, List.drop_zero]
              refine Cg.calm_quiet Cg.calm_mono_final w5 (fun _ h => h) 1 (by kernel_rfl) ?_
              simp only [List.take_succ_cons, List.take_zero, List.drop_succ_cons, List.drop_zero]
              repeat (go_big_quiet_step (fail))
              refine wpQuiet_nil ?_
              refine Cg.calm_value Cg.calm_mono_final (fun v _ => v = .pointer (some ⟨gb, 0, none⟩)) (fun _ _ _ _ h => h) rfl (fun w' hR _ => ⟨_, w', by go_simp, Ext.refl _, rfl, fun hf => by cases hf⟩) ?_
              rintro _ _ _ rfl _
              simp only [Act.put, List.setIfInBounds_toArray, List.set_cons_succ, List.set_cons_zero]
              refine Cg.calm_quiet Cg.calm_mono_final w5 (fun _ h => h) 3 (by kernel_rfl) ?_
              simp only [List.take_succ_cons, List.take_zero, List.drop_succ_cons, List.drop_zero]
              repeat (go_big_quiet_step (fail))
              refine wpQuiet_nil ?_
              refine Cg.calm_value Cg.calm_mono_final (fun v _ => ∃ (x : Int) (is : Bool), v = .tuple #[.int .i64 x, .bool is] ∧ Hid ((is = true → inF CL m ⟨X, Y, Z⟩ x) ∧ (inG CL m ⟨X, Y, Z⟩ → is = true))) (fun _ _ _ _ h => h) rfl (fun w' hR _ => by
                obtain ⟨x, is, hrun, h1, h2⟩ := (HC5.out.later (show Ext w5 w' from hR)).look ⟨X, Y, Z⟩ Hnr5.out
                exact ⟨_, w', by go_simp, Ext.refl _, ⟨x, is, rfl, Lib.hid ⟨h1, h2⟩⟩, fun hf => by cases hf⟩) ?_
              rintro _ _ _ ⟨x, is, rfl, HXi⟩ _
              simp only [Act.put, List.setIfInBounds_toArray, List.set_cons_succ, List.set_cons_zero]
              refine Cg.calm_quiet Cg.calm_mono_final w5 (fun _ h => h) 5 (by kernel_rfl) ?_
              simp only [List.take_succ_cons, List.take_zero, List.drop_succ_cons, List.drop_zero]
              repeat (go_big_quiet_step (fail))
              refine wpQuiet_nil ?_
              refine Cg.calm_nil fun w6 he6 _ => ?_
              have he6 : Ext w5 w6 := he6
              have HO6 := Lib.hid (HO5.out.later he6)
              have i2 := fun w' he => j2 w' (he6.trans he)
              have z2 := fun w' he => o2 w' (he6.trans he)
              clear j5 j2 o0 o1 o2 HC5 HO5 he6
              go_wp2
              have Hbad := Lib.hid (show ¬ passP CL m gr S ⟨X, Y, Z⟩ → freeP CL m gr S b d → False from fun h hf => h (by
                have := hf t (by rw [← HL.out]; exact hlt2) (n + 1) (by omega) (by omega)
                rw [HCE.out, Hst.out] at this
                exact this))
              have Hx6 := Lib.hid ((Hex.out.trans Hx3.out).trans (Hx.out.trans HO6.out.ext))
              have Hgo := Lib.hid (show passP CL m gr S ⟨X, Y, Z⟩ → ∀ n', 1 ≤ n' → n' ≤ n + 1 → passP CL m gr S (farC C d n') from fun h n' h1 h2 => by
                by_cases e : n' = n + 1
                · rw [e, Hst.out]; exact h
                · exact Hps.out n' h1 (by omega))
              by_cases hlow : Z < gr
              · have Hno := Lib.hid (Hbad.out (fun h => by have := h.1; simp only at this; omega))
                refine Cg.wp_region_calm (p := Cg.extPre) (fr := (fun _ => false)) 16 (fun j _ v _ => True) (fun _ _ _ _ _ _ h => h) (by kernel_rfl) (by kernel_rfl) ?_
                simp only [List.take_succ_cons, List.take_zero, List.drop_succ_cons, List.drop_zero]
                refine Cg.calm_quiet Cg.calm_mono_final w6 (fun _ h => h) 3 (by kernel_rfl) ?_
                simp only [List.take_succ_cons, List.take_zero, List.drop_succ_cons, List.drop_zero]
                repeat (go_big_quiet_step (fail))
                refine wpQuiet_nil ?_
                refine Cg.calm_value Cg.calm_mono_final (fun v _ => v = .pointer (some ⟨gb, 0, none⟩)) (fun _ _ _ _ h => h) rfl (fun w' hR _ => ⟨_, w', by go_simp, Ext.refl _, rfl, fun hf => by cases hf⟩) ?_
                rintro _ _ _ rfl _
                simp only [Act.put, List.setIfInBounds_toArray, List.set_cons_succ, List.set_cons_zero]
                refine Cg.calm_quiet Cg.calm_mono_final w6 (fun _ h => h) 5 (by kernel_rfl) ?_
                simp only [List.take_succ_cons, List.take_zero, List.drop_succ_cons, List.drop_zero]
                repeat (go_big_quiet_step (fail))
                refine wpQuiet_nil ?_
                refine Cg.calm_skip (by kernel_rfl) ?_
                simp only [Act.put, List.setIfInBounds_toArray, List.set_cons_succ, List.set_cons_zero]
                refine Cg.calm_skip (by kernel_rfl) ?_
                simp only [Act.put, List.setIfInBounds_toArray, List.set_cons_succ, List.set_cons_zero]
                refine Cg.calm_skip (by kernel_rfl) ?_
                simp only [Act.put, List.setIfInBounds_toArray, List.set_cons_succ, List.set_cons_zero]
                refine Cg.calm_skip (by kernel_rfl) ?_
                simp only [Act.put, List.setIfInBounds_toArray, List.set_cons_succ, List.set_cons_zero]
                refine Cg.calm_skip (by kernel_rfl) ?_
                simp only [Act.put, List.setIfInBounds_toArray, List.set_cons_succ, List.set_cons_zero]
                refine Cg.calm_skip (by kernel_rfl) ?_
                simp only [Act.put, List.setIfInBounds_toArray, List.set_cons_succ, List.set_cons_zero]
                refine Cg.calm_value Cg.calm_mono_final (fun v _ => v = .bool true) (fun _ _ _ _ h => h) rfl (fun w' hR _ => ⟨_, w', by go_simp, Ext.refl _, rfl, fun hf => by cases hf⟩) ?_
                rintro _ _ _ rfl _
                simp only [Act.put, List.setIfInBounds_toArray, List.set_cons_succ, List.set_cons_zero]
                refine Cg.calm_nil fun w7 he7 _ => ?_
                have he7 : Ext w6 w7 := he7
                go_wp2
                go_ret
                exact FreeRes.no (Hx6.out.trans he7) (fun _ hp => Hno.out hp)
              · cases is with
                | false =>
                  have Hok := Lib.hid (Hgo.out ⟨by show gr ≤ Z; omega, fun i hi hc => by have := HXi.out.2 ⟨i, hi, hc⟩; cases this⟩)
                  refine Cg.wp_region_calm (p := Cg.extPre) (fr := (fun _ => false)) 16 (fun j _ v _ => True) (fun _ _ _ _ _ _ h => h) (by kernel_rfl) (by kernel_rfl) ?_
                  simp only [List.take_succ_cons, List.take_zero, List.drop_succ_cons, List.drop_zero]
                  refine Cg.calm_quiet Cg.calm_mono_final w6 (fun _ h => h) 3 (by kernel_rfl) ?_
                  simp only [List.take_succ_cons, List.take_zero, List.drop_succ_cons, List.drop_zero]
                  repeat (go_big_quiet_step (fail))
                  refine wpQuiet_nil ?_
                  refine Cg.calm_value Cg.calm_mono_final (fun v _ => v = .pointer (some ⟨gb, 0, none⟩)) (fun _ _ _ _ h => h) rfl (fun w' hR _ => ⟨_, w', by go_simp, Ext.refl _, rfl, fun hf => by cases hf⟩) ?_
                  rintro _ _ _ rfl _
                  simp only [Act.put, List.setIfInBounds_toArray, List.set_cons_succ, List.set_cons_zero]
                  refine Cg.calm_quiet Cg.calm_mono_final w6 (fun _ h => h) 7 (by kernel_rfl) ?_
                  simp only [List.take_succ_cons, List.take_zero, List.drop_succ_cons, List.drop_zero]
                  repeat (go_big_quiet_step (fail))
                  refine wpQuiet_nil ?_
                  refine Cg.calm_skip (by kernel_rfl) ?_
                  simp only [Act.put, List.setIfInBounds_toArray, List.set_cons_succ, List.set_cons_zero]
                  refine Cg.calm_skip (by kernel_rfl) ?_
                  simp only [Act.put, List.setIfInBounds_toArray, List.set_cons_succ, List.set_cons_zero]
                  refine Cg.calm_skip (by kernel_rfl) ?_
                  simp only [Act.put, List.setIfInBounds_toArray, List.set_cons_succ, List.set_cons_zero]
                  refine Cg.calm_value Cg.calm_mono_final (fun v _ => v = .bool false) (fun _ _ _ _ h => h) rfl (fun w' hR _ => ⟨_, w', by go_simp, Ext.refl _, rfl, fun hf => by cases hf⟩) ?_
                  rintro _ _ _ rfl _
                  simp only [Act.put, List.setIfInBounds_toArray, List.set_cons_succ, List.set_cons_zero]
                  refine Cg.calm_value Cg.calm_mono_final (fun v _ => v = .bool false) (fun _ _ _ _ h => h) rfl (fun w' hR _ => ⟨_, w', by go_simp, Ext.refl _, rfl, fun hf => by cases hf⟩) ?_
                  rintro _ _ _ rfl _
                  simp only [Act.put, List.setIfInBounds_toArray, List.set_cons_succ, List.set_cons_zero]
                  refine Cg.calm_nil fun w7 he7 _ => ?_
                  have he7 : Ext w6 w7 := he7
                  have HO7 := Lib.hid (HO6.out.later he7)
                  go_wp2
                  go_roundw
                  case rel => exact ⟨n + 1, by omega, by go_num, by rw [Hst.out]; exact HO7.out, Lib.hid (fun n' h1 h2 => Hok.out n' h1 h2)⟩
                  case measure => simp [intOf]; omega
                | true =>
                  obtain ⟨i, hi, rfl, hci⟩ := HXi.out.1 rfl
                  have hha := fun w' => has_any S i w' hS (by omega)
                  have Hci := Lib.hid hci
                  clear hci
                  have Hha := Lib.hid (show ∀ w', Calls Tryz.prog 29 #[.int .u64 S, .int .i64 i] w' fun e w'' => e = .returned (.bool (S.testBit i)) ∧ Ext w' w'' from fun w' => (hha w').mono fun e w'' h => ⟨h.1, by rw [← h.2]; exact Ext.refl _⟩)
                  clear hha
                  obtain ⟨tb, htb⟩ : ∃ tb, S.testBit i = tb := ⟨_, rfl⟩
                  rw [htb] at Hha
                  have Htb := Lib.hid htb
                  clear htb
                  cases tb with
                  | true =>
                    have Hno := Lib.hid (Hbad.out (fun h => by have := h.2 i hi Hci.out; rw [Htb.out] at this; cases this))
                    refine Cg.wp_region_calm (p := Cg.extPre) (fr := (fun _ => false)) 16 (fun j _ v _ => (j = 13 → v = .bool true)) (fun _ _ _ _ _ _ h => h) (by kernel_rfl) (by kernel_rfl) ?_
                    simp only [List.take_succ_cons, List.take_zero, List.drop_succ_cons, List.drop_zero]
                    refine Cg.calm_quiet Cg.calm_mono_final w6 (fun _ h => h) 3 (by kernel_rfl) ?_
                    simp only [List.take_succ_cons, List.take_zero, List.drop_succ_cons, List.drop_zero]
                    repeat (go_big_quiet_step (fail))
                    refine wpQuiet_nil ?_
                    refine Cg.calm_value Cg.calm_mono_final (fun v _ => v = .pointer (some ⟨gb, 0, none⟩)) (fun _ _ _ _ h => h) rfl (fun w' hR _ => ⟨_, w', by go_simp, Ext.refl _, rfl, fun hf => by cases hf⟩) ?_
                    rintro _ _ _ rfl _
                    simp only [Act.put, List.setIfInBounds_toArray, List.set_cons_succ, List.set_cons_zero]
                    refine Cg.calm_quiet Cg.calm_mono_final w6 (fun _ h => h) 9 (by kernel_rfl) ?_
                    simp only [List.take_succ_cons, List.take_zero, List.drop_succ_cons, List.drop_zero]
                    repeat (go_big_quiet_step (fail))
                    refine wpQuiet_nil ?_
                    refine Cg.calm_call Cg.calm_mono_final 29 #[.int .u64 S, .int .i64 i] rfl (fun w => ?_) (fun w he hF => ?_) ?_
                    · go_simp
                    · exact (Hha.out w).mono fun e w'' ⟨he', hx⟩ => ⟨_, he', hx, fun _ => rfl, fun h => by cases h⟩
                    rintro _ _ _ h _
                    cases h rfl
                    simp only [Act.put, List.setIfInBounds_toArray, List.set_cons_succ, List.set_cons_zero]
                    refine Cg.calm_value Cg.calm_mono_final (fun v _ => v = .bool true) (fun _ _ _ _ h => h) rfl (fun w' hR _ => ⟨_, w', by go_simp, Ext.refl _, rfl, fun hf => by cases hf⟩) ?_
                    rintro _ _ _ rfl _
                    simp only [Act.put, List.setIfInBounds_toArray, List.set_cons_succ, List.set_cons_zero]
                    refine Cg.calm_value Cg.calm_mono_final (fun v _ => v = .bool true) (fun _ _ _ _ h => h) rfl (fun w' hR _ => ⟨_, w', by go_simp, Ext.refl _, rfl, fun hf => by cases hf⟩) ?_
                    rintro _ _ _ rfl _
                    simp only [Act.put, List.setIfInBounds_toArray, List.set_cons_succ, List.set_cons_zero]
                    refine Cg.calm_nil fun w7 he7 _ => ?_
                    have he7 : Ext w6 w7 := he7
                    go_wp2
                    go_ret
                    exact FreeRes.no (Hx6.out.trans he7) (fun _ hp => Hno.out hp)
                  | false =>
                    have Hok := Lib.hid (Hgo.out ⟨by show gr ≤ Z; omega, fun i' hi' hc' => by rw [Hun.out i' i _ hi' hi hc' Hci.out]; exact Htb.out⟩)
                    refine Cg.wp_region_calm (p := Cg.extPre) (fr := (fun _ => false)) 16 (fun j _ v _ => (j = 13 → v = .bool false)) (fun _ _ _ _ _ _ h => h) (by kernel_rfl) (by kernel_rfl) ?_
                    simp only [List.take_succ_cons, List.take_zero, List.drop_succ_cons, List.drop_zero]
                    refine Cg.calm_quiet Cg.calm_mono_final w6 (fun _ h => h) 3 (by kernel_rfl) ?_
                    simp only [List.take_succ_cons, List.take_zero, List.drop_succ_cons, List.drop_zero]
                    repeat (go_big_quiet_step (fail))
                    refine wpQuiet_nil ?_
                    refine Cg.calm_value Cg.calm_mono_final (fun v _ => v = .pointer (some ⟨gb, 0, none⟩)) (fun _ _ _ _ h => h) rfl (fun w' hR _ => ⟨_, w', by go_simp, Ext.refl _, rfl, fun hf => by cases hf⟩) ?_
                    rintro _ _ _ rfl _
                    simp only [Act.put, List.setIfInBounds_toArray, List.set_cons_succ, List.set_cons_zero]
                    refine Cg.calm_quiet Cg.calm_mono_final w6 (fun _ h => h) 9 (by kernel_rfl) ?_
                    simp only [List.take_succ_cons, List.take_zero, List.drop_succ_cons, List.drop_zero]
                    repeat (go_big_quiet_step (fail))
                    refine wpQuiet_nil ?_
                    refine Cg.calm_call Cg.calm_mono_final 29 #[.int .u64 S, .int .i64 i] rfl (fun w => ?_) (fun w he hF => ?_) ?_
                    · go_simp
                    · exact (Hha.out w).mono fun e w'' ⟨he', hx⟩ => ⟨_, he', hx, fun _ => rfl, fun h => by cases h⟩
                    rintro _ _ _ h _
                    cases h rfl
                    simp only [Act.put, List.setIfInBounds_toArray, List.set_cons_succ, List.set_cons_zero]
                    refine Cg.calm_value Cg.calm_mono_final (fun v _ => v = .bool false) (fun _ _ _ _ h => h) rfl (fun w' hR _ => ⟨_, w', by go_simp, Ext.refl _, rfl, fun hf => by cases hf⟩) ?_
                    rintro _ _ _ rfl _
                    simp only [Act.put, List.setIfInBounds_toArray, List.set_cons_succ, List.set_cons_zero]
                    refine Cg.calm_value Cg.calm_mono_final (fun v _ => v = .bool false) (fun _ _ _ _ h => h) rfl (fun w' hR _ => ⟨_, w', by go_simp, Ext.refl _, rfl, fun hf => by cases hf⟩) ?_
                    rintro _ _ _ rfl _
                    simp only [Act.put, List.setIfInBounds_toArray, List.set_cons_succ, List.set_cons_zero]
                    refine Cg.calm_nil fun w7 he7 _ => ?_
                    have he7 : Ext w6 w7 := he7
                    have HO7 := Lib.hid (HO6.out.later he7)
                    go_wp2
                    go_roundw
                    case rel => exact ⟨n + 1, by omega, by go_num, by rw [Hst.out]; exact HO7.out, Lib.hid (fun n' h1 h2 => Hok.out n' h1 h2)⟩
                    case measure => simp [intOf]; omega
            · obtain rfl : n = 64 := by omega
              have HO := Lib.hid hO
              clear hO
              go_wp2
              go_roundw
              case rel => exact ⟨t + 1, by omega, by go_num, Hx.out.trans HO.out.ext, Lib.hid (fun t' h1 n h2 h3 => by
                by_cases e : t' = t
                · rw [e, HCE.out]; exact Hps.out n h2 h3
                · exact Hall.out t' (by omega) n h2 h3)⟩
              case measure => simp [intOf]; omega
        · obtain rfl : L = t := by omega
          go_wp2
          go_ret
          exact FreeRes.yes ((Hex.out.trans Hx3.out).trans hx) (fun t' h1 n h2 h3 => Hall.out t' (by rw [HL.out]; exact h1) n h2 h3)
end Go.Proofs.YtebkhdhhajjhfaaGreat.Lt

/- ways: the free ways of a brick. -/
namespace Go.Proofs.YtebkhdhhajjhfaaGreat.Lt
open Go Go.RowKit
theorem Plan.later {CL : List (List Ce)} {m : Nat} {gr : Int} {NK : Prop} {w0 w w' : World} {p : Value} (h : Plan CL m gr NK w0 w p) (he : Ext w w') : Plan CL m gr NK w0 w' p := by
  obtain ⟨gb, gm, gj, u, SL, rfl, c2, c4, c5, c6, hT, hC, hJ, hz⟩ := h
  exact ⟨gb, gm, gj, u, SL, rfl, fun w'' h => c2 w'' (he.trans h), fun w'' h => c4 w'' (he.trans h), fun w'' h => c5 w'' (he.trans h), fun w'' h => c6 w'' (he.trans h), hT.later he, hC.later he, hJ.later he, hz⟩
/-- The first k ways are tried. -/
def waysP (CL : List (List Ce)) (m : Nat) (gr : Int) (NK : Prop) (S b k : Nat) (ds : List Int) : Prop := (∀ x ∈ ds, ∃ d : Nat, d < k ∧ x = (d : Int) ∧ freeP CL m gr S b d) ∧ (NK → ∀ d : Nat, d < k → freeP CL m gr S b d → (d : Int) ∈ ds)
set_option maxRecDepth 100000 in
set_option maxHeartbeats 4000000 in
theorem ways_any (CL : List (List Ce)) (m : Nat) (gr : Int) (NK : Prop) (S b : Nat) (w0 w : World) (p : Value) (hP : Plan CL m gr NK w0 w p) (hlen : CL.length = m) (hm : m ≤ 40) (hb : b < m) (hS : S < 2 ^ 64) (hcl : ∀ i, i < m → (klA CL i).length ≤ 24) (hnr : ∀ i, i < m → ∀ t, t < (klA CL i).length → nearP (ceA (klA CL i) t) (-2000) 2000) (hun : ∀ i j c, i < m → j < m → c ∈ klA CL i → c ∈ klA CL j → i = j) :
    Calls Tryz.prog 31 #[p, .int .u64 S, .int .i64 b] w fun e w' => ∃ (A : Option Addr) (c : Nat) (ds : List Int), e = .returned (.slice A ds.length c) ∧ OwnI w w' (.slice A ds.length c) ds ∧ waysP CL m gr NK S b 6 ds ∧ ds.length ≤ 6 := by
  have Hfr := Lib.hid (fun (d : Nat) (hd : d < 6) w' (he : Ext w w') => free_any CL m gr NK S b d w0 w' p (hP.later he) hlen hm hb hd hS hcl hnr hun)
  clear hP hlen hm hb hS hcl hnr hun
  go_enter Tryz.func31, Tryz.ntmps31
  go_wp2
  go_loopw [9, 7] (fun i v wr => ∃ (k : Nat) (ds : List Int), k ≤ 6 ∧ i = .int .i64 k ∧ OwnI w wr v ds ∧ Hid (waysP CL m gr NK S b k ds) ∧ ds.length ≤ k) (fun i _ _ => 6 - (intOf i).toNat)
  case atStart => exact ⟨0, [], by omega, rfl, Own.nil' (Ext.refl _) _ _, Lib.hid ⟨fun x h => absurd h (by simp), fun _ d h => absurd h (by omega)⟩, by simp⟩
  case round =>
    obtain ⟨k, ds, hk, rfl, hO, Hw, hl⟩ := hrel
    by_cases hlt : k < 6
    · have hki : (k : Int) < 6 := by omega
      have hw1 : IntKind.i64.wrap ((k : Int) + 1) = ((k + 1 : Nat) : Int) := by rw [IntKind.wrap_i64]; omega
      obtain ⟨A, c, rfl⟩ := hO.form
      obtain ⟨n, hn⟩ : ∃ n, n = ds.length := ⟨_, rfl⟩
      have hO : Own w wr 3 1 (.slice A ds.length c) ds.length (ds.map vint) := hO
      have Hf := Lib.hid (Hfr.out k hlt wr hO.ext)
      have HL := Lib.hid hl
      rw [← hn] at hO ⊢
      have HO := Lib.hid hO
      clear hO hl
      have HN := Lib.hid hn
      have hn6 : n ≤ 6 := by have := HL.out; omega
      clear hn
      go_wp2_with (first
        | (go_at_call 67; refine (Hf.out).mono ?_; rintro e w2 ⟨v, rfl, he2, h1, h2⟩; have H1 := Lib.hid h1; have H2 := Lib.hid h2; have HO2 := Lib.hid (HO.out.later (he2.trans ((Ext.refl w2).alloc (.cells #[.int .i64 k] 3)))); have HO3 := Lib.hid (HO.out.later he2); clear h1 h2 he2 Hf)
        | (refine own_append_int rfl _ _ rfl (.slice A n c) n (ds.map vint) rfl (HO3.out) (k : Int) rfl (by omega) ?_; intro v9 w9 ho9; have HO9 := Lib.hid ho9; clear ho9))
      · go_roundw
        case rel =>
          refine ⟨k + 1, ds ++ [(k : Int)], by omega, by go_num, ?_, Lib.hid ⟨fun x hx => ?_, fun hz d hd hf => ?_⟩, ?_⟩
          · show Own _ _ _ _ _ _ _
            rw [List.length_append, List.map_append, ← HN.out]
            exact HO9.out
          · rw [List.mem_append, List.mem_singleton] at hx
            rcases hx with hx | rfl
            · obtain ⟨d, h1, h2, h3⟩ := Hw.out.1 x hx
              exact ⟨d, by omega, h2, h3⟩
            · exact ⟨k, by omega, rfl, H1.out (by assumption)⟩
          · rw [List.mem_append, List.mem_singleton]
            by_cases e : d = k
            · exact .inr (by rw [e])
            · exact .inl (Hw.out.2 hz d (by omega) hf)
          · rw [List.length_append, List.length_singleton]
            have := HL.out
            omega
        case measure => simp [intOf]; omega
      · go_roundw
        case rel =>
          refine ⟨k + 1, ds, by omega, by go_num, ?_, Lib.hid ⟨fun x hx => ?_, fun hz d hd hf => ?_⟩, ?_⟩
          · show Own _ _ _ _ _ _ _
            rw [← HN.out]
            exact HO3.out
          · obtain ⟨d, h1, h2, h3⟩ := Hw.out.1 x hx
            exact ⟨d, by omega, h2, h3⟩
          · by_cases e : d = k
            · subst e
              have h1 := H2.out hz hf
              simp_all
            · exact Hw.out.2 hz d (by omega) hf
          · have := HL.out
            omega
        case measure => simp [intOf]; omega
    · obtain rfl : k = 6 := by omega
      obtain ⟨A, c, rfl⟩ := hO.form
      have HO := Lib.hid hO
      have HL := Lib.hid hl
      clear hO hl
      go_wp2
      go_ret
      exact ⟨A, c, ds, rfl, HO.out, Hw.out, HL.out⟩
end Go.Proofs.YtebkhdhhajjhfaaGreat.Lt
