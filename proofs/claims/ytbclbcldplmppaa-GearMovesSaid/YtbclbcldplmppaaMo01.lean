/- GearMoves: the law's own walk. -/
import Derived.Test.YtbclbcldplmppaaMx01
namespace Go.Proofs.Ytbclbcldplmppaa
open Go.RowKit

/-- What is known at the end, of a motion. -/
theorem moves_end {s : Int} {ms : List Msh} {a b num den : Int} {x : List Int} (h : RF s ms a b num den) (hx : (x.length : Int) = s) (hm : ∀ i, i < ms.length → dotT x (gearL ms x.length i) x.length = 0) :
    (¬ verdE s ms a b = 0 ∧ ¬ verdE s ms a b = 41) ∨ (verdE s ms a b = 41 ∧ ∃ I O : Nat, a = I ∧ b = O ∧ I < x.length ∧ O < x.length ∧ getI x I = 0) ∨
    (verdE s ms a b = 0 ∧ ∃ I O : Nat, a = I ∧ b = O ∧ I < x.length ∧ O < x.length ∧ 1 ≤ den ∧ getI x O * den = getI x I * num) := by
  by_cases h0 : verdE s ms a b = 0
  · obtain ⟨hz, F, M, T, hp⟩ := h.rat h0
    obtain ⟨S, I, O, hS, rfl, rfl, hi, ho, _⟩ := ask_two hz
    have e : x.length = S := by omega
    rw [hS] at hp
    simp only [Int.toNat_natCast] at hp
    rw [e] at hm ⊢
    exact .inr (.inr ⟨h0, I, O, rfl, rfl, hi, ho, hp.2.2.2.2.1, hp.turns hi ho hm⟩)
  · by_cases h1 : verdE s ms a b = 41
    · obtain ⟨F, M, T, h⟩ := h
      rcases h with ⟨hz, _⟩ | ⟨hz, ⟨_, _, _, hp⟩ | ⟨k, _⟩ | ⟨k, _⟩⟩
      · unfold verdE at h1
        rw [if_neg hz] at h1
        rcases askE_cases s ms [a, b] with k | k | k <;> omega
      · obtain ⟨S, I, O, hS, rfl, rfl, hi, ho, _⟩ := ask_two hz
        have e : x.length = S := by omega
        rw [hS] at hp
        simp only [Int.toNat_natCast] at hp
        rw [e] at hm ⊢
        exact .inr (.inl ⟨h1, I, O, rfl, rfl, hi, ho, hp.still hi hm⟩)
      · omega
      · omega
    · exact .inl ⟨h0, h1⟩

set_option maxRecDepth 100000 in
set_option maxHeartbeats 8000000 in
theorem moves_law (A : Option Addr) (c : Nat) (s : Int) (ms : List Msh) (a b : Int) (B : Option Addr) (d : Nat) (x : List Int) (w : World) (hA : MRow w A ms) (hB : Ints w B x) :
    Calls Try.prog 10 #[.agg #[.int .i64 s, .slice A ms.length c], .int .i64 a, .int .i64 b, .slice B x.length d] w fun e w' => e = .returned (.bool true) ∧ Ext w w' := by
  have hg := fun (w' : World) => great_any A c ms.length s w'
  by_cases g1 : 30 < ms.length
  · have e1 : decide ((30 : Int) < (ms.length : Int)) = true := by simp; omega
    rw [e1] at hg
    have Hg := Lib.hid hg
    clear hg hA e1 hB
    generalize ms.length = m at *
    generalize x.length = q at *
    go_enter Try.func10, Try.ntmps10
    have t0 : ∀ w', Ext (w.alloc (.cells #[.int .i64 s, .slice A m c] 41)) w' → w'.cell? ⟨w.heap.size, 0, none⟩ = some (.int .i64 s) := fun w' he => he.cell (cells_last rfl rfl)
    have t1 : ∀ w', Ext (w.alloc (.cells #[.int .i64 s, .slice A m c] 41)) w' → w'.cell? ⟨w.heap.size, 1, none⟩ = some (.slice A m c) := fun w' he => he.cell (cells_last rfl rfl)
    have hxb : Ext w (w.alloc (.cells #[.int .i64 s, .slice A m c] 41)) := (Ext.refl w).alloc _
    (repeat (first
      | (go_at_call 43; refine (alive_any _).mono ?_; rintro e w1 ⟨rfl, hx1⟩; have b1 := hx1; simp only [])
      | (go_at_call 21; refine (Hg.out _).mono ?_; rintro e w2 ⟨rfl, hx2⟩; have b2 := b1.trans hx2; simp only [])
      | go_values | go_skip | go_guarded | go_step | go_upon))
    go_ret
    exact ⟨rfl, hxb.trans b2⟩
  have e1 : decide ((30 : Int) < (ms.length : Int)) = false := by simp; omega
  rw [e1] at hg
  have Hg := Lib.hid hg
  clear hg e1
  by_cases g2 : (x.length : Int) = s
  rotate_left
  · clear hA hB g1
    generalize ms.length = m at *
    generalize x.length = q at *
    have g3 : ((q : Int) != s) = true := by rw [bne_iff_ne]; exact g2
    go_enter Try.func10, Try.ntmps10
    have t0 : ∀ w', Ext (w.alloc (.cells #[.int .i64 s, .slice A m c] 41)) w' → w'.cell? ⟨w.heap.size, 0, none⟩ = some (.int .i64 s) := fun w' he => he.cell (cells_last rfl rfl)
    have t1 : ∀ w', Ext (w.alloc (.cells #[.int .i64 s, .slice A m c] 41)) w' → w'.cell? ⟨w.heap.size, 1, none⟩ = some (.slice A m c) := fun w' he => he.cell (cells_last rfl rfl)
    have hxb : Ext w (w.alloc (.cells #[.int .i64 s, .slice A m c] 41)) := (Ext.refl w).alloc _
    (repeat (first
      | (go_at_call 43; refine (alive_any _).mono ?_; rintro e w1 ⟨rfl, hx1⟩; have b1 := hx1; simp only [])
      | (go_at_call 21; refine (Hg.out _).mono ?_; rintro e w2 ⟨rfl, hx2⟩; have b2 := b1.trans hx2; simp only [])
      | go_values | go_skip | go_guarded | go_step | go_upon))
    go_ret
    exact ⟨rfl, hxb.trans b2⟩
  by_cases g3 : 8 < x.length
  · clear hA hB g1
    subst g2
    generalize ms.length = m at *
    generalize x.length = q at *
    go_enter Try.func10, Try.ntmps10
    have t0 : ∀ w', Ext (w.alloc (.cells #[.int .i64 q, .slice A m c] 41)) w' → w'.cell? ⟨w.heap.size, 0, none⟩ = some (.int .i64 q) := fun w' he => he.cell (cells_last rfl rfl)
    have t1 : ∀ w', Ext (w.alloc (.cells #[.int .i64 q, .slice A m c] 41)) w' → w'.cell? ⟨w.heap.size, 1, none⟩ = some (.slice A m c) := fun w' he => he.cell (cells_last rfl rfl)
    have hxb : Ext w (w.alloc (.cells #[.int .i64 q, .slice A m c] 41)) := (Ext.refl w).alloc _
    (repeat (first
      | (go_at_call 43; refine (alive_any _).mono ?_; rintro e w1 ⟨rfl, hx1⟩; have b1 := hx1; simp only [])
      | (go_at_call 21; refine (Hg.out _).mono ?_; rintro e w2 ⟨rfl, hx2⟩; have b2 := b1.trans hx2; simp only [])
      | go_values | go_skip | go_guarded | go_step | go_upon))
    go_ret
    exact ⟨rfl, hxb.trans b2⟩
  have hl : ms.length ≤ 1000000 := by omega
  obtain ⟨num, den, fab, cab⟩ := ratio_rf A c s a b ms w hA hl
  have ce := fun (k : Nat) (w' : World) (he : Ext w w') => equation_train A c s ms k w' (hA.ext he) hl
  have hb := fun (i : Nat) (hi : i < x.length) => hB.some_ (by omega)
  have hend := fun h => moves_end (x := x) fab g2 h
  have hE0 : trainB s ms = true → ∀ k, k < ms.length → eqE s ms k = 0 := fun ht k hk => by
    unfold eqE
    rw [if_pos ht, if_pos (by omega)]
  have hE1 : ¬ trainB s ms = true → ∀ k : Nat, eqE s ms k = 40 := fun ht k => by
    unfold eqE
    rw [if_neg ht]
  have hLn : trainB s ms = true → ∀ k, k < ms.length → (eqL s ms k).length = x.length ∧ ∀ j, getI (eqL s ms k) j = gearL ms x.length k j := fun ht k hk => by
    unfold eqL
    rw [if_pos ht, dif_pos (by omega)]
    have hs : s.toNat = x.length := by omega
    constructor
    · rw [facS_length]; exact hs
    · intro j
      unfold gearL
      rw [lineI_eq hk, hs]
      simp
  have hLb : trainB s ms = true → boundL (gearL ms x.length) ms.length x.length := fun ht => by
    have ht : trainP s ms := of_decide_eq_true ht
    rw [← g2] at ht
    exact gearL_bound ht
  subst g2
  have Hb := Lib.hid hb
  have Cab := Lib.hid cab
  have Ce := Lib.hid ce
  have Hend := Lib.hid hend
  have HE0 := Lib.hid hE0
  have HE1 := Lib.hid hE1
  have HLn := Lib.hid hLn
  have HLb := Lib.hid hLb
  clear hb cab ce hend hE0 hE1 hLn hLb hA hB fab g1
  generalize verdE (x.length : Int) ms a b = v at *
  obtain ⟨S, hS⟩ : ∃ S, S = x.length := ⟨_, rfl⟩
  obtain ⟨m, hm⟩ : ∃ m, m = ms.length := ⟨_, rfl⟩
  simp only [← hS, ← hm] at *
  have Hm' := Lib.hid hm
  have HS := Lib.hid hS
  clear hm hS
  go_enter Try.func10, Try.ntmps10
  have t0 : ∀ w', Ext (w.alloc (.cells #[.int .i64 S, .slice A m c] 41)) w' → w'.cell? ⟨w.heap.size, 0, none⟩ = some (.int .i64 S) := fun w' he => he.cell (cells_last rfl rfl)
  have t1 : ∀ w', Ext (w.alloc (.cells #[.int .i64 S, .slice A m c] 41)) w' → w'.cell? ⟨w.heap.size, 1, none⟩ = some (.slice A m c) := fun w' he => he.cell (cells_last rfl rfl)
  have hxb : Ext w (w.alloc (.cells #[.int .i64 S, .slice A m c] 41)) := (Ext.refl w).alloc _
  (repeat (first
    | (go_at_call 43; refine (alive_any _).mono ?_; rintro e w1 ⟨rfl, hx1⟩; have b1 := hx1; simp only [])
    | (go_at_call 21; refine (Hg.out _).mono ?_; rintro e w2 ⟨rfl, hx2⟩; have b2 := b1.trans hx2; simp only [])
    | go_values | go_skip | go_guarded | go_step | go_upon))
  have Hw2 := Lib.hid (hxb.trans b2)
  have T0 := Lib.hid (fun w' (he : Ext w2 w') => t0 w' (b2.trans he))
  have T1 := Lib.hid (fun w' (he : Ext w2 w') => t1 w' (b2.trans he))
  clear t0 t1 b1 b2 hx1 hx2 hxb
  generalize w.heap.size = bx at *
  go_loop [40] (fun i => ∃ k : Nat, k ≤ S ∧ i = .int .i64 k ∧ ∀ j, j < k → -1048576 ≤ getI x j ∧ getI x j ≤ 1048576) (fun i => S - (intOf i).toNat)
  case atStart => exact ⟨0, by omega, rfl, fun j hj => by omega⟩
  case round =>
    obtain ⟨k, hk, rfl, hall⟩ := hrel
    have Hall := Lib.hid hall
    clear hall
    by_cases hlt : k < S
    · obtain ⟨bd, rfl, hc0⟩ := Hb.out k hlt
      have hc := hc0 k hlt w2 Hw2.out
      have hki : (k : Int) < (S : Int) := by omega
      have hst : -1048576 ≤ getI x k → getI x k ≤ 1048576 → ∀ j, j < k + 1 → -1048576 ≤ getI x j ∧ getI x j ≤ 1048576 := fun h1 h2 j hj => by
        by_cases e : j = k
        · subst e; exact ⟨h1, h2⟩
        · exact Hall.out j (by omega)
      have Hst := Lib.hid hst
      clear hst hc0 Hall
      generalize getI x k = y at *
      by_cases k1 : y < -1048576
      · (repeat (first | go_values | go_skip | go_guarded | go_step | go_upon))
        go_ret
        exact ⟨rfl, Hw2.out⟩
      by_cases k2 : 1048576 < y
      · (repeat (first | go_values | go_skip | go_guarded | go_step | go_upon))
        go_ret
        exact ⟨rfl, Hw2.out⟩
      · (repeat (first | go_values | go_skip | go_guarded | go_step | go_upon))
        go_round
        case rel => exact ⟨k + 1, by omega, by go_num, Hst.out (by omega) (by omega)⟩
        case measure => simp [intOf]; omega
    · obtain rfl : S = k := by omega
      have Hsm := Hall
      clear Hall
      have t0 := T0.out
      have t1 := T1.out
      (repeat (first | go_values | go_skip | go_guarded | go_step | go_upon))
      clear t0 t1 hk hlt
      go_loopw [55] (fun i wr => ∃ k : Nat, k ≤ m ∧ i = .int .i64 k ∧ Ext w2 wr ∧ ∀ j, j < k → dotT x (gearL ms S j) S = 0) (fun i _ => m - (intOf i).toNat)
      case atStart => exact ⟨0, by omega, rfl, Ext.refl _, fun j hj => by omega⟩
      case round =>
        obtain ⟨wo, rfl⟩ : ∃ wo : World, wo = wr := ⟨_, rfl⟩
        obtain ⟨i, hi, rfl, hex, hall⟩ := hrel
        have Hall' := Lib.hid hall
        by_cases hlt : i < m
        · clear hall Hend Cab
          have hki : (i : Int) < (m : Int) := by omega
          have t0 := fun w' he => T0.out w' (hex.trans he)
          have t1 := fun w' he => T1.out w' (hex.trans he)
          cases ht : trainB (S : Int) ms
          · have he40 := HE1.out (by rw [ht]; decide) i
            have hce := Ce.out i wo (Hw2.out.trans hex)
            rw [he40] at hce
            clear Ce HE0 HE1 HLn HLb he40 ht
            have Hce := Lib.hid hce
            clear hce
            (repeat (first | go_values | go_skip | go_guarded | go_step | go_upon))
            go_at_call 22
            refine Hce.out.mono ?_
            rintro e w3 ⟨A3, d3, rfl, hi3, hx3⟩
            clear hi3
            simp only []
            (repeat (first | go_values | go_skip | go_guarded | go_step | go_upon))
            go_ret
            exact ⟨rfl, Hw2.out.trans (hex.trans hx3)⟩
          · have he0 := HE0.out ht i hlt
            obtain ⟨hln, hlg⟩ := HLn.out ht i hlt
            have hlb := HLb.out ht
            have hce := Ce.out i wo (Hw2.out.trans hex)
            rw [he0] at hce
            clear Ce HE0 HE1 HLn HLb he0 ht
            have Hce := Lib.hid hce
            clear hce
            (repeat (first | go_values | go_skip | go_guarded | go_step | go_upon))
            go_at_call 22
            refine Hce.out.mono ?_
            rintro e w3 ⟨A3, d3, rfl, hi3, hx3⟩
            clear Hce t0 t1
            simp only []
            generalize eqL (S : Int) ms i = l at *
            rw [hln]
            have hss : ((S : Int) != (S : Int)) = false := by simp
            (repeat (first | go_values | go_skip | go_guarded | go_step | go_upon))
            have hf := fun (k : Nat) (hk : k < S) => (show Ints w3 A3 l from hi3).some_ (by rw [hln]; omega)
            have Hf := Lib.hid hf
            have Hln := Lib.hid hln
            have Hlg := Lib.hid hlg
            have hsm : ∀ j, j < S → (getI x j).natAbs ≤ 1048576 := fun j hj => by have := Hsm.out j hj; omega
            have hb1 : ∀ j, j < S → (gearL ms S i j).natAbs ≤ 48 := fun j hj => hlb i hlt j hj
            have hb2 : ∀ k, k ≤ S → (dotT x (gearL ms S i) k).natAbs ≤ k * 50331648 := fun k => by
              induction k with
              | zero => intro _; simp [dotT]
              | succ k ih =>
                intro hk
                have h1 := ih (by omega)
                have h2 : (getI x k * gearL ms S i k).natAbs ≤ 50331648 := by
                  rw [Int.natAbs_mul]
                  exact Nat.le_trans (Nat.mul_le_mul (hsm k (by omega)) (hb1 k (by omega))) (by decide)
                rw [dotT]
                omega
            have hb3 : ∀ k, k < S → (getI x k * gearL ms S i k).natAbs ≤ 50331648 := fun k hk => by
              rw [Int.natAbs_mul]
              exact Nat.le_trans (Nat.mul_le_mul (hsm k hk) (hb1 k hk)) (by decide)
            have hst : dotT x (gearL ms S i) S = 0 → ∀ j, j < i + 1 → dotT x (gearL ms S j) S = 0 := fun h j hj => by
              by_cases e : j = i
              · subst e; exact h
              · exact Hall'.out j (by omega)
            have Hb2 := Lib.hid hb2
            have Hb3 := Lib.hid hb3
            have Hst := Lib.hid hst
            have Hx3 := Lib.hid (hex.trans hx3)
            clear hf hln hlg hsm hb1 hb2 hb3 hst hlb hi3 hx3 hex Hall' Hsm T0 T1
            generalize gearL ms S i = L at *
            go_loopw [80, 15] (fun k n wr => ∃ j : Nat, j ≤ S ∧ k = .int .i64 j ∧ n = .int .i64 (dotT x L j) ∧ Ext w3 wr) (fun k _ _ => S - (intOf k).toNat)
            case atStart => exact ⟨0, by omega, rfl, rfl, Ext.refl _⟩
            case round =>
              obtain ⟨k, hk, rfl, rfl, hxr⟩ := hrel
              by_cases hlk : k < S
              · obtain ⟨bd, rfl, hxc⟩ := Hb.out k hlk
                obtain ⟨fd, rfl, hfc⟩ := Hf.out k hlk
                have hcx : ∀ w', Ext wr w' → w'.cell? (bd.add k) = some (.int .i64 (getI x k)) := fun w' he => hxc k hlk w' (Hw2.out.trans (Hx3.out.trans (hxr.trans he)))
                have hcf : ∀ w', Ext wr w' → w'.cell? (fd.add k) = some (.int .i64 (L k)) := fun w' he => by
                  rw [← Hlg.out k]
                  exact hfc k (by rw [Hln.out]; exact hlk) w' (hxr.trans he)
                have c1 := Hb3.out k hlk
                have c2 := Hb2.out k (by omega)
                have c3 := Hb2.out (k + 1) (by omega)
                have hsum : dotT x L (k + 1) = dotT x L k + getI x k * L k := rfl
                have Hsum := Lib.hid hsum
                rw [hsum] at c3
                rw [Int.mul_comm] at Hsum c1 c3
                have em : IntKind.i64.wrap (L k * getI x k) = L k * getI x k := by rw [IntKind.wrap_i64]; omega
                have ea : IntKind.i64.wrap (dotT x L k + L k * getI x k) = dotT x L k + L k * getI x k := by rw [IntKind.wrap_i64]; omega
                have hki2 : (k : Int) < (S : Int) := by omega
                clear c1 c2 c3 hsum hxc hfc Hb Hf Hlg Hb2 Hb3
                generalize getI x k = y at *
                generalize L k = z at *
                generalize dotT x L k = a at *
                (repeat (first | go_values | go_skip | go_guarded | go_step | go_upon))
                refine ⟨⟨k + 1, by omega, by go_num, by rw [Hsum.out], hxr⟩, ?_⟩
                simp [intOf]
                omega
              · obtain rfl : S = k := by omega
                clear Hb Hf Hlg Hb2 Hb3
                generalize dotT x L S = z at *
                by_cases hz : z = 0
                · subst hz
                  (repeat (first | go_values | go_skip | go_guarded | go_step | go_upon))
                  refine ⟨⟨i + 1, by omega, by go_num, Hx3.out.trans hxr, Hst.out rfl⟩, ?_⟩
                  simp [intOf]
                  omega
                · have hz' : (z == 0) = false := beq_eq_false_iff_ne.2 hz
                  (repeat (first | go_values | go_skip | go_guarded | go_step | go_upon))
                  go_ret
                  exact ⟨rfl, Hw2.out.trans (Hx3.out.trans hxr)⟩
        · obtain rfl : m = i := by omega
          clear Ce HE0 HE1 HLn HLb
          have t0 := fun w' he => T0.out w' (hex.trans he)
          have t1 := fun w' he => T1.out w' (hex.trans he)
          (repeat (first | go_values | go_skip | go_guarded | go_step | go_upon))
          go_at_call 34
          refine (Cab.out _ (Hw2.out.trans hex)).mono ?_
          rintro e w3 ⟨B1, B2, B3, r1, d1, r2, d2, r3, d3, rfl, hx3⟩
          simp only []
          have hex3 := (Hw2.out.trans (hex.trans hx3)).alloc (.cells #[.slice B1 r1 d1, .slice B2 r2 d2, .slice B3 r3 d3] 60)
          have hend := Hend.out hall
          clear Hend Hall' Cab
          rcases hend with ⟨k1, k2⟩ | ⟨hv, I, O, rfl, rfl, hi, ho, hz⟩ | ⟨hv, I, O, rfl, rfl, hi, ho, hd1, hz⟩
          · have k3 : (v != 0) = true := by rw [bne_iff_ne]; exact k1
            have k4 : (v != 41) = true := by rw [bne_iff_ne]; exact k2
            (repeat (first | go_values | go_skip | go_guarded | go_step | go_upon))
            go_ret
            exact ⟨rfl, hex3⟩
          · subst hv
            obtain ⟨bd, rfl, hxc⟩ := Hb.out I hi
            have hci := fun (w' : World) (he : Ext _ w') => hxc I hi w' (hex3.trans he)
            have hii : (I : Int) < (S : Int) := by omega
            have hoo : (O : Int) < (S : Int) := by omega
            have i1 : ¬ (S : Int) ≤ (I : Int) := by omega
            have o1 : ¬ (S : Int) ≤ (O : Int) := by omega
            have i0 : ¬ (I : Int) < 0 := by omega
            have o0 : ¬ (O : Int) < 0 := by omega
            rw [hz] at hci
            clear hz hxc Hb
            (repeat (first | go_values | go_skip | go_guarded | go_step | go_upon))
            go_ret
            exact ⟨rfl, hex3⟩
          · subst hv
            obtain ⟨bd, rfl, hxc⟩ := Hb.out I hi
            have hci := fun (w' : World) (he : Ext _ w') => hxc I hi w' (hex3.trans he)
            have hco := fun (w' : World) (he : Ext _ w') => hxc O ho w' (hex3.trans he)
            have hii : (I : Int) < (S : Int) := by omega
            have hoo : (O : Int) < (S : Int) := by omega
            have i1 : ¬ (S : Int) ≤ (I : Int) := by omega
            have o1 : ¬ (S : Int) ≤ (O : Int) := by omega
            have i0 : ¬ (I : Int) < 0 := by omega
            have o0 : ¬ (O : Int) < 0 := by omega
            have bi := Hsm.out I hi
            have bo := Hsm.out O ho
            clear hxc Hb
            generalize getI x I = xi at *
            generalize getI x O = xo at *
            by_cases k1 : 4398046511104 < num
            · (repeat (first | go_values | go_skip | go_guarded | go_step | go_upon))
              go_ret
              exact ⟨rfl, hex3⟩
            by_cases k2 : num < -4398046511104
            · (repeat (first | go_values | go_skip | go_guarded | go_step | go_upon))
              go_ret
              exact ⟨rfl, hex3⟩
            by_cases k3 : 4398046511104 < den
            · (repeat (first | go_values | go_skip | go_guarded | go_step | go_upon))
              go_ret
              exact ⟨rfl, hex3⟩
            have k4 : ¬ den < 1 := by omega
            have m1 : (xo * den).natAbs ≤ 4611686018427387904 := by
              rw [Int.natAbs_mul]
              exact Nat.le_trans (Nat.mul_le_mul (show xo.natAbs ≤ 1048576 by omega) (show den.natAbs ≤ 4398046511104 by omega)) (by decide)
            have m2 : (xi * num).natAbs ≤ 4611686018427387904 := by
              rw [Int.natAbs_mul]
              exact Nat.le_trans (Nat.mul_le_mul (show xi.natAbs ≤ 1048576 by omega) (show num.natAbs ≤ 4398046511104 by omega)) (by decide)
            have e1 : IntKind.i64.wrap (xo * den) = xo * den := by rw [IntKind.wrap_i64]; omega
            have e2 : IntKind.i64.wrap (xi * num) = xo * den := by rw [IntKind.wrap_i64, ← hz]; omega
            rw [← hz] at m2
            clear m1 m2
            (repeat (first | go_values | go_skip | go_guarded | go_step | go_upon))
            refine wp_region_calm 17 (fun _ _ _ _ => True) (fun _ _ _ _ _ _ h => h) (by kernel_rfl) (by kernel_rfl) ?_
            simp only [List.take_succ_cons, List.take_zero, List.drop_succ_cons, List.drop_zero]
            refine calm_quiet calm_mono_final 17 (by kernel_rfl) ?_
            simp only [List.take_succ_cons, List.take_zero, List.drop_succ_cons, List.drop_zero]
            repeat (go_big_quiet_step (fail))
            refine wpQuiet_nil ?_
            refine calm_nil fun w4 hx4 _ => ?_
            (repeat (first | go_values | go_skip | go_guarded | go_step | go_upon))
            go_ret
            exact ⟨rfl, hex3.trans hx4⟩
end Go.Proofs.Ytbclbcldplmppaa
