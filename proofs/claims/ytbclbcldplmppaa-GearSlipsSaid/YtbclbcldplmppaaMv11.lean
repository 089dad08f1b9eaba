/- What proves a ratio: by the code, where it is refused before the sum. -/
import Derived.Deep.RegionHeld3
import Derived.Test.YtbclbcldplmppaaMv10
namespace Go.Proofs.Ytbclbcldplmppaa
open Go.RowKit

set_option maxRecDepth 100000 in
set_option maxHeartbeats 4000000 in
theorem provesRatioG_bad (A : Option Addr) (c S i o : Nat) (num den : Int) (ms : List Msh) (A1 A2 A3 : Option Addr) (c1 c2 c3 : Nat) (F M T : List Int) (w : World) (hA : MRow w A ms) (ht : trainP S ms) (hi : i < S) (_ho : o < S) (h1 : Ints w A1 F) (h2 : Ints w A2 M) (hl1 : F.length ≤ 1000000) (hl2 : M.length ≤ 1000000) (hden : den ≤ 9223372036854775807) (hbad : ¬ (sizedP F ms.length ∧ T.length = 0 ∧ movesP (gearL ms S) ms.length S M ∧ 0 < getI M i ∧ 1 ≤ den ∧ num.gcd den = 1)) :
    Calls Try.prog 82 #[.agg #[.int .i64 S, .slice A ms.length c], .int .i64 i, .int .i64 o, .int .i64 num, .int .i64 den, .agg #[.slice A1 F.length c1, .slice A2 M.length c2, .slice A3 T.length c3]] w fun e w' => e = .returned (.bool (decide (ratPr (gearL ms S) ms.length S i o num den F M T))) ∧ Ext w w' := by
  have cs := fun (w' : World) (he : Ext w w') => sized_any A1 c1 F ms.length w' (h1.ext he) hl1
  have cm := fun (w' : World) (he : Ext w w') => moves_any A c S ms A2 c2 M w' (hA.ext he) ht (h2.ext he) hl2
  have hx : Ext w ((w.alloc (.cells #[.int .i64 S, .slice A ms.length c] 41)).alloc (.cells #[.slice A1 F.length c1, .slice A2 M.length c2, .slice A3 T.length c3] 60)) := ((Ext.refl w).alloc _).alloc _
  have a0 : ∀ w', Ext ((w.alloc (.cells #[.int .i64 S, .slice A ms.length c] 41)).alloc (.cells #[.slice A1 F.length c1, .slice A2 M.length c2, .slice A3 T.length c3] 60)) w' → w'.cell? ⟨w.heap.size, 0, none⟩ = some (.int .i64 S) := fun w' he => cells_one rfl w' (Ext.trans ((Ext.refl _).alloc _) he)
  have a1 : ∀ w', Ext ((w.alloc (.cells #[.int .i64 S, .slice A ms.length c] 41)).alloc (.cells #[.slice A1 F.length c1, .slice A2 M.length c2, .slice A3 T.length c3] 60)) w' → w'.cell? ⟨w.heap.size, 1, none⟩ = some (.slice A ms.length c) := fun w' he => cells_one rfl w' (Ext.trans ((Ext.refl _).alloc _) he)
  have b0 : ∀ w', Ext ((w.alloc (.cells #[.int .i64 S, .slice A ms.length c] 41)).alloc (.cells #[.slice A1 F.length c1, .slice A2 M.length c2, .slice A3 T.length c3] 60)) w' → w'.cell? ⟨w.heap.size + 1, 0, none⟩ = some (.slice A1 F.length c1) := fun w' he => cells_two rfl w' he
  have b1 : ∀ w', Ext ((w.alloc (.cells #[.int .i64 S, .slice A ms.length c] 41)).alloc (.cells #[.slice A1 F.length c1, .slice A2 M.length c2, .slice A3 T.length c3] 60)) w' → w'.cell? ⟨w.heap.size + 1, 1, none⟩ = some (.slice A2 M.length c2) := fun w' he => cells_two rfl w' he
  have b2 : ∀ w', Ext ((w.alloc (.cells #[.int .i64 S, .slice A ms.length c] 41)).alloc (.cells #[.slice A1 F.length c1, .slice A2 M.length c2, .slice A3 T.length c3] 60)) w' → w'.cell? ⟨w.heap.size + 1, 2, none⟩ = some (.slice A3 T.length c3) := fun w' he => cells_two rfl w' he
  by_cases g1 : sizedP F ms.length
  · rw [decide_eq_true g1] at cs
    by_cases g2 : T.length = 0
    · by_cases g3 : movesP (gearL ms S) ms.length S M
      · rw [decide_eq_true g3] at cm
        have hM : M.length = S := g3.1.1
        obtain ⟨d2, rfl, e2⟩ := h2.some_ (by omega)
        have m1 : ∀ w', Ext w w' → w'.cell? (d2.add i) = some (vint (getI M i)) := fun w' he => e2 i (by omega) w' he
        have hii : (i : Int) < (S : Int) := by omega
        have Cs := Lib.hid cs
        have Cm := Lib.hid cm
        have M1 := Lib.hid m1
        rw [hM] at Cm hx a0 a1 b0 b1 b2 ⊢
        by_cases g4 : 0 < getI M i
        · by_cases g5 : 1 ≤ den
          · have g6 : ¬ num.gcd den = 1 := fun h => hbad ⟨g1, g2, g3, g4, g5, h⟩
            have cl := fun (w' : World) => divisor_any num den w' (by omega) hden (by omega)
            have hdv : ¬ dvS num den = 1 := by unfold dvS; rw [if_neg (by omega)]; omega
            have hdv2 : (dvS num den == 1) = false := beq_eq_false_iff_ne.2 hdv
            have hdv3 : (dvS num den != 1) = true := by rw [bne_iff_ne]; exact hdv
            have Cl := Lib.hid cl
            rw [rat_no6 g6]
            clear cl cs cm m1 hbad g1 g3 g6 hA ht h1 h2 hM e2 hl1 hl2
            generalize getI M i = y1 at *
            generalize F.length = q1 at *
            generalize T.length = q3 at *
            generalize ms.length = m at *
            subst g2
            (first | generalize dvS num den = dv at * | skip)
            have g4y : ¬ y1 < 1 := by omega
            go_enter Try.func82, Try.ntmps82
            go_wp2_with (first
              | (go_at_call 84; (with_reducible refine (Cs.out _ hx).mono ?_); rintro e w1 ⟨rfl, rfl⟩)
              | (go_at_call 88; (with_reducible refine (Cm.out _ hx).mono ?_); rintro e w2 ⟨rfl, hx2⟩; have hxw2 := hx.trans hx2; have k1 := M1.out w2 hxw2)
              | (go_at_call 58; (with_reducible refine (Cl.out _).mono ?_); rintro e w3 ⟨rfl, hx3⟩; have hxw3 := hxw2.trans hx3))
            go_ret
            exact ⟨rfl, hxw3⟩
          · rw [rat_no5 g5]
            have g5' : den < 1 := by omega
            clear cs cm m1 hbad g1 g3 hA ht h1 h2 hM e2 hl1 hl2
            generalize getI M i = y1 at *
            generalize F.length = q1 at *
            generalize T.length = q3 at *
            generalize ms.length = m at *
            subst g2
            (first | generalize dvS num den = dv at * | skip)
            have g4y : ¬ y1 < 1 := by omega
            go_enter Try.func82, Try.ntmps82
            go_wp2_with (first
              | (go_at_call 84; (with_reducible refine (Cs.out _ hx).mono ?_); rintro e w1 ⟨rfl, rfl⟩)
              | (go_at_call 88; (with_reducible refine (Cm.out _ hx).mono ?_); rintro e w2 ⟨rfl, hx2⟩; have hxw2 := hx.trans hx2; have k1 := M1.out w2 hxw2))
            go_ret
            exact ⟨rfl, hxw2⟩
        · rw [rat_no4 g4]
          have g4' : getI M i < 1 := by omega
          clear cs cm m1 hbad g1 g3 hA ht h1 h2 hM e2 hl1 hl2
          generalize getI M i = y1 at *
          generalize F.length = q1 at *
          generalize T.length = q3 at *
          generalize ms.length = m at *
          subst g2
          go_enter Try.func82, Try.ntmps82
          go_wp2_with (first
            | (go_at_call 84; (with_reducible refine (Cs.out _ hx).mono ?_); rintro e w1 ⟨rfl, rfl⟩)
            | (go_at_call 88; (with_reducible refine (Cm.out _ hx).mono ?_); rintro e w2 ⟨rfl, hx2⟩; have hxw2 := hx.trans hx2; have k1 := M1.out w2 hxw2))
          go_ret
          exact ⟨rfl, hxw2⟩
      · rw [rat_no3 g3]
        rw [decide_eq_false g3] at cm
        have Cs := Lib.hid cs
        have Cm := Lib.hid cm
        clear cs cm hbad g1 g3 hA ht h1 h2 hl1 hl2
        generalize F.length = q1 at *
        generalize M.length = q2 at *
        generalize T.length = q3 at *
        generalize ms.length = m at *
        subst g2
        go_enter Try.func82, Try.ntmps82
        go_wp2_with (first
          | (go_at_call 84; (with_reducible refine (Cs.out _ hx).mono ?_); rintro e w1 ⟨rfl, rfl⟩)
          | (go_at_call 88; (with_reducible refine (Cm.out _ hx).mono ?_); rintro e w2 ⟨rfl, hx2⟩; have hxw2 := hx.trans hx2; skip))
        go_ret
        exact ⟨rfl, hxw2⟩
    · rw [rat_no2 g2]
      have Cs := Lib.hid cs
      have g4 : (0 : Int) < (T.length : Int) := by omega
      clear cs cm hbad g1 g2 hA ht h1 h2 hl1 hl2
      generalize F.length = q1 at *
      generalize M.length = q2 at *
      generalize T.length = q3 at *
      generalize ms.length = m at *
      go_enter Try.func82, Try.ntmps82
      go_wp2_with (first
        | (go_at_call 84; (with_reducible refine (Cs.out _ hx).mono ?_); rintro e w1 ⟨rfl, rfl⟩))
      go_ret
      exact ⟨rfl, hx⟩
  · rw [rat_no1 g1]
    rw [decide_eq_false g1] at cs
    have Cs := Lib.hid cs
    clear cs cm hbad g1 hA ht h1 h2 hl1 hl2
    generalize F.length = q1 at *
    generalize M.length = q2 at *
    generalize T.length = q3 at *
    generalize ms.length = m at *
    go_enter Try.func82, Try.ntmps82
    go_wp2_with (first
      | (go_at_call 84; (with_reducible refine (Cs.out _ hx).mono ?_); rintro e w1 ⟨rfl, rfl⟩))
    go_ret
    exact ⟨rfl, hx⟩
end Go.Proofs.Ytbclbcldplmppaa

/- What proves a ratio: by the code, where all but the sum is right. -/
namespace Go.Proofs.Ytbclbcldplmppaa
open Go.RowKit

section
variable {L : Nat → Nat → Int} {m n i o : Nat} {num den : Int} {F M T : List Int}
theorem only_nil {U : Nat → Int} : onlyP (outL n U) [] ↔ ∀ k, k < n → U k = 0 := by
  constructor
  · intro h k hk
    refine Classical.byContradiction fun hne => ?_
    have := h k (by rw [outL_len]; exact hk) (by rw [outL_get hk]; exact hne)
    simp [memB] at this
  · intro h k hk hne
    rw [outL_len] at hk
    rw [outL_get hk, h k hk] at hne
    exact absurd rfl hne
theorem only_two {U : Nat → Int} : onlyP (outL n U) [(i : Int), (o : Int)] ↔ ∀ k, k < n → k ≠ i → k ≠ o → U k = 0 := by
  constructor
  · intro h k hk h1 h2
    refine Classical.byContradiction fun hne => ?_
    have := h k (by rw [outL_len]; exact hk) (by rw [outL_get hk]; exact hne)
    simp only [memB, List.mem_cons, List.not_mem_nil, or_false, decide_eq_true_eq] at this
    omega
  · intro h k hk hne
    rw [outL_len] at hk
    rw [outL_get hk] at hne
    simp only [memB, List.mem_cons, List.not_mem_nil, or_false, decide_eq_true_eq]
    refine Classical.byContradiction fun hno => hne (h k hk ?_ ?_) <;> omega
theorem ratG_same (h1 : sizedP F m) (h2 : T.length = 0) (h3 : movesP L m n M) (h4 : 0 < getI M i) (h5 : 1 ≤ den) (h6 : num.gcd den = 1) : decide (ratPr L m n i i num den F M T) = ((decide (num = 1) && decide (den = 1)) && decide (onlyP (outL n (sumT F L m)) [])) := by
  rw [Bool.eq_iff_iff]
  simp only [Bool.and_eq_true, decide_eq_true_iff]
  rw [only_nil]
  constructor
  · intro h
    have := h.2.2.2.2.2.2
    rw [if_pos rfl] at this
    exact ⟨this.2, this.1⟩
  · rintro ⟨ha, hb⟩
    refine ⟨h1, h2, h3, h4, h5, h6, ?_⟩
    rw [if_pos rfl]
    exact ⟨hb, ha⟩
/-- What the code asks of the two shafts. -/
def ratFin (u v : Int) (num den : Int) : Prop := den ≤ v ∧ v.tmod den = 0 ∧ u.tmod (v.tdiv den) = 0 ∧ -u.tdiv (v.tdiv den) = num
theorem ratFin_iff {u v : Int} (h5 : 1 ≤ den) : ratFin u v num den ↔ ratEnd u v num den := by
  have hq := Int.tdiv_mul_add_tmod v den
  have hkey : v.tmod den = 0 → (den ≤ v ↔ 1 ≤ v.tdiv den) := fun h => by
    rw [h, Int.add_zero] at hq
    constructor
    · intro hv
      refine Classical.byContradiction fun hno => ?_
      have h0 : v.tdiv den ≤ 0 := by omega
      have := Int.mul_nonpos_of_nonneg_of_nonpos (show (0 : Int) ≤ den by omega) h0
      rw [Int.mul_comm] at this
      omega
    · intro hs
      have := Int.mul_le_mul_of_nonneg_right hs (show (0 : Int) ≤ den by omega)
      omega
  unfold ratFin ratEnd
  constructor
  · rintro ⟨a, b, c⟩; exact ⟨b, (hkey b).1 a, c⟩
  · rintro ⟨b, a, c⟩; exact ⟨(hkey b).2 a, b, c⟩
theorem ratG_two (hio : i ≠ o) (h1 : sizedP F m) (h2 : T.length = 0) (h3 : movesP L m n M) (h4 : 0 < getI M i) (h5 : 1 ≤ den) (h6 : num.gcd den = 1) : ratPr L m n i o num den F M T ↔ onlyP (outL n (sumT F L m)) [(i : Int), (o : Int)] ∧ ratFin (sumT F L m i) (sumT F L m o) num den := by
  rw [only_two, ratFin_iff h5]
  constructor
  · intro h
    have := h.2.2.2.2.2.2
    rw [if_neg hio] at this
    exact this
  · intro h
    refine ⟨h1, h2, h3, h4, h5, h6, ?_⟩
    rw [if_neg hio]
    exact h
end

set_option maxRecDepth 100000 in
set_option maxHeartbeats 4000000 in
theorem provesRatioG_good (A : Option Addr) (c S i o : Nat) (num den : Int) (ms : List Msh) (A1 A2 A3 : Option Addr) (c1 c2 c3 : Nat) (F M T : List Int) (w : World) (hA : MRow w A ms) (ht : trainP S ms) (hi : i < S) (ho : o < S) (h1 : Ints w A1 F) (h2 : Ints w A2 M) (hl1 : F.length ≤ 1000000) (hl2 : M.length ≤ 1000000) (hden : den ≤ 9223372036854775807) (hnum : -9223372036854775808 ≤ num ∧ num ≤ 9223372036854775807) (hgood : (sizedP F ms.length ∧ T.length = 0 ∧ movesP (gearL ms S) ms.length S M ∧ 0 < getI M i ∧ 1 ≤ den ∧ num.gcd den = 1)) :
    Calls Try.prog 82 #[.agg #[.int .i64 S, .slice A ms.length c], .int .i64 i, .int .i64 o, .int .i64 num, .int .i64 den, .agg #[.slice A1 F.length c1, .slice A2 M.length c2, .slice A3 T.length c3]] w fun e w' => e = .returned (.bool (decide (ratPr (gearL ms S) ms.length S i o num den F M T))) ∧ Ext w w' := by
  have cs := fun (w' : World) (he : Ext w w') => sized_any A1 c1 F ms.length w' (h1.ext he) hl1
  have cm := fun (w' : World) (he : Ext w w') => moves_any A c S ms A2 c2 M w' (hA.ext he) ht (h2.ext he) hl2
  have hx : Ext w ((w.alloc (.cells #[.int .i64 S, .slice A ms.length c] 41)).alloc (.cells #[.slice A1 F.length c1, .slice A2 M.length c2, .slice A3 T.length c3] 60)) := ((Ext.refl w).alloc _).alloc _
  have a0 : ∀ w', Ext ((w.alloc (.cells #[.int .i64 S, .slice A ms.length c] 41)).alloc (.cells #[.slice A1 F.length c1, .slice A2 M.length c2, .slice A3 T.length c3] 60)) w' → w'.cell? ⟨w.heap.size, 0, none⟩ = some (.int .i64 S) := fun w' he => cells_one rfl w' (Ext.trans ((Ext.refl _).alloc _) he)
  have a1 : ∀ w', Ext ((w.alloc (.cells #[.int .i64 S, .slice A ms.length c] 41)).alloc (.cells #[.slice A1 F.length c1, .slice A2 M.length c2, .slice A3 T.length c3] 60)) w' → w'.cell? ⟨w.heap.size, 1, none⟩ = some (.slice A ms.length c) := fun w' he => cells_one rfl w' (Ext.trans ((Ext.refl _).alloc _) he)
  have b0 : ∀ w', Ext ((w.alloc (.cells #[.int .i64 S, .slice A ms.length c] 41)).alloc (.cells #[.slice A1 F.length c1, .slice A2 M.length c2, .slice A3 T.length c3] 60)) w' → w'.cell? ⟨w.heap.size + 1, 0, none⟩ = some (.slice A1 F.length c1) := fun w' he => cells_two rfl w' he
  have b1 : ∀ w', Ext ((w.alloc (.cells #[.int .i64 S, .slice A ms.length c] 41)).alloc (.cells #[.slice A1 F.length c1, .slice A2 M.length c2, .slice A3 T.length c3] 60)) w' → w'.cell? ⟨w.heap.size + 1, 1, none⟩ = some (.slice A2 M.length c2) := fun w' he => cells_two rfl w' he
  have b2 : ∀ w', Ext ((w.alloc (.cells #[.int .i64 S, .slice A ms.length c] 41)).alloc (.cells #[.slice A1 F.length c1, .slice A2 M.length c2, .slice A3 T.length c3] 60)) w' → w'.cell? ⟨w.heap.size + 1, 2, none⟩ = some (.slice A3 T.length c3) := fun w' he => cells_two rfl w' he
  obtain ⟨g1, g2, g3, g4, g5, g6⟩ := hgood
  have h8 : S ≤ 8 := by have := ht.2.1; omega
  rw [decide_eq_true g1] at cs
  rw [decide_eq_true g3] at cm
  have cl := fun (w' : World) => divisor_any num den w' (by omega) hden (by omega)
  have hdv : dvS num den = 1 := by unfold dvS; rw [if_neg (by omega), g6]; rfl
  rw [hdv] at cl
  have cu := fun (w' : World) (he : Ext w w') => sum_any A c S ms A1 c1 F w' (hA.ext he) ht (h1.ext he) g1
  have hM : M.length = S := g3.1.1
  obtain ⟨d2, rfl, e2⟩ := h2.some_ (by omega)
  have m1 : ∀ w', Ext w w' → w'.cell? (d2.add i) = some (vint (getI M i)) := fun w' he => e2 i (by omega) w' he
  have hii : (i : Int) < (S : Int) := by omega
  have hoo : (o : Int) < (S : Int) := by omega
  have hl16 := ht.2.2.1
  have hsm := fun (k : Nat) (hk : k < S) => sumT_bound (m := ms.length) g1.bound (gearL_bound ht) hk (Nat.le_refl _)
  have hsame : i = o → decide (ratPr (gearL ms S) ms.length S i o num den F M T) = ((decide (num = 1) && decide (den = 1)) && decide (onlyP (outL S (sumT F (gearL ms S) ms.length)) [])) := fun e => by subst e; exact ratG_same g1 g2 g3 g4 g5 g6
  have htwo : i ≠ o → (ratPr (gearL ms S) ms.length S i o num den F M T ↔ onlyP (outL S (sumT F (gearL ms S) ms.length)) [(i : Int), (o : Int)] ∧ ratFin (sumT F (gearL ms S) ms.length i) (sumT F (gearL ms S) ms.length o) num den) := fun e => ratG_two e g1 g2 g3 g4 g5 g6
  have Cs := Lib.hid cs
  have Cm := Lib.hid cm
  have Cl := Lib.hid cl
  have Cu := Lib.hid cu
  have M1 := Lib.hid m1
  have Hsm := Lib.hid hsm
  have Hsame := Lib.hid hsame
  have Htwo := Lib.hid htwo
  rw [hM] at Cm hx a0 a1 b0 b1 b2 ⊢
  clear cs cm cl cu m1 hsm hsame htwo hdv g1 g3 g6 hA ht h1 h2 hM e2 hl1 hl2
  generalize hres : decide (ratPr (gearL ms S) ms.length S i o num den F M T) = res at *
  have hresb : (ratPr (gearL ms S) ms.length S i o num den F M T) ↔ res = true := by rw [← hres, decide_eq_true_iff]
  have Hres := Lib.hid hresb
  clear hres hresb
  generalize ratPr (gearL ms S) ms.length S i o num den F M T = R at *
  generalize sumT F (gearL ms S) ms.length = U at *
  generalize getI M i = y1 at *
  generalize F.length = q1 at *
  generalize T.length = q3 at *
  generalize ms.length = m at *
  subst g2
  have hul : (outL S U).length = S := outL_len _ _
  have con := fun (g : Nat) (B : Option Addr) (all : List Int) (hal : all.length ≤ 2) (w' : World) (h : Ints w' (some ⟨g, 0, none⟩) (outL S U)) (hc : Ints w' B all) => only_any (some ⟨g, 0, none⟩) S (outL S U) B all.length all w' h hc (by rw [hul]; omega) (by omega)
  have cat := fun (k : Nat) (hk : k < S) (g : Nat) (w' : World) (h : Ints w' (some ⟨g, 0, none⟩) (outL S U)) => at_any (some ⟨g, 0, none⟩) S k (outL S U) w' h (by rw [hul]; exact hk)
  have c0n : ∀ (g : Nat) (w' : World) (_ : Ints w' (some ⟨g, 0, none⟩) (outL S U)), Calls Try.prog 86 #[.slice (some ⟨g, 0, none⟩) S S, .slice none 0 0] w' fun e w'' => e = .returned (.bool (decide (onlyP (outL S U) []))) ∧ w' = w'' := fun g w' h => by
    have := only_any (some ⟨g, 0, none⟩) S (outL S U) none 0 [] w' h (Ints.nil _ _) (by rw [hul]; omega) (by simp)
    rwa [hul] at this
  have c2n : ∀ (g gl : Nat) (w' : World) (_ : Ints w' (some ⟨g, 0, none⟩) (outL S U)) (_ : w'.cell? ⟨gl, 0, none⟩ = some (vint i)) (_ : w'.cell? ⟨gl, 1, none⟩ = some (vint o)), Calls Try.prog 86 #[.slice (some ⟨g, 0, none⟩) S S, .slice (some ⟨gl, 0, none⟩) 2 2] w' fun e w'' => e = .returned (.bool (decide (onlyP (outL S U) [(i : Int), (o : Int)]))) ∧ w' = w'' := fun g gl w' h hc hc' => by
    have := only_any (some ⟨g, 0, none⟩) S (outL S U) (some ⟨gl, 0, none⟩) 2 [(i : Int), (o : Int)] w' h (ints_two hc hc') (by rw [hul]; omega) (by simp)
    rwa [hul] at this
  have cai : ∀ (g : Nat) (w' : World) (_ : Ints w' (some ⟨g, 0, none⟩) (outL S U)), Calls Try.prog 78 #[.slice (some ⟨g, 0, none⟩) S S, .int .i64 i] w' fun e w'' => e = .returned (.int .i64 (U i)) ∧ w' = w'' := fun g w' h => by
    have := at_any (some ⟨g, 0, none⟩) S i (outL S U) w' h (by rw [hul]; exact hi)
    rwa [hul, outL_get hi] at this
  have cao : ∀ (g : Nat) (w' : World) (_ : Ints w' (some ⟨g, 0, none⟩) (outL S U)), Calls Try.prog 78 #[.slice (some ⟨g, 0, none⟩) S S, .int .i64 o] w' fun e w'' => e = .returned (.int .i64 (U o)) ∧ w' = w'' := fun g w' h => by
    have := at_any (some ⟨g, 0, none⟩) S o (outL S U) w' h (by rw [hul]; exact ho)
    rwa [hul, outL_get ho] at this
  have C0n := Lib.hid c0n
  have C2n := Lib.hid c2n
  have Cai := Lib.hid cai
  have Cao := Lib.hid cao
  have Hul := Lib.hid hul
  clear con cat c0n c2n cai cao hul
  have g4' : ¬ y1 < 1 := by omega
  have g5' : ¬ den < 1 := by omega
  by_cases eio : i = o
  · have Hr := Lib.hid (Hsame.out eio)
    subst eio
    clear Hsame Htwo Hsm
    by_cases z1 : num = 1
    · by_cases z2 : den = 1
      · subst z1 z2
        have hr : decide (onlyP (outL S U) []) = res := by rw [Hr.out]; simp
        have Hr2 := Lib.hid hr
        clear hr
        generalize decide (onlyP (outL S U) []) = b at *
        go_enter Try.func82, Try.ntmps82
        go_wp2_with (first
          | (go_at_call 84; (with_reducible refine (Cs.out _ hx).mono ?_); rintro e w1 ⟨rfl, rfl⟩)
          | (go_at_call 88; (with_reducible refine (Cm.out _ hx).mono ?_); rintro e w2 ⟨rfl, hx2⟩; have hxw2 := hx.trans hx2; have k1 := M1.out w2 hxw2)
          | (go_at_call 58; (with_reducible refine (Cl.out _).mono ?_); rintro e w3 ⟨rfl, hx3⟩; have hxw3 := hxw2.trans hx3; have hxb3 := hx2.trans hx3)
          | (go_at_call 85; (with_reducible refine (Cu.out _ hxw3).mono ?_); rintro e w4 ⟨g, rfl, hn⟩; rw [Hul.out]; have hw4 := hxw3.trans hn.ext)
          | (go_at_call 86; refine (C0n.out g _ hn.ints).mono ?_; rintro e w5 ⟨rfl, rfl⟩))
        go_ret
        exact ⟨ret_b Hr2.out, hw4⟩
      · have Hr2 := Lib.hid (show false = res by rw [Hr.out, decide_eq_false z2, Bool.and_false, Bool.false_and])
        have z2' : (den == 1) = false := beq_eq_false_iff_ne.2 z2
        subst z1
        go_enter Try.func82, Try.ntmps82
        go_wp2_with (first
          | (go_at_call 84; (with_reducible refine (Cs.out _ hx).mono ?_); rintro e w1 ⟨rfl, rfl⟩)
          | (go_at_call 88; (with_reducible refine (Cm.out _ hx).mono ?_); rintro e w2 ⟨rfl, hx2⟩; have hxw2 := hx.trans hx2; have k1 := M1.out w2 hxw2)
          | (go_at_call 58; (with_reducible refine (Cl.out _).mono ?_); rintro e w3 ⟨rfl, hx3⟩; have hxw3 := hxw2.trans hx3; have hxb3 := hx2.trans hx3)
          | (go_at_call 85; (with_reducible refine (Cu.out _ hxw3).mono ?_); rintro e w4 ⟨g, rfl, hn⟩; rw [Hul.out]; have hw4 := hxw3.trans hn.ext))
        go_ret
        exact ⟨ret_b Hr2.out, hw4⟩
    · have Hr2 := Lib.hid (show false = res by rw [Hr.out, decide_eq_false z1, Bool.false_and, Bool.false_and])
      have z1' : (num == 1) = false := beq_eq_false_iff_ne.2 z1
      go_enter Try.func82, Try.ntmps82
      go_wp2_with (first
        | (go_at_call 84; (with_reducible refine (Cs.out _ hx).mono ?_); rintro e w1 ⟨rfl, rfl⟩)
        | (go_at_call 88; (with_reducible refine (Cm.out _ hx).mono ?_); rintro e w2 ⟨rfl, hx2⟩; have hxw2 := hx.trans hx2; have k1 := M1.out w2 hxw2)
        | (go_at_call 58; (with_reducible refine (Cl.out _).mono ?_); rintro e w3 ⟨rfl, hx3⟩; have hxw3 := hxw2.trans hx3; have hxb3 := hx2.trans hx3)
        | (go_at_call 85; (with_reducible refine (Cu.out _ hxw3).mono ?_); rintro e w4 ⟨g, rfl, hn⟩; rw [Hul.out]; have hw4 := hxw3.trans hn.ext))
      go_ret
      exact ⟨ret_b Hr2.out, hw4⟩
  · have x0 : ((i : Int) == (o : Int)) = false := beq_eq_false_iff_ne.2 (by omega)
    have Hr := Lib.hid (Htwo.out eio)
    have hbu := Hsm.out i hi
    have hbv := Hsm.out o ho
    have hno : ∀ b : Bool, (R ↔ b = true) → b = res := fun b h => by
      have := Hres.out
      rw [Bool.eq_iff_iff, ← h, this]
    have Hno := Lib.hid hno
    clear Hsame Htwo Hsm hno
    generalize hou : decide (onlyP (outL S U) [(i : Int), (o : Int)]) = ob at *
    have hob : onlyP (outL S U) [(i : Int), (o : Int)] ↔ ob = true := by rw [← hou, decide_eq_true_iff]
    have Hob := Lib.hid hob
    clear hou hob
    generalize U i = u at *
    generalize U o = v at *
    have hbu' : u.natAbs < 9223372036854775807 := by omega
    have hbv' : v.natAbs < 9223372036854775807 := by omega
    have hd0 : ¬ den = 0 := by omega
    have hd1 : (den == 0) = false := beq_eq_false_iff_ne.2 hd0
    obtain ⟨s, hs⟩ : ∃ s, v.tdiv den = s := ⟨_, rfl⟩
    have q1e : IntKind.i64.wrap (v.tdiv den) = s := by rw [wrap_fit (tdiv_fit hbv')]; exact hs
    have q2e := wrap_fit (tdiv_fit (s := s) hbu')
    have hqb := tdiv_fit (s := s) hbu'
    have hfin : ratFin u v num den ↔ den ≤ v ∧ v.tmod den = 0 ∧ u.tmod s = 0 ∧ -u.tdiv s = num := by rw [← hs]; exact Iff.rfl
    have hspos : den ≤ v → v.tmod den = 0 → 1 ≤ s := fun h1 h2 => by
      have := (ratFin_iff (u := 0) (v := v) (num := 0) (den := den) (by omega)).1 ⟨h1, h2, by simp, by simp⟩
      rw [← hs]
      exact this.2.1
    have Hfin := Lib.hid hfin
    have Hspos := Lib.hid hspos
    clear hfin hspos hbu hbv hbu' hbv' hs
    cases ob
    · have Hr2 := Lib.hid (Hno.out false (by rw [Hr.out, Hob.out]; simp))
      go_enter Try.func82, Try.ntmps82
      go_wp2_with (first
        | (go_at_call 84; (with_reducible refine (Cs.out _ hx).mono ?_); rintro e w1 ⟨rfl, rfl⟩)
        | (go_at_call 88; (with_reducible refine (Cm.out _ hx).mono ?_); rintro e w2 ⟨rfl, hx2⟩; have hxw2 := hx.trans hx2; have k1 := M1.out w2 hxw2)
        | (go_at_call 58; (with_reducible refine (Cl.out _).mono ?_); rintro e w3 ⟨rfl, hx3⟩; have hxw3 := hxw2.trans hx3; have hxb3 := hx2.trans hx3)
        | (go_at_call 85; (with_reducible refine (Cu.out _ hxw3).mono ?_); rintro e w4 ⟨g, rfl, hn⟩; rw [Hul.out]; have hw4 := hxw3.trans hn.ext; have hn5 := hn.later ((Ext.refl w4).alloc (.cells #[.int .i64 i, .int .i64 o] 3)))
        | (go_at_call 86; refine (C2n.out g _ _ hn5.ints (cells_last rfl rfl) (cells_last rfl rfl)).mono ?_; rintro e w5 ⟨rfl, rfl⟩))
      go_ret
      exact ⟨ret_b Hr2.out, hw4.trans ((Ext.refl _).alloc _)⟩
    · by_cases z1 : den ≤ v
      · have z1' : ¬ v < den := by omega
        by_cases z2 : v.tmod den = 0
        · have z2' : (v.tmod den != 0) = false := by rw [z2]; rfl
          have hs1 := Hspos.out z1 z2
          have hs0 : ¬ s = 0 := by omega
          have hs2 : (s == 0) = false := beq_eq_false_iff_ne.2 hs0
          by_cases z3 : u.tmod s = 0
          · have hw := hnum
            have hneg : IntKind.i64.wrap (-num) = (if num = -9223372036854775808 then -9223372036854775808 else -num) := by rw [IntKind.wrap_i64]; split <;> omega
            have hcmp : (u.tdiv s == IntKind.i64.wrap (-num)) = decide (-u.tdiv s = num) := by
              rw [hneg, Bool.eq_iff_iff, beq_iff_eq, decide_eq_true_iff]
              split <;> omega
            have Hr2 := Lib.hid (Hno.out (u.tdiv s == IntKind.i64.wrap (-num)) (by rw [Hr.out, Hob.out, Hfin.out, hcmp, decide_eq_true_iff]; simp [z1, z2, z3]))
            obtain ⟨nn, hnn⟩ : ∃ nn, IntKind.i64.wrap (-num) = nn := ⟨_, rfl⟩
            rw [hnn] at Hr2
            clear hneg hcmp hw hqb
            go_enter Try.func82, Try.ntmps82
            go_wp2_with (first
              | (go_at_call 84; (with_reducible refine (Cs.out _ hx).mono ?_); rintro e w1 ⟨rfl, rfl⟩)
              | (go_at_call 88; (with_reducible refine (Cm.out _ hx).mono ?_); rintro e w2 ⟨rfl, hx2⟩; have hxw2 := hx.trans hx2; have k1 := M1.out w2 hxw2)
              | (go_at_call 58; (with_reducible refine (Cl.out _).mono ?_); rintro e w3 ⟨rfl, hx3⟩; have hxw3 := hxw2.trans hx3; have hxb3 := hx2.trans hx3)
              | (go_at_call 85; (with_reducible refine (Cu.out _ hxw3).mono ?_); rintro e w4 ⟨g, rfl, hn⟩; rw [Hul.out]; have hw4 := hxw3.trans hn.ext; have hn5 := hn.later ((Ext.refl w4).alloc (.cells #[.int .i64 i, .int .i64 o] 3)))
              | (go_at_call 86; refine (C2n.out g _ _ hn5.ints (cells_last rfl rfl) (cells_last rfl rfl)).mono ?_; rintro e w5 ⟨rfl, rfl⟩)
              | (go_at_call 78; first | ((with_reducible refine (Cai.out g _ hn5.ints).mono ?_); rintro e w6 ⟨rfl, rfl⟩) | ((with_reducible refine (Cao.out g _ hn5.ints).mono ?_); rintro e w6 ⟨rfl, rfl⟩)))
            go_ret
            exact ⟨ret_b Hr2.out, hw4.trans ((Ext.refl _).alloc _)⟩
          · have Hr2 := Lib.hid (Hno.out false (by rw [Hr.out, Hob.out, Hfin.out]; simp [z3]))
            have z3' : (u.tmod s == 0) = false := beq_eq_false_iff_ne.2 z3
            go_enter Try.func82, Try.ntmps82
            go_wp2_with (first
              | (go_at_call 84; (with_reducible refine (Cs.out _ hx).mono ?_); rintro e w1 ⟨rfl, rfl⟩)
              | (go_at_call 88; (with_reducible refine (Cm.out _ hx).mono ?_); rintro e w2 ⟨rfl, hx2⟩; have hxw2 := hx.trans hx2; have k1 := M1.out w2 hxw2)
              | (go_at_call 58; (with_reducible refine (Cl.out _).mono ?_); rintro e w3 ⟨rfl, hx3⟩; have hxw3 := hxw2.trans hx3; have hxb3 := hx2.trans hx3)
              | (go_at_call 85; (with_reducible refine (Cu.out _ hxw3).mono ?_); rintro e w4 ⟨g, rfl, hn⟩; rw [Hul.out]; have hw4 := hxw3.trans hn.ext; have hn5 := hn.later ((Ext.refl w4).alloc (.cells #[.int .i64 i, .int .i64 o] 3)))
              | (go_at_call 86; refine (C2n.out g _ _ hn5.ints (cells_last rfl rfl) (cells_last rfl rfl)).mono ?_; rintro e w5 ⟨rfl, rfl⟩)
              | (go_at_call 78; first | ((with_reducible refine (Cai.out g _ hn5.ints).mono ?_); rintro e w6 ⟨rfl, rfl⟩) | ((with_reducible refine (Cao.out g _ hn5.ints).mono ?_); rintro e w6 ⟨rfl, rfl⟩)))
            go_ret
            exact ⟨ret_b Hr2.out, hw4.trans ((Ext.refl _).alloc _)⟩
        · have Hr2 := Lib.hid (Hno.out false (by rw [Hr.out, Hob.out, Hfin.out]; simp [z2]))
          have z2' : (v.tmod den == 0) = false := beq_eq_false_iff_ne.2 z2
          have z2'' : (v.tmod den != 0) = true := by rw [bne_iff_ne]; exact z2
          have zem : v.tmod den = v % den := Int.tmod_eq_emod_of_nonneg (by omega)
          rw [zem] at z2 z2' z2''
          go_enter Try.func82, Try.ntmps82
          go_wp2_with (first
            | (go_at_call 84; (with_reducible refine (Cs.out _ hx).mono ?_); rintro e w1 ⟨rfl, rfl⟩)
            | (go_at_call 88; (with_reducible refine (Cm.out _ hx).mono ?_); rintro e w2 ⟨rfl, hx2⟩; have hxw2 := hx.trans hx2; have k1 := M1.out w2 hxw2)
            | (go_at_call 58; (with_reducible refine (Cl.out _).mono ?_); rintro e w3 ⟨rfl, hx3⟩; have hxw3 := hxw2.trans hx3; have hxb3 := hx2.trans hx3)
            | (go_at_call 85; (with_reducible refine (Cu.out _ hxw3).mono ?_); rintro e w4 ⟨g, rfl, hn⟩; rw [Hul.out]; have hw4 := hxw3.trans hn.ext; have hn5 := hn.later ((Ext.refl w4).alloc (.cells #[.int .i64 i, .int .i64 o] 3)))
            | (go_at_call 86; refine (C2n.out g _ _ hn5.ints (cells_last rfl rfl) (cells_last rfl rfl)).mono ?_; rintro e w5 ⟨rfl, rfl⟩)
            | (go_at_call 78; first | ((with_reducible refine (Cai.out g _ hn5.ints).mono ?_); rintro e w6 ⟨rfl, rfl⟩) | ((with_reducible refine (Cao.out g _ hn5.ints).mono ?_); rintro e w6 ⟨rfl, rfl⟩)))
          go_ret
          exact ⟨ret_b Hr2.out, hw4.trans ((Ext.refl _).alloc _)⟩
      · have z1' : v < den := by omega
        have Hr2 := Lib.hid (Hno.out false (by rw [Hr.out, Hob.out, Hfin.out]; simp [z1]))
        go_enter Try.func82, Try.ntmps82
        go_wp2_with (first
          | (go_at_call 84; (with_reducible refine (Cs.out _ hx).mono ?_); rintro e w1 ⟨rfl, rfl⟩)
          | (go_at_call 88; (with_reducible refine (Cm.out _ hx).mono ?_); rintro e w2 ⟨rfl, hx2⟩; have hxw2 := hx.trans hx2; have k1 := M1.out w2 hxw2)
          | (go_at_call 58; (with_reducible refine (Cl.out _).mono ?_); rintro e w3 ⟨rfl, hx3⟩; have hxw3 := hxw2.trans hx3; have hxb3 := hx2.trans hx3)
          | (go_at_call 85; (with_reducible refine (Cu.out _ hxw3).mono ?_); rintro e w4 ⟨g, rfl, hn⟩; rw [Hul.out]; have hw4 := hxw3.trans hn.ext; have hn5 := hn.later ((Ext.refl w4).alloc (.cells #[.int .i64 i, .int .i64 o] 3)))
          | (go_at_call 86; refine (C2n.out g _ _ hn5.ints (cells_last rfl rfl) (cells_last rfl rfl)).mono ?_; rintro e w5 ⟨rfl, rfl⟩)
          | (go_at_call 78; first | ((with_reducible refine (Cai.out g _ hn5.ints).mono ?_); rintro e w6 ⟨rfl, rfl⟩) | ((with_reducible refine (Cao.out g _ hn5.ints).mono ?_); rintro e w6 ⟨rfl, rfl⟩)))
        go_ret
        exact ⟨ret_b Hr2.out, hw4.trans ((Ext.refl _).alloc _)⟩
end Go.Proofs.Ytbclbcldplmppaa

/- A ratio's proof checked, by the code. -/
namespace Go.Proofs.Ytbclbcldplmppaa
open Go.RowKit

theorem provesRatio_any (A : Option Addr) (c S i o : Nat) (num den : Int) (ms : List Msh) (A1 A2 A3 : Option Addr) (c1 c2 c3 : Nat) (F M T : List Int) (w : World) (hA : MRow w A ms) (ht : trainP S ms) (hi : i < S) (ho : o < S) (h1 : Ints w A1 F) (h2 : Ints w A2 M) (hl1 : F.length ≤ 1000000) (hl2 : M.length ≤ 1000000) (hden : den ≤ 9223372036854775807) (hnum : -9223372036854775808 ≤ num ∧ num ≤ 9223372036854775807) :
    Calls Try.prog 82 #[.agg #[.int .i64 S, .slice A ms.length c], .int .i64 i, .int .i64 o, .int .i64 num, .int .i64 den, .agg #[.slice A1 F.length c1, .slice A2 M.length c2, .slice A3 T.length c3]] w fun e w' => e = .returned (.bool (decide (ratPr (gearL ms S) ms.length S i o num den F M T))) ∧ Ext w w' := by
  by_cases h : sizedP F ms.length ∧ T.length = 0 ∧ movesP (gearL ms S) ms.length S M ∧ 0 < getI M i ∧ 1 ≤ den ∧ num.gcd den = 1
  · exact provesRatioG_good A c S i o num den ms A1 A2 A3 c1 c2 c3 F M T w hA ht hi ho h1 h2 hl1 hl2 hden hnum h
  · exact provesRatioG_bad A c S i o num den ms A1 A2 A3 c1 c2 c3 F M T w hA ht hi ho h1 h2 hl1 hl2 hden h

set_option maxRecDepth 100000 in
set_option maxHeartbeats 4000000 in
theorem checkRatio_any (A : Option Addr) (c : Nat) (s : Int) (ms : List Msh) (i o num den : Int) (A1 A2 A3 : Option Addr) (c1 c2 c3 : Nat) (F M T : List Int) (w : World) (hA : MRow w A ms) (hl : ms.length ≤ 1000000) (h1 : Ints w A1 F) (h2 : Ints w A2 M) (hl1 : F.length ≤ 1000000) (hl2 : M.length ≤ 1000000) (hden : den ≤ 9223372036854775807) (hnum : -9223372036854775808 ≤ num ∧ num ≤ 9223372036854775807) :
    Calls Try.prog 37 #[.agg #[.int .i64 s, .slice A ms.length c], .int .i64 i, .int .i64 o, .int .i64 num, .int .i64 den, .agg #[.slice A1 F.length c1, .slice A2 M.length c2, .slice A3 T.length c3]] w fun e w' => e = .returned (.int .i64 (ratE s ms i o num den F M T)) ∧ Ext w w' := by
  have c0 : ∀ (g : Nat) (w' : World) (_ : Ext w w') (_ : w'.cell? ⟨g, 0, none⟩ = some (vint i)) (_ : w'.cell? ⟨g, 1, none⟩ = some (vint o)), Calls Try.prog 73 #[.agg #[.int .i64 s, .slice A ms.length c], .slice (some ⟨g, 0, none⟩) 2 2] w' fun e w'' => e = .returned (.int .i64 (askE s ms [i, o])) ∧ Ext w' w'' :=
    fun g w' he hc hc' => asked_any A c s ms (some ⟨g, 0, none⟩) 2 [i, o] w' (hA.ext he) hl (ints_two hc hc') (by simp)
  have cA := c0 (w.heap.size + 1 + 1) (((w.alloc (.cells #[.int .i64 s, .slice A ms.length c] 41)).alloc (.cells #[.slice A1 F.length c1, .slice A2 M.length c2, .slice A3 T.length c3] 60)).alloc (.cells #[.int .i64 i, .int .i64 o] 3)) (((((Ext.refl w).alloc _).alloc _).alloc _)) (cells_three rfl _ (Ext.refl _)) (cells_three rfl _ (Ext.refl _))
  have C0 := Lib.hid cA
  clear c0 cA
  have hx : Ext w ((w.alloc (.cells #[.int .i64 s, .slice A ms.length c] 41)).alloc (.cells #[.slice A1 F.length c1, .slice A2 M.length c2, .slice A3 T.length c3] 60)) := ((Ext.refl w).alloc _).alloc _
  have a0 : ∀ w', Ext ((w.alloc (.cells #[.int .i64 s, .slice A ms.length c] 41)).alloc (.cells #[.slice A1 F.length c1, .slice A2 M.length c2, .slice A3 T.length c3] 60)) w' → w'.cell? ⟨w.heap.size, 0, none⟩ = some (.int .i64 s) := fun w' he => cells_one rfl w' (Ext.trans ((Ext.refl _).alloc _) he)
  have a1 : ∀ w', Ext ((w.alloc (.cells #[.int .i64 s, .slice A ms.length c] 41)).alloc (.cells #[.slice A1 F.length c1, .slice A2 M.length c2, .slice A3 T.length c3] 60)) w' → w'.cell? ⟨w.heap.size, 1, none⟩ = some (.slice A ms.length c) := fun w' he => cells_one rfl w' (Ext.trans ((Ext.refl _).alloc _) he)
  have b0 : ∀ w', Ext ((w.alloc (.cells #[.int .i64 s, .slice A ms.length c] 41)).alloc (.cells #[.slice A1 F.length c1, .slice A2 M.length c2, .slice A3 T.length c3] 60)) w' → w'.cell? ⟨w.heap.size + 1, 0, none⟩ = some (.slice A1 F.length c1) := fun w' he => cells_two rfl w' he
  have b1 : ∀ w', Ext ((w.alloc (.cells #[.int .i64 s, .slice A ms.length c] 41)).alloc (.cells #[.slice A1 F.length c1, .slice A2 M.length c2, .slice A3 T.length c3] 60)) w' → w'.cell? ⟨w.heap.size + 1, 1, none⟩ = some (.slice A2 M.length c2) := fun w' he => cells_two rfl w' he
  have b2 : ∀ w', Ext ((w.alloc (.cells #[.int .i64 s, .slice A ms.length c] 41)).alloc (.cells #[.slice A1 F.length c1, .slice A2 M.length c2, .slice A3 T.length c3] 60)) w' → w'.cell? ⟨w.heap.size + 1, 2, none⟩ = some (.slice A3 T.length c3) := fun w' he => cells_two rfl w' he
  by_cases hz : askE s ms [i, o] = 0
  · obtain ⟨S, I, O, rfl, rfl, rfl, hi, ho, ht⟩ := ask_two hz
    have e1 : ratE (S : Int) ms (I : Int) (O : Int) num den F M T = if decide (ratPr (gearL ms S) ms.length S I O num den F M T) = true then 0 else 31 := by unfold ratE; rw [if_pos hz]; rfl
    rw [e1]
    rw [hz] at C0
    have c1' := fun (w' : World) (he : Ext w w') => provesRatio_any A c S I O num den ms A1 A2 A3 c1 c2 c3 F M T w' (hA.ext he) ht hi ho (h1.ext he) (h2.ext he) hl1 hl2 hden hnum
    have C1 := Lib.hid c1'
    clear c1' e1 hz hA h1 h2 hl ht hl1 hl2 hnum
    generalize decide (ratPr (gearL ms S) ms.length S I O num den F M T) = b at *
    generalize F.length = q1 at *
    generalize M.length = q2 at *
    generalize T.length = q3 at *
    generalize ms.length = m at *
    cases b
    all_goals
      go_enter Try.func37, Try.ntmps37
      go_wp2_with (first
        | (go_at_call 73; (with_reducible refine C0.out.mono ?_); rintro e w1 ⟨rfl, hx1⟩; have hxb1 := Ext.trans ((Ext.refl _).alloc _) hx1; have hxw1 := hx.trans hxb1)
        | (go_at_call 82; (with_reducible refine (C1.out _ hxw1).mono ?_); rintro e w2 ⟨rfl, hx2⟩)
        | (go_at_call 81; refine (verdict_code _ _).mono ?_; rintro e w5 ⟨rfl, rfl⟩))
      go_ret
      exact ⟨rfl, hxw1.trans hx2⟩
  · have e1 : ratE s ms i o num den F M T = askE s ms [i, o] := by unfold ratE; exact if_neg hz
    rw [e1]
    generalize askE s ms [i, o] = X at *
    clear hA h1 h2 hl e1 hl1 hl2 hnum
    generalize F.length = q1 at *
    generalize M.length = q2 at *
    generalize T.length = q3 at *
    generalize ms.length = m at *
    go_enter Try.func37, Try.ntmps37
    go_wp2_with (first
      | (go_at_call 73; (with_reducible refine C0.out.mono ?_); rintro e w1 ⟨rfl, hx1⟩; have hxb1 := Ext.trans ((Ext.refl _).alloc _) hx1; have hxw1 := hx.trans hxb1))
    go_ret
    exact ⟨rfl, hxw1⟩

set_option maxRecDepth 100000 in
theorem greatProof_any (A1 A2 A3 : Option Addr) (c1 c2 c3 q1 q2 q3 : Nat) (w : World) :
    Calls Try.prog 33 #[.agg #[.slice A1 q1 c1, .slice A2 q2 c2, .slice A3 q3 c3]] w fun e w' => e = .returned (.bool (decide ((100 : Int) < (q1 : Int)) || decide ((100 : Int) < (q2 : Int)) || decide ((100 : Int) < (q3 : Int)))) ∧ Ext w w' := by
  cases z1 : decide ((100 : Int) < (q1 : Int))
  all_goals cases z2 : decide ((100 : Int) < (q2 : Int))
  all_goals cases z3 : decide ((100 : Int) < (q3 : Int))
  all_goals
    go_enter Try.func33, Try.ntmps33
    go_wp2
    go_ret
    exact ⟨rfl, by simp⟩
end Go.Proofs.Ytbclbcldplmppaa

/- A ratio's answer, by the code: up to the solved system. -/
namespace Go.Proofs.Ytbclbcldplmppaa
open Go.RowKit

/-- The order of columns that a ratio asks for. -/
def ratCols (S i o : Nat) : List Nat := if o = i then ordN S [i] [i] else ordN S [o, i] [o, i]
theorem ratCols_ord (S i o : Nat) : ordS S [(o : Int), (i : Int)] = (ratCols S i o).map fun (k : Nat) => (k : Int) := by
  unfold ratCols
  split
  · rename_i h; rw [h]; exact ordS_same S i
  · rename_i h; exact ordS_two h
theorem ratCols_lt {S i o : Nat} (hi : i < S) (ho : o < S) : ∀ c ∈ ratCols S i o, c < S := by
  unfold ratCols
  split
  · exact ordN_lt (by simp [hi])
  · exact ordN_lt (by simp [hi, ho])
theorem ratCols_all {S i o : Nat} : ∀ c, c < S → c ∈ ratCols S i o := by
  unfold ratCols
  split
  · exact ordN_all (fun c hc => hc)
  · exact ordN_all (fun c hc => hc)
theorem ratCols_nodup {S i o : Nat} : (ratCols S i o).Nodup := by
  unfold ratCols
  split
  · exact ordN_nodup (fun c hc => hc) (by simp)
  · rename_i h; exact ordN_nodup (fun c hc => hc) (by simp [h])
theorem ratCols_last (S i o : Nat) : ∃ c1, ratCols S i o = c1 ++ [i] := by
  unfold ratCols
  split
  · exact ⟨_, rfl⟩
  · exact ⟨(List.range S).filter (fun k => decide (k ∉ [o, i])) ++ [o], by simp [ordN]⟩
theorem ratCols_two {S i o : Nat} (h : o ≠ i) : ∃ c1, ratCols S i o = c1 ++ [o, i] := by
  unfold ratCols
  rw [if_neg h]
  exact ⟨_, rfl⟩
theorem nodup_len {S : Nat} {l : List Nat} (hn : l.Nodup) (h1 : ∀ c ∈ l, c < S) (h2 : ∀ c, c < S → c ∈ l) : l.length = S := by
  have h : l.Perm (List.range S) := (List.perm_ext_iff_of_nodup hn List.nodup_range).2 fun a => ⟨fun h => List.mem_range.2 (h1 a h), fun h => h2 a (List.mem_range.1 h)⟩
  simpa using h.length_eq
theorem ratCols_len {S i o : Nat} (hi : i < S) (ho : o < S) : (ratCols S i o).length = S := nodup_len ratCols_nodup (ratCols_lt hi ho) ratCols_all

/-- The answer of 'Ratio' for a train that is one. -/
def RatRes (b : World) (ms : List Msh) (S i o : Nat) (e : Ending) (w' : World) : Prop :=
  ∃ (num den x : Int) (A1 A2 A3 : Option Addr) (c1 c2 c3 : Nat) (F M T : List Int),
    e = .returned (.tuple #[.int .i64 num, .int .i64 den, .agg #[.slice A1 F.length c1, .slice A2 M.length c2, .slice A3 T.length c3], .int .i64 x]) ∧
    Ints w' A1 F ∧ Ints w' A2 M ∧ Ints w' A3 T ∧ Ext b w' ∧ x = verdS ms.length S (gearL ms S) i o ∧
    (x = 41 ∧ num = 0 ∧ den = 0 ∧ jamPr (gearL ms S) ms.length S i F M T ∨ x = 42 ∧ num = 0 ∧ den = 0 ∧ loosePr (gearL ms S) ms.length S i o F M T ∨ x = 0 ∧ ratPr (gearL ms S) ms.length S i o num den F M T)

/-- The zero struct of the solved type, in block g. -/
structure ZOk (W : World) (g : Nat) : Prop where
  c0 : W.cell? ⟨g, 0, none⟩ = some (.slice none 0 0)
  c1 : W.cell? ⟨g, 1, none⟩ = some (.map none)
  c2 : W.cell? ⟨g, 2, none⟩ = some (.slice none 0 0)
  c3 : W.cell? ⟨g, 3, none⟩ = some (.int .i64 0)
  f : ∀ j, W.frozen? ⟨g, j, none⟩ = false
theorem ZOk.lt {W : World} {g : Nat} (h : ZOk W g) : g < W.heap.size := World.block_lt_of_cell? _ _ h.c0
theorem ZOk.ext {W W' : World} {g : Nat} (h : ZOk W g) (he : Ext W W') : ZOk W' g :=
  ⟨he.cell h.c0, he.cell h.c1, he.cell h.c2, he.cell h.c3, fun j => (he.frozen h.lt).trans (h.f j)⟩
theorem ZOk.alloc {W : World} {g : Nat} {o : Obj} (h : ZOk W g) : ZOk (W.alloc o) g := h.ext ((Ext.refl W).alloc o)
theorem ZOk.drew {W : World} {g : Nat} (h : ZOk W g) : ZOk W.drew g := h.ext (Ext.drew (Ext.refl W))
theorem ZOk.new {W : World} : ZOk (W.alloc (.cells #[.slice none 0 0, .map none, .slice none 0 0, .int .i64 0] 101)) W.heap.size :=
  ⟨cells_last rfl rfl, cells_last rfl rfl, cells_last rfl rfl, cells_last rfl rfl, fun j => by simp only [World.frozen?, heap_alloc_new]; simp⟩
theorem ZOk.grown {W W' : World} {g gl : Nat} {x : Int} (h : ZOk W g) (hl : W.cell? ⟨gl, 0, none⟩ = some (vint x)) (hg : W.grownBy W' (some gl)) : ZOk W' g := by
  have hne : g ≠ gl := fun e => by
    subst e
    have := h.c0
    rw [hl] at this
    cases this
  have hb : W'.heap[g]? = W.heap[g]? := hg.block g h.lt fun e => hne (Option.some.inj e)
  have hc : ∀ j, W'.cell? ⟨g, j, none⟩ = W.cell? ⟨g, j, none⟩ := fun j => World.cell?_of_block (a := ⟨g, j, none⟩) hb
  exact ⟨(hc 0).trans h.c0, (hc 1).trans h.c1, (hc 2).trans h.c2, (hc 3).trans h.c3, fun j => (World.frozen?_of_block (a := ⟨g, j, none⟩) hb).trans (h.f j)⟩
theorem ZOk.new' {W : World} {g : Nat} (h : W.heap.size = g) : ZOk (W.alloc (.cells #[.slice none 0 0, .map none, .slice none 0 0, .int .i64 0] 101)) g := by subst h; exact ZOk.new
/-- The literal of two numbers, in block g. -/
structure LOk (W : World) (g : Nat) (x y : Int) : Prop where
  c0 : W.cell? ⟨g, 0, none⟩ = some (vint x)
  c1 : W.cell? ⟨g, 1, none⟩ = some (vint y)
  f : W.frozen? ⟨g, 1, none⟩ = false
theorem LOk.ext {W W' : World} {g : Nat} {x y : Int} (h : LOk W g x y) (he : Ext W W') : LOk W' g x y :=
  ⟨he.cell h.c0, he.cell h.c1, (he.frozen (World.block_lt_of_cell? _ _ h.c1)).trans h.f⟩
theorem LOk.alloc {W : World} {g : Nat} {x y : Int} {o : Obj} (h : LOk W g x y) : LOk (W.alloc o) g x y := h.ext ((Ext.refl W).alloc o)
theorem LOk.drew {W : World} {g : Nat} {x y : Int} (h : LOk W g x y) : LOk W.drew g x y := h.ext (Ext.drew (Ext.refl W))
theorem LOk.new {W : World} {x y : Int} : LOk (W.alloc (.cells #[.int .i64 x, .int .i64 y] 3)) W.heap.size x y :=
  ⟨cells_last rfl rfl, cells_last rfl rfl, by simp only [World.frozen?, heap_alloc_new]; simp⟩

theorem LOk.new' {W : World} {x y : Int} {g : Nat} (h : W.heap.size = g) : LOk (W.alloc (.cells #[.int .i64 x, .int .i64 y] 3)) g x y := by subst h; exact LOk.new
theorem order_lit {S : Nat} {ms : Value} {w : World} {gl : Nat} {x y : Int} (hS : S ≤ 8) (h : LOk w gl x y) :
    Calls Try.prog 67 #[.agg #[.int .i64 S, ms], .slice (some ⟨gl, 0, none⟩) 2 2] w (fun e w' => LOk w gl x y ∧ OrdPair w gl (ordS S [x, y]) e w') := (order_pair S ms w hS gl x y h.c0 h.c1 h.f).mono fun _ _ h2 => ⟨h, h2⟩
theorem rows_then {w1 b w W w' : World} {ms : List Msh} {S gl : Nat} {v : Value} (hb : Ext w1 b) (h : isRows b ms S v w) (he : Ext w W) (hg : W.grownBy w' (some gl)) (hl : w1.heap.size ≤ gl) (hc : w.heap.size ≤ gl ∨ gl < b.heap.size) : ∃ b', isRows b' ms S v w' := by
  rcases hc with hc | hc
  · exact ⟨b, h.later (OrdPair.ext hg he hc)⟩
  · exact ⟨w1, (h.later he).grown hb hg hl hc⟩

theorem isSolved.form {b w : World} {ms : List Msh} {S : Nat} {cols : List Nat} {u : Value} (h : isSolved b ms S cols u w) : ∃ A n c B n' c' mb d, u = .agg #[.slice A n c, .map (some mb), .slice B n' c', .int .i64 d] := by
  obtain ⟨v, ordv, mb, g, h, σ, pv, M, d, D, rfl, hs, hm, hp, hd, ho⟩ := h
  obtain ⟨A, c, rfl⟩ := hm.own.form
  obtain ⟨B, c', rfl, _⟩ := ho
  exact ⟨_, _, _, _, _, _, _, _, rfl⟩
/-- Four cells of the call's own struct. -/
def put4 (w : World) (g : Nat) (x0 x1 x2 x3 : Value) : World := (((w.setCell ⟨g, 0, none⟩ x0).setCell ⟨g, 1, none⟩ x1).setCell ⟨g, 2, none⟩ x2).setCell ⟨g, 3, none⟩ x3
theorem put4_ext {w0 w : World} {g : Nat} {x0 x1 x2 x3 : Value} (he : Ext w0 w) (hg : w0.heap.size ≤ g) : Ext w0 (put4 w g x0 x1 x2 x3) :=
  ((((he.setCell (p := ⟨g, 0, none⟩) hg x0).setCell (p := ⟨g, 1, none⟩) hg x1).setCell (p := ⟨g, 2, none⟩) hg x2).setCell (p := ⟨g, 3, none⟩) hg x3)
theorem put4_cells {w : World} {g : Nat} {x0 x1 x2 x3 : Value} (hz : ZOk w g) : ∀ w2, Ext (put4 w g x0 x1 x2 x3) w2 →
    w2.cell? ⟨g, 0, none⟩ = some x0 ∧ w2.cell? ⟨g, 1, none⟩ = some x1 ∧ w2.cell? ⟨g, 2, none⟩ = some x2 ∧ w2.cell? ⟨g, 3, none⟩ = some x3 := fun w2 he => by
  have o : ∀ {W : World} {j k : Nat} {x : Value}, j ≠ k → (W.setCell ⟨g, j, none⟩ x).cell? ⟨g, k, none⟩ = W.cell? ⟨g, k, none⟩ := fun h => World.cell?_setCell_other _ _ _ _ (fun e => by injection e with _ e2 _; exact h e2)
  refine ⟨he.cell ?_, he.cell ?_, he.cell ?_, he.cell ?_⟩ <;> unfold put4
  · rw [o (by decide), o (by decide), o (by decide)]
    exact World.cell?_setCell_same _ _ _ hz.c0
  · rw [o (by decide), o (by decide)]
    exact World.cell?_setCell_same _ _ _ (u := .map none) (by rw [o (by decide)]; exact hz.c1)
  · rw [o (by decide)]
    exact World.cell?_setCell_same _ _ _ (u := .slice none 0 0) (by rw [o (by decide), o (by decide)]; exact hz.c2)
  · exact World.cell?_setCell_same _ _ _ (u := .int .i64 0) (by rw [o (by decide), o (by decide), o (by decide)]; exact hz.c3)
theorem put4_grown {w : World} {g : Nat} {x0 x1 x2 x3 : Value} : w.grownBy (put4 w g x0 x1 x2 x3) (some g) :=
  (((grown_setAt (p := ⟨g, 0, none⟩)).trans (grown_setAt (p := ⟨g, 1, none⟩))).trans (grown_setAt (p := ⟨g, 2, none⟩))).trans (grown_setAt (p := ⟨g, 3, none⟩))
/-- The solved system, as the rest of 'Ratio' reads it. -/
def SolvQ (b w : World) (ms : List Msh) (S : Nat) (cols : List Nat) (v : Value) (mb : Nat) (ordv : Value) (d : Int) : Prop :=
  ∃ g h σ pv M D, SolSt (augF S (gearL ms S)) S ms.length cols σ pv M d ∧ MF b w v S ms.length ms.length g h (fun k => lineOf M S (σ k)) (fun k => byOf M S ms.length (σ k)) ∧ MapI w mb pv.length D ∧ MapIs D (colsP pv) ∧ ∃ Ao co, ordv = .slice Ao cols.length co
theorem SolvQ.later {b w w' : World} {ms : List Msh} {S : Nat} {cols : List Nat} {v : Value} {mb : Nat} {ordv : Value} {d : Int} (h : SolvQ b w ms S cols v mb ordv d) (he : Ext w w') : SolvQ b w' ms S cols v mb ordv d := by
  obtain ⟨g, h, σ, pv, M, D, h1, h2, h3, r⟩ := h
  exact ⟨g, h, σ, pv, M, D, h1, h2.later he, h3.later he, r⟩
theorem solved_then {w1 b w4 W : World} {ms : List Msh} {S gz mb : Nat} {cols : List Nat} {v ordv x0 x1 x2 x3 : Value} {d : Int} (hb : Ext w1 b) (h : isSolved b ms S cols (.agg #[v, .map (some mb), ordv, .int .i64 d]) w4) (he : Ext w4 W) (hz : ZOk W gz) (hl : w1.heap.size ≤ gz) (hc : w4.heap.size ≤ gz ∨ gz < b.heap.size) :
    SolvQ w1 (put4 W gz x0 x1 x2 x3) ms S cols v mb ordv d := by
  obtain ⟨v', ordv', mb', g, h, σ, pv, M, d', D, e, hs, hm, hp, hd, ho⟩ := h
  simp only [Value.agg.injEq, Array.mk.injEq, List.cons.injEq, Value.map.injEq, Value.int.injEq, Option.some.injEq, and_true, true_and] at e
  obtain ⟨rfl, rfl, rfl, rfl⟩ := e
  have hord : ∃ Ao co, ordv = .slice Ao cols.length co := by
    obtain ⟨Ao, co, rfl, _⟩ := ho
    exact ⟨Ao, co, by simp⟩
  have hg : W.grownBy (put4 W gz x0 x1 x2 x3) (some gz) := put4_grown
  have hx : Ext w1 (put4 W gz x0 x1 x2 x3) := OrdPair.ext hg ((hb.trans hm.ext).trans he) hl
  rcases hc with hc | hc
  · have hx4 : Ext w4 (put4 W gz x0 x1 x2 x3) := OrdPair.ext hg he hc
    exact ⟨g, h, σ, pv, M, D, hs, (hm.since hb).later hx4, hp.later hx4, hd, hord⟩
  · have hm := hm.later he
    have old : ∀ {j : Nat} {xs : List Int}, NewInts b W j xs → NewInts w1 (put4 W gz x0 x1 x2 x3) j xs := fun {j xs} hj => ⟨hx, Nat.le_trans hb.le hj.2.1, (hg.block j hj.lt (fun e => by have := Option.some.inj e; have := hj.2.1; omega)).trans hj.2.2⟩
    refine ⟨g, h, σ, pv, M, D, hs, ⟨⟨hx, (hm.own.since hb).2.kept hg (.inr fun e => by have := (hm.own.2.lt gz e).1; omega)⟩, fun i hi => ⟨old (hm.gl i hi).1, (hm.gl i hi).2⟩, fun i hi => ⟨old (hm.hb i hi).1, (hm.hb i hi).2⟩, hm.gg, hm.hh, hm.gh⟩, ?_, hd, hord⟩
    obtain ⟨es, clock, hh, r⟩ := hp.later he
    refine ⟨es, clock, ?_, r⟩
    rw [hg.block mb (Array.getElem?_eq_some_iff.1 hh).1 (fun e => ?_)]
    · exact hh
    · have e := Option.some.inj e
      subst e
      have h0 := hz.c0
      simp [World.cell?, hh] at h0
theorem fin_old {w1 b w4 : World} {ms : List Msh} {S gz mb : Nat} {cols : List Nat} {v ordv : Value} {d : Int} (hb : Ext w1 b) (h : isSolved b ms S cols (.agg #[v, .map (some mb), ordv, .int .i64 d]) w4) (hz : ZOk w4 gz) (hx : Ext w1 w4) (hl : w1.heap.size ≤ gz) (hc : gz < b.heap.size) :
    Ext w1 (put4 w4 gz v (.map (some mb)) ordv (.int .i64 d)) ∧ SolvQ w1 (put4 w4 gz v (.map (some mb)) ordv (.int .i64 d)) ms S cols v mb ordv d ∧ (∀ w2, Ext (put4 w4 gz v (.map (some mb)) ordv (.int .i64 d)) w2 → w2.cell? ⟨gz, 0, none⟩ = some v ∧ w2.cell? ⟨gz, 1, none⟩ = some (.map (some mb)) ∧ w2.cell? ⟨gz, 2, none⟩ = some ordv ∧ w2.cell? ⟨gz, 3, none⟩ = some (.int .i64 d)) ∧ w1.heap.size ≤ gz :=
  ⟨put4_ext hx hl, solved_then hb h (Ext.refl _) hz hl (.inr hc), put4_cells hz, hl⟩
theorem fin_new {w1 b w4 : World} {ms : List Msh} {S mb : Nat} {cols : List Nat} {v ordv : Value} {d : Int} (hb : Ext w1 b) (h : isSolved b ms S cols (.agg #[v, .map (some mb), ordv, .int .i64 d]) w4) (hx : Ext w1 w4) :
    Ext w1 (w4.alloc (.cells #[v, .map (some mb), ordv, .int .i64 d] 101)) ∧ SolvQ w1 (w4.alloc (.cells #[v, .map (some mb), ordv, .int .i64 d] 101)) ms S cols v mb ordv d ∧ (∀ w2, Ext (w4.alloc (.cells #[v, .map (some mb), ordv, .int .i64 d] 101)) w2 → w2.cell? ⟨w4.heap.size, 0, none⟩ = some v ∧ w2.cell? ⟨w4.heap.size, 1, none⟩ = some (.map (some mb)) ∧ w2.cell? ⟨w4.heap.size, 2, none⟩ = some ordv ∧ w2.cell? ⟨w4.heap.size, 3, none⟩ = some (.int .i64 d)) ∧ w1.heap.size ≤ w4.heap.size := by
  refine ⟨hx.alloc _, ?_, fun w2 he => ⟨he.cell (cells_last rfl rfl), he.cell (cells_last rfl rfl), he.cell (cells_last rfl rfl), he.cell (cells_last rfl rfl)⟩, hx.le⟩
  obtain ⟨v', ordv', mb', g, h, σ, pv, M, d', D, e, hs, hm, hp, hd, ho⟩ := h.later (Ext.alloc (Ext.refl w4) (.cells #[v, .map (some mb), ordv, .int .i64 d] 101))
  simp only [Value.agg.injEq, Array.mk.injEq, List.cons.injEq, Value.map.injEq, Value.int.injEq, Option.some.injEq, and_true, true_and] at e
  obtain ⟨rfl, rfl, rfl, rfl⟩ := e
  refine ⟨g, h, σ, pv, M, D, hs, hm.since hb, hp, hd, ?_⟩
  obtain ⟨Ao, co, rfl, _⟩ := ho
  exact ⟨Ao, co, by simp⟩

/-! ### What the rest of 'Ratio' asks of the solved system -/
theorem nodup_le_of {S : Nat} {l : List Nat} (hn : l.Nodup) (h : ∀ c ∈ l, c < S) : l.length ≤ S := by
  have := nodup_le hn (m := List.range S) fun x hx => List.mem_range.2 (h x hx)
  simpa using this
theorem facOf_neg {S m : Nat} {M : Nat → Nat → Int} {d : Int} {q : Nat × Nat} {x : Nat} (hx : q.1 = x) (hd : M x q.2 = d) (hq : q.2 < S) :
    FacOf S m M d q (negL (decide (getI (lineOf M S x) q.2 < 0)) (byOf M S m x) m) := by
  subst hx
  rw [lineOf_get hq, hd]
  refine ⟨outL_len _ _, fun y hy => ?_⟩
  unfold negL sg
  rw [outL_get hy, byOf_get hy]
  by_cases h : d < 0
  · rw [if_pos (by simpa using h), if_pos h]; omega
  · rw [if_neg (by simpa using h), if_neg h]; omega
theorem SolSt.two53 {ms : List Msh} {S : Nat} {cols : List Nat} {σ : Nat → Nat} {pv : List (Nat × Nat)} {M : Nat → Nat → Int} {d : Int} (h : SolSt (augF S (gearL ms S)) S ms.length cols σ pv M d) (ht : trainP S ms) : d.natAbs ≤ 9007199254740992 ∧ ∀ q ∈ pv, ∀ j, (M q.1 j).natAbs ≤ 9007199254740992 := by
  refine h.bar.fits (fun x hx C hC => ?_) h.cnd ?_
  · rw [← augA_eq]
    exact aug_small (by rw [lineI_eq hx]; exact facS_small (ht.2.2.2 x hx)) C hC
  · rw [← colsP_len]
    have := nodup_le_of h.cnd fun c hc => (h.cin c hc).2
    have := ht.2.1
    omega
theorem verd_jam {ms : List Msh} {S i o : Nat} {σ : Nat → Nat} {pv : List (Nat × Nat)} {M : Nat → Nat → Int} {d : Int} (h : SolSt (augF S (gearL ms S)) S ms.length (ratCols S i o) σ pv M d) (hi : i < S) (hm : i ∈ colsP pv) : (41 : Int) = verdS ms.length S (gearL ms S) i o := by
  obtain ⟨c1, hc⟩ := ratCols_last S i o
  have hj := (h.jam ratCols_all hc ratCols_nodup hi).2 hm
  unfold verdS
  rw [if_pos]
  unfold jamB
  exact beq_iff_eq.2 hj
theorem verd_free {ms : List Msh} {S i o : Nat} {σ : Nat → Nat} {pv : List (Nat × Nat)} {M : Nat → Nat → Int} {d : Int} (h : SolSt (augF S (gearL ms S)) S ms.length (ratCols S i o) σ pv M d) (hi : i < S) (hm : i ∉ colsP pv) : jamB ms.length S (gearL ms S) i = false := by
  obtain ⟨c1, hc⟩ := ratCols_last S i o
  refine Bool.eq_false_iff.2 fun hb => hm ((h.jam ratCols_all hc ratCols_nodup hi).1 ?_)
  unfold jamB at hb
  exact beq_iff_eq.1 hb
theorem verd_same {ms : List Msh} {S i : Nat} {σ : Nat → Nat} {pv : List (Nat × Nat)} {M : Nat → Nat → Int} {d : Int} (h : SolSt (augF S (gearL ms S)) S ms.length (ratCols S i i) σ pv M d) (hi : i < S) (hm : i ∉ colsP pv) : (0 : Int) = verdS ms.length S (gearL ms S) i i := by
  unfold verdS
  rw [verd_free h hi hm, if_neg (by decide), if_neg]
  intro hb
  refine h.loose_same ratCols_all hi hm ?_
  unfold looseB at hb
  unfold isLoose
  simpa using hb
theorem verd_loose {ms : List Msh} {S i o : Nat} {σ : Nat → Nat} {pv : List (Nat × Nat)} {M : Nat → Nat → Int} {d : Int} (h : SolSt (augF S (gearL ms S)) S ms.length (ratCols S i o) σ pv M d) (hi : i < S) (ho : o < S) (hoi : o ≠ i) (hm : i ∉ colsP pv) : verdS ms.length S (gearL ms S) i o = if o ∈ colsP pv then 0 else 42 := by
  obtain ⟨c1, hc⟩ := ratCols_two hoi
  have hl := h.loose ratCols_all hc ratCols_nodup hi ho hoi hm
  unfold verdS
  rw [verd_free h hi hm, if_neg (by decide)]
  have e : (looseB ms.length S (gearL ms S) i o = true) ↔ o ∉ colsP pv := by
    rw [← hl]
    unfold looseB isLoose
    simp
  by_cases ho : o ∈ colsP pv
  · rw [if_neg (fun hb => e.1 hb ho), if_pos ho]
  · rw [if_pos (e.2 ho), if_neg ho]
/-- Numbers in new memory, when another block is written. -/
theorem ints_far {a w w' : World} {g r : Nat} {xs : List Int} (h : NewInts a w g xs) (hg : w.grownBy w' (some r)) (hne : g ≠ r) : Ints w' (some ⟨g, 0, none⟩) xs := by
  have hh : w'.heap[g]? = some (.cells (xs.map vint).toArray 3) := (hg.block g h.lt (fun e => hne (Option.some.inj e))).trans h.2.2
  have := row_heap hh
  simpa [Ints] using this
/-- Three cells of the call's own struct. -/
def put3 (w : World) (g : Nat) (x0 x1 x2 : Value) : World := ((w.setCell ⟨g, 0, none⟩ x0).setCell ⟨g, 1, none⟩ x1).setCell ⟨g, 2, none⟩ x2
theorem put3_grown {w : World} {g : Nat} {x0 x1 x2 : Value} : w.grownBy (put3 w g x0 x1 x2) (some g) :=
  ((grown_setAt (p := ⟨g, 0, none⟩)).trans (grown_setAt (p := ⟨g, 1, none⟩))).trans (grown_setAt (p := ⟨g, 2, none⟩))
/-- The answer's own struct. -/
structure GOk (W : World) (g : Nat) (u0 u1 u2 : Value) : Prop where
  c0 : W.cell? ⟨g, 0, none⟩ = some u0
  c1 : W.cell? ⟨g, 1, none⟩ = some u1
  c2 : W.cell? ⟨g, 2, none⟩ = some u2
  f : ∀ j, W.frozen? ⟨g, j, none⟩ = false
theorem GOk.lt {W : World} {g : Nat} {u0 u1 u2 : Value} (h : GOk W g u0 u1 u2) : g < W.heap.size := World.block_lt_of_cell? _ _ h.c0
theorem GOk.ext {W W' : World} {g : Nat} {u0 u1 u2 : Value} (h : GOk W g u0 u1 u2) (he : Ext W W') : GOk W' g u0 u1 u2 :=
  ⟨he.cell h.c0, he.cell h.c1, he.cell h.c2, fun j => (he.frozen h.lt).trans (h.f j)⟩
theorem GOk.drew {W : World} {g : Nat} {u0 u1 u2 : Value} (h : GOk W g u0 u1 u2) : GOk W.drew g u0 u1 u2 := h.ext (Ext.drew (Ext.refl W))
theorem GOk.new {W : World} {u0 u1 u2 : Value} {g : Nat} (hg : W.heap.size = g) : GOk (W.alloc (.cells #[u0, u1, u2] 60)) g u0 u1 u2 := by
  subst hg
  exact ⟨cells_last rfl rfl, cells_last rfl rfl, cells_last rfl rfl, fun j => by simp only [World.frozen?, heap_alloc_new]; simp⟩
section
variable {W : World} {g : Nat} {u0 u1 u2 : Value}
theorem cell_same' {W : World} {p : Addr} {x : Value} (u : Value) (h : W.cell? p = some u) : (W.setCell p x).cell? p = some x := World.cell?_setCell_same _ _ _ h
theorem cell_far' {W : World} {g j k : Nat} {x : Value} (h : j ≠ k) : (W.setCell ⟨g, j, none⟩ x).cell? ⟨g, k, none⟩ = W.cell? ⟨g, k, none⟩ := World.cell?_setCell_other _ _ _ _ (fun e => by injection e with _ e2 _; exact h e2)
theorem GOk.set0 (h : GOk W g u0 u1 u2) (x : Value) : GOk (W.setCell ⟨g, 0, none⟩ x) g x u1 u2 :=
  ⟨cell_same' u0 h.c0, (cell_far' (by decide)).trans h.c1, (cell_far' (by decide)).trans h.c2, fun j => by rw [World.frozen?_setCell]; exact h.f j⟩
theorem GOk.set1 (h : GOk W g u0 u1 u2) (x : Value) : GOk (W.setCell ⟨g, 1, none⟩ x) g u0 x u2 :=
  ⟨(cell_far' (by decide)).trans h.c0, cell_same' u1 h.c1, (cell_far' (by decide)).trans h.c2, fun j => by rw [World.frozen?_setCell]; exact h.f j⟩
theorem GOk.set2 (h : GOk W g u0 u1 u2) (x : Value) : GOk (W.setCell ⟨g, 2, none⟩ x) g u0 u1 x :=
  ⟨(cell_far' (by decide)).trans h.c0, (cell_far' (by decide)).trans h.c1, cell_same' u2 h.c2, fun j => by rw [World.frozen?_setCell]; exact h.f j⟩
end
/-- The solved system when the answer's own struct is written. -/
theorem SolvQ.open_ {b0 b w : World} {ms : List Msh} {S : Nat} {cols : List Nat} {v : Value} {mb : Nat} {ordv : Value} {d : Int} (h : SolvQ b w ms S cols v mb ordv d) {r : Nat} {u : Value} (he : Ext b0 b) (h1 : b0.heap.size ≤ r) (h2 : r < b.heap.size) (hu : w.cell? ⟨r, 0, none⟩ = some u) :
    ∃ g h σ pv M D, SolSt (augF S (gearL ms S)) S ms.length cols σ pv M d ∧ (∀ w', w.grownBy w' (some r) → MF b0 w' v S ms.length ms.length g h (fun k => lineOf M S (σ k)) (fun k => byOf M S ms.length (σ k))) ∧ (∀ w', w.grownBy w' (some r) → MapI w' mb pv.length D) ∧ MapIs D (colsP pv) ∧ ∃ Ao co, ordv = .slice Ao cols.length co := by
  obtain ⟨g, h, σ, pv, M, D, hs, hm, hp, hd, ho⟩ := h
  refine ⟨g, h, σ, pv, M, D, hs, fun w' hg => ?_, fun w' hg => ?_, hd, ho⟩
  · have hx : Ext b0 w' := OrdPair.ext hg (he.trans hm.ext) h1
    have old : ∀ {j : Nat} {xs : List Int}, NewInts b w j xs → NewInts b0 w' j xs := fun {j xs} hj => ⟨hx, Nat.le_trans he.le hj.2.1, (hg.block j hj.lt (fun e => by have := Option.some.inj e; have := hj.2.1; omega)).trans hj.2.2⟩
    exact ⟨⟨hx, (hm.own.since he).2.kept hg (.inr fun e => by have := (hm.own.2.lt r e).1; omega)⟩, fun i hi => ⟨old (hm.gl i hi).1, (hm.gl i hi).2⟩, fun i hi => ⟨old (hm.hb i hi).1, (hm.hb i hi).2⟩, hm.gg, hm.hh, hm.gh⟩
  · obtain ⟨es, clock, hh, r2⟩ := hp
    refine ⟨es, clock, ?_, r2⟩
    rw [hg.block mb (Array.getElem?_eq_some_iff.1 hh).1 (fun e => ?_)]
    · exact hh
    · have e := Option.some.inj e
      subst e
      simp [World.cell?, hh] at hu
theorem GOk.put3 {w : World} {g : Nat} {u0 u1 u2 x0 x1 x2 : Value} (h : GOk w g u0 u1 u2) : GOk (put3 w g x0 x1 x2) g x0 x1 x2 := ((h.set0 x0).set1 x1).set2 x2
theorem cell_gb {w w' : World} {r : Nat} {p : Addr} {x : Value} (hg : w.grownBy w' (some r)) (hne : p.block ≠ r) (h : w.cell? p = some x) : w'.cell? p = some x := (World.cell?_of_block (hg.block p.block (World.block_lt_of_cell? _ _ h) (fun e => hne (Option.some.inj e)))).trans h
theorem Ext.gb {w w' : World} {r : Option Nat} (h : Ext w w') : w.grownBy w' r := ⟨h.os, h.tape, h.output, h.size, fun k hk _ => h.block k hk⟩
/-- What 'Ratio' returns: two numbers, the struct, a number. -/
theorem results_ratio {fn : Func} (h : fn.results = #[.tmp 6, .tmp 7, .cell 8 60, .tmp 9]) (tmps : Array Value) (w : World) {g : Nat} {u0 u1 u2 : Value} (h8 : tmps.getD 8 undef = .pointer (some ⟨g, 0, none⟩)) (hc : GOk w g u0 u1 u2) :
    (results fn tmps).run Try.prog w = .ok (.tuple #[tmps.getD 6 undef, tmps.getD 7 undef, .agg #[u0, u1, u2], tmps.getD 9 undef]) w := by
  obtain ⟨c0, c1, c2, _⟩ := hc
  rw [Array.getD_eq_getD_getElem?] at h8
  simp [results, h, loadVar, h8, c0, c1, c2, loadCells, loadCellsFrom, asAddr, Addr.add_lit, Result.andThen, go_sem]
theorem MF.at2 {b w : World} {gv : Nat} {c' cv n m c : Nat} {g h : Nat → Nat} {L B : Nat → List Int} (hm : MF b w (.slice (some ⟨gv, 0, none⟩) c' cv) n m c g h L B) {k : Nat} (hk : k < c) :
    (∀ w', Ext w w' → w'.cell? ⟨gv, k * 2, none⟩ = some (sl (g k) n)) ∧ (∀ w', Ext w w' → w'.cell? ⟨gv, k * 2 + 1, none⟩ = some (sl (h k) m)) ∧
      Ints w (some ⟨g k, 0, none⟩) (L k) ∧ Ints w (some ⟨h k, 0, none⟩) (B k) ∧ (L k).length = n ∧ (B k).length = m := by
  obtain ⟨gv', cv', e, r⟩ := hm.at_ hk
  simp only [Value.slice.injEq, Option.some.injEq, Addr.mk.injEq, and_true] at e
  obtain ⟨rfl, rfl, rfl⟩ := e
  exact r
theorem wrap_tdiv {a s x : Int} (h : a.natAbs ≤ 9007199254740992) (he : a.tdiv s = x) : IntKind.i64.wrap (a.tdiv s) = x := by
  have h1 := Int.natAbs_tdiv_le_natAbs a s
  rw [IntKind.wrap_i64, he]
  rw [he] at h1
  omega
/-- A world that has grown, and holds the answer's own struct. -/
structure Sg (w0 : World) (r : Nat) (u0 u1 u2 : Value) (w' : World) : Prop where
  gb : w0.grownBy w' (some r)
  ok : GOk w' r u0 u1 u2
theorem Sg.drew {w0 w : World} {r : Nat} {u0 u1 u2 : Value} (h : Sg w0 r u0 u1 u2 w) : Sg w0 r u0 u1 u2 w.drew := ⟨h.gb.trans (Ext.gb (Ext.drew (Ext.refl _))), h.ok.drew⟩
theorem Sg.put3 {w0 w : World} {r : Nat} {u0 u1 u2 : Value} (h : Sg w0 r u0 u1 u2 w) : Sg w0 r u0 u1 u2 (put3 w r u0 u1 u2) := ⟨h.gb.trans put3_grown, h.ok.put3⟩
theorem Sg.start {w : World} {r : Nat} {u0 u1 u2 : Value} (h : GOk w r u0 u1 u2) : Sg w r u0 u1 u2 w := ⟨grownBy_refl _ _, h⟩
end Go.Proofs.Ytbclbcldplmppaa

/- A ratio's answer, by the code, for a train that is one. -/
namespace Go.Proofs.Ytbclbcldplmppaa
open Go.RowKit

set_option maxRecDepth 100000 in
set_option maxHeartbeats 8000000 in
theorem ratio_good (A : Option Addr) (c S i o : Nat) (ms : List Msh) (w : World) (hA : MRow w A ms) (ht : trainP S ms) (hl : ms.length ≤ 1000000) (hi : i < S) (ho : o < S) :
    Calls Try.prog 34 #[.agg #[.int .i64 S, .slice A ms.length c], .int .i64 i, .int .i64 o] w (RatRes w ms S i o) := by
  have hz : askE S ms [(i : Int), (o : Int)] = 0 := askE_ok (decide_eq_true ht) (by simp; omega)
  have c0 : ∀ (g : Nat) (w' : World) (_ : Ext w w') (_ : w'.cell? ⟨g, 0, none⟩ = some (vint i)) (_ : w'.cell? ⟨g, 1, none⟩ = some (vint o)), Calls Try.prog 73 #[.agg #[.int .i64 S, .slice A ms.length c], .slice (some ⟨g, 0, none⟩) 2 2] w' fun e w'' => e = .returned (.int .i64 0) ∧ Ext w' w'' :=
    fun g w' he hc hc' => by rw [← hz]; exact asked_any A c S ms (some ⟨g, 0, none⟩) 2 [(i : Int), (o : Int)] w' (hA.ext he) hl (ints_two hc hc') (by simp)
  have cA := c0 (w.heap.size + 1 + 1) (((w.alloc (.cells #[.int .i64 S, .slice A ms.length c] 41)).alloc (.cells #[.slice none 0 0, .slice none 0 0, .slice none 0 0] 60)).alloc (.cells #[.int .i64 i, .int .i64 o] 3)) (((((Ext.refl w).alloc _).alloc _).alloc _)) (cells_three rfl _ (Ext.refl _)) (cells_three rfl _ (Ext.refl _))
  have C0 := Lib.hid cA
  clear c0 cA hz
  have h8 : S ≤ 8 := by have := ht.2.1; omega
  have c28 := fun (w' : World) (he : Ext w w') => rows_is A c S ms w' (hA.ext he) ht
  have C28 := Lib.hid c28
  have HT := Lib.hid ht
  have hcl : (ratCols S i o).length ≤ 1000 := by rw [ratCols_len hi ho]; omega
  clear c28 ht hA
  have hx : Ext w ((w.alloc (.cells #[.int .i64 S, .slice A ms.length c] 41)).alloc (.cells #[.slice none 0 0, .slice none 0 0, .slice none 0 0] 60)) := ((Ext.refl w).alloc _).alloc _
  have a0 : ∀ w', Ext ((w.alloc (.cells #[.int .i64 S, .slice A ms.length c] 41)).alloc (.cells #[.slice none 0 0, .slice none 0 0, .slice none 0 0] 60)) w' → w'.cell? ⟨w.heap.size, 0, none⟩ = some (.int .i64 S) := fun w' he => cells_one rfl w' (Ext.trans ((Ext.refl _).alloc _) he)
  have a1 : ∀ w', Ext ((w.alloc (.cells #[.int .i64 S, .slice A ms.length c] 41)).alloc (.cells #[.slice none 0 0, .slice none 0 0, .slice none 0 0] 60)) w' → w'.cell? ⟨w.heap.size, 1, none⟩ = some (.slice A ms.length c) := fun w' he => cells_one rfl w' (Ext.trans ((Ext.refl _).alloc _) he)
  have b8 : ∀ w', Ext ((w.alloc (.cells #[.int .i64 S, .slice A ms.length c] 41)).alloc (.cells #[.slice none 0 0, .slice none 0 0, .slice none 0 0] 60)) w' → GOk w' (w.heap.size + 1) (.slice none 0 0) (.slice none 0 0) (.slice none 0 0) := fun w' he => (GOk.new (by simp)).ext he
  obtain ⟨m, hm⟩ : ∃ m, m = ms.length := ⟨_, rfl⟩
  simp only [← hm] at C0 C28 hx a0 a1 b8 ⊢
  have Hm := Lib.hid hm
  clear hm
  go_enter Try.func34, Try.ntmps34
  go_wp2_with (first
    | (go_at_call 73; (with_reducible refine C0.out.mono ?_); rintro e w1 ⟨rfl, hx1⟩; have hxb1 := Ext.trans ((Ext.refl _).alloc _) hx1; have hxw1 := hx.trans hxb1))
  have t0 : ∀ w', Ext w1 w' → w'.cell? ⟨w.heap.size, 0, none⟩ = some (.int .i64 S) := fun w' he => a0 w' (hxb1.trans he)
  have t1 : ∀ w', Ext w1 w' → w'.cell? ⟨w.heap.size, 1, none⟩ = some (.slice A m c) := fun w' he => a1 w' (hxb1.trans he)
  have b8 : ∀ w', Ext w1 w' → GOk w' (w.heap.size + 1) (.slice none 0 0) (.slice none 0 0) (.slice none 0 0) := fun w' he => b8 w' (hxb1.trans he)
  obtain ⟨bx, hbx⟩ : ∃ bx, bx = w.heap.size := ⟨_, rfl⟩
  simp only [← hbx] at t0 t1 b8 ⊢
  have Hbx := Lib.hid hbx
  clear hbx
  clear a0 a1 hx1 hxb1 hx C0
  refine Code.wp_mono (Q := fun e a w' => e = .normal ∧ ∃ (gz mb : Nat) (vr vl ov v ordv : Value) (d : Int), a = ⟨((Value.agg #[Value.int IntKind.i64 ↑S, Value.slice A m c] : Value) :: (.int .i64 ↑i : Value) :: (.int .i64 ↑o : Value) :: (.pointer (some ⟨bx, 0, none⟩) : Value) :: undef :: undef :: (.int .i64 0 : Value) :: (.int .i64 0 : Value) :: (.pointer (some ⟨bx + 1, 0, none⟩) : Value) :: (.int .i64 0 : Value) :: (.int .i64 0 : Value) :: (.pointer (some ⟨gz, 0, none⟩) : Value) :: undef :: undef :: undef :: undef :: undef :: undef :: (Value.agg #[Value.int IntKind.i64 ↑S, Value.slice A m c] : Value) :: (.int .i64 ↑i : Value) :: (.int .i64 ↑o : Value) :: (.slice (some ⟨bx + 1 + 1, 0, none⟩) 2 2 : Value) :: (.int .i64 0 : Value) :: (.int .i64 0 : Value) :: (.bool false : Value) :: undef :: undef :: (Value.agg #[Value.int IntKind.i64 ↑S, Value.slice A m c] : Value) :: (vr : Value) :: (Value.agg #[Value.int IntKind.i64 ↑S, Value.slice A m c] : Value) :: (.int .i64 ↑o : Value) :: (.int .i64 ↑i : Value) :: (vl : Value) :: (ov : Value) :: (.agg #[v, .map (some mb), ordv, .int .i64 d] : Value) :: undef :: undef :: undef :: undef :: undef :: undef :: undef :: undef :: undef :: undef :: undef :: undef :: undef :: undef :: undef :: undef :: undef :: undef :: undef :: undef :: undef :: undef :: undef :: undef :: undef :: undef :: undef :: undef :: undef :: undef :: undef :: undef :: undef :: undef :: undef :: undef :: undef :: undef :: undef :: undef :: undef :: undef :: undef :: undef :: undef :: undef :: undef :: undef :: undef :: undef :: undef :: undef :: undef :: undef :: undef :: undef :: undef :: undef :: undef :: undef :: undef :: undef :: undef :: undef :: undef :: undef :: undef :: undef :: undef :: undef :: undef :: undef :: undef :: undef :: undef :: []).toArray, []⟩ ∧ Ext w1 w' ∧ SolvQ w1 w' ms S (ratCols S i o) v mb ordv d ∧ (∀ w2, Ext w' w2 → w2.cell? ⟨gz, 0, none⟩ = some v ∧ w2.cell? ⟨gz, 1, none⟩ = some (.map (some mb)) ∧ w2.cell? ⟨gz, 2, none⟩ = some ordv ∧ w2.cell? ⟨gz, 3, none⟩ = some (.int .i64 d)) ∧ w1.heap.size ≤ gz) ?_ ?_
  · rintro e a w2 ⟨rfl, gz, mb, vr, vl, ov, v, ordv, d, rfl, hx2, hsq, hc, hgz⟩
    obtain ⟨g, h, σ, pv, M, D, hs, hmf, hmp, hd, Ao, co, rfl⟩ := hsq.open_ (r := bx + 1) hxw1 (by rw [← Hbx.out]; omega) (b8 _ (Ext.refl _)).lt (b8 _ hx2).c0
    have h53 := hs.two53 HT.out
    have Hs := Lib.hid hs
    have hlen : (ratCols S i o).length = S := ratCols_len hi ho
    rw [hlen] at hc ⊢
    have hpm : pv.length ≤ ms.length := hs.le
    rw [← Hm.out] at hpm
    simp only [← Hm.out] at hmf
    have q0 : ∀ w', Ext w2 w' → w'.cell? ⟨gz, 0, none⟩ = some v := fun w' he => (hc w' he).1
    have q1 : ∀ w', Ext w2 w' → w'.cell? ⟨gz, 1, none⟩ = some (.map (some mb)) := fun w' he => (hc w' he).2.1
    have hx02 := hxw1.trans hx2
    have hbk : bx + 1 < w1.heap.size := (b8 _ (Ext.refl _)).lt
    clear hsq C28
    by_cases hin : i ∈ colsP pv
    · obtain ⟨k, hk, hki⟩ := List.getElem_of_mem hin
      have hkp : k < pv.length := by rw [colsP_len] at hk; exact hk
      obtain ⟨ci, hlook, hval⟩ := hd.look (hmp w2 (grownBy_refl _ _)) i (by omega)
      obtain rfl := hval k hk hki
      rw [decide_eq_true hin] at hlook
      obtain ⟨gv, cv, rfl, r0, r1, il, ib, ll, lb⟩ := (hmf w2 (grownBy_refl _ _)).at_ (k := k) (by omega)
      have hrow : pv[k].1 = σ k := hs.row_at hkp
      have hcol : pv[k].2 = i := by rw [← hki]; exact (colsP_get hk).symm
      have hqm : pv[k] ∈ pv := List.getElem_mem hkp
      have c76 := fun (w' : World) (he : Ext w2 w') => factors_row (some ⟨g k, 0, none⟩) (some ⟨h k, 0, none⟩) S m S m _ _ i w' (il.ext he) (ib.ext he) ll lb hi (fun y hy => by
        rw [byOf_get hy, ← hrow]
        have := h53.2 _ hqm (S + y)
        omega) (by have := HT.out.2.2.1; rw [← Hm.out] at this; omega)
      have hF : FacOf S m M d pv[k] (negL (decide (getI (lineOf M S (σ k)) i < 0)) (byOf M S m (σ k)) m) := by
        have := facOf_neg (S := S) (m := m) (M := M) (d := d) (q := pv[k]) hrow (by have := hs.red' hqm hqm; rw [if_pos rfl, hrow] at this; exact this) (by rw [hcol]; exact hi)
        rw [hcol] at this
        exact this
      generalize negL (decide (getI (lineOf M S (σ k)) i < 0)) (byOf M S m (σ k)) m = F at *
      have hfl : F.length = m := hF.1
      obtain ⟨c1, hcl1⟩ := ratCols_last S i o
      rw [Hm.out] at hF
      have hjam := hs.provesJam ratCols_all h53 hcl1 ratCols_nodup hi hqm hcol hF
      have hverd := verd_jam hs hi hin
      have Hj := Lib.hid (And.intro hjam hverd)
      have C76 := Lib.hid c76
      have hkm : (k : Int) < (m : Int) := by omega
      have Hfl := Lib.hid hfl
      have Hb := Lib.hid (b8 _ hx2)
      clear hc hjam hverd hF hcl1 c76 hfl hki hval hrow hcol hqm il ib ll lb h53 hs hmf hmp hd b8 hin
      clear Hs
      (repeat (first | ((first
        | (go_at_call 76; refine (C76.out _ (Ext.refl _)).mono ?_; rintro e w3 ⟨gF, rfl, hF⟩; have hb3 := Hb.out.ext hF.1; obtain ⟨z0, z1, z2, zf⟩ := id hb3; simp only []))) | go_values | go_skip | go_guarded | go_step | go_upon | go_back))
      (try simp only [Exit.inBlock, Exit.then])
      have hg3 : w3.grownBy (put3 w3 (bx + 1) (sl gF F.length) (.slice none 0 0) (.slice none 0 0)) (some (bx + 1)) := put3_grown
      have hb4 := hb3.put3 (x0 := sl gF F.length) (x1 := .slice none 0 0) (x2 := .slice none 0 0)
      refine bodyPost_ret (results_ratio rfl _ _ rfl hb4) rfl ?_
      refine ⟨0, 0, 41, some ⟨gF, 0, none⟩, none, none, F.length, 0, 0, F, [], [], rfl, ints_far hF hg3 (by have := hF.2.1; have := hx2.le; omega), Ints.nil _ _, Ints.nil _ _, OrdPair.ext hg3 (hx02.trans hF.1) (by rw [← Hbx.out]; omega), Hj.out.2, .inl ⟨rfl, rfl, rfl, Hj.out.1⟩⟩
    · have hxr : w.heap.size ≤ bx + 1 := by rw [← Hbx.out]; omega
      have cm := fun (w' : World) (hg : w2.grownBy w' (some (bx + 1))) (f : Nat) (hf : f < S) (hfo : f ∉ colsP pv) => motion_any (M := M) (d := d) (pv := pv) (σ := σ) (hmf w' hg) (hmp w' hg) hd ⟨Ao, co, rfl⟩ hpm hs.cnd (fun x hx => (hs.cin x hx).2) (fun k hk => hs.row_at hk) hf hfo h8 (by have := h53.1; omega) (fun q hq => by have := h53.2 q hq f; omega)
      have Cm := Lib.hid cm
      obtain ⟨ci, hlook, _⟩ := hd.look (hmp w2 (grownBy_refl _ _)) i (by omega)
      rw [decide_eq_false hin] at hlook
      have Hb := Lib.hid (b8 _ hx2)
      have tg1 := fun (w' : World) (hg : w2.grownBy w' (some (bx + 1))) => cell_gb (p := ⟨bx, 1, none⟩) hg (by simp) (t1 w2 hx2)
      have qg0 := fun (w' : World) (hg : w2.grownBy w' (some (bx + 1))) => cell_gb (p := ⟨gz, 0, none⟩) hg (by simp; omega) (hc w2 (Ext.refl _)).1
      have qg1 := fun (w' : World) (hg : w2.grownBy w' (some (bx + 1))) => cell_gb (p := ⟨gz, 1, none⟩) hg (by simp; omega) (hc w2 (Ext.refl _)).2.1
      have qg2 := fun (w' : World) (hg : w2.grownBy w' (some (bx + 1))) => cell_gb (p := ⟨gz, 2, none⟩) hg (by simp; omega) (hc w2 (Ext.refl _)).2.2.1
      have qg3 := fun (w' : World) (hg : w2.grownBy w' (some (bx + 1))) => cell_gb (p := ⟨gz, 3, none⟩) hg (by simp; omega) (hc w2 (Ext.refl _)).2.2.2
      have q2 : ∀ w', Ext w2 w' → w'.cell? ⟨gz, 2, none⟩ = some (.slice Ao S co) := fun w' he => (hc w' he).2.2.1
      have q3 : ∀ w', Ext w2 w' → w'.cell? ⟨gz, 3, none⟩ = some (.int .i64 d) := fun w' he => (hc w' he).2.2.2
      have Tg1 := Lib.hid tg1
      have Qg0 := Lib.hid qg0
      have Qg1 := Lib.hid qg1
      have Qg2 := Lib.hid qg2
      have Qg3 := Lib.hid qg3
      clear tg1 qg0 qg1 qg2 qg3 b8 cm hc
      by_cases hoi : o = i
      · obtain rfl := hoi
        have hfin := fun (x : List Int) (hx : MotOf S pv M d o x) => hs.provesSame ratCols_all h53 hi hin hx
        have Hfin := Lib.hid hfin
        have Hverd := Lib.hid (verd_same hs hi hin)
        clear hfin hs hmf hmp hd h53 Hs
        have hm6 : m ≤ 1000000 := by rw [Hm.out]; exact hl
        (repeat (first | ((first
          | (refine own_make (w1 := _) int_elem rfl _ _ rfl Try.underlying22 _ m rfl rfl (by omega) (by unfold maxLen; omega) (Ext.refl _) ?_; intro w5 hown hx5; rw [made_ints] at hown; have hnew := NewInts.of_own hown; have hb5 := hb4.ext hx5; obtain ⟨z0, z1, z2, zf⟩ := id hb5; (try simp only []))
          | (go_at_call 77; refine (Cm.out _ (Ext.gb (Ext.refl _)) o hi hin).mono ?_; rintro e w3 ⟨gM, xM, rfl, hnM, hM⟩; have hb3 := Hb.out.ext hnM.1; obtain ⟨y0, y1, y2, yf⟩ := id hb3; have hg4 : w2.grownBy (w3.setCell ⟨bx + 1, 1, none⟩ (sl gM S)) (some (bx + 1)) := (Ext.gb hnM.1).trans grown_setAt; have tc := Tg1.out _ hg4; have hb4 := hb3.set1 (sl gM S); simp only []))) | go_values | go_skip | go_guarded | go_step | go_upon | go_back))
        have hsz4 : (w3.setCell ⟨bx + 1, 1, none⟩ (.slice (some ⟨gM, 0, none⟩) S S)).heap.size = w3.heap.size := by simp only [World.setCell, Array.size_modify]
        rw [hsz4] at hnew
        obtain ⟨gZ, hgZ⟩ : ∃ gZ, gZ = w3.heap.size := ⟨_, rfl⟩
        rw [← hgZ] at hnew
        simp only [← hgZ]
        have HgZ := Lib.hid hgZ
        clear hgZ hsz4
        have hb6 := hb5.set0 (sl gZ m)
        have k0 : ∀ w', GOk w' (bx + 1) (sl gZ m) (sl gM S) (.slice none 0 0) → w'.cell? ⟨bx + 1, 0, none⟩ = some (sl gZ m) := fun _ h => h.c0
        have k1 : ∀ w', GOk w' (bx + 1) (sl gZ m) (sl gM S) (.slice none 0 0) → w'.cell? ⟨bx + 1, 1, none⟩ = some (sl gM S) := fun _ h => h.c1
        have k2 : ∀ w', GOk w' (bx + 1) (sl gZ m) (sl gM S) (.slice none 0 0) → w'.cell? ⟨bx + 1, 2, none⟩ = some (.slice none 0 0) := fun _ h => h.c2
        have kf : ∀ w' j, GOk w' (bx + 1) (sl gZ m) (sl gM S) (.slice none 0 0) → w'.frozen? ⟨bx + 1, j, none⟩ = false := fun _ j h => h.f j
        go_region_held3 (fun w' => GOk w' (bx + 1) (sl gZ m) (sl gM S) (.slice none 0 0)) (first | assumption | exact GOk.drew (by assumption) | exact GOk.put3 (by assumption) | fail) (fail)
        (repeat (first | go_values | go_skip | go_guarded | go_step | go_upon | go_back))
        (try simp only [Exit.inBlock, Exit.then])
        have hb7 := (hb6.put3 (x0 := sl gZ m) (x1 := sl gM S) (x2 := .slice none 0 0)).drew
        refine bodyPost_ret (results_ratio rfl _ _ rfl hb7) rfl ?_
        have hg5 : (w3.setCell ⟨bx + 1, 1, none⟩ (sl gM S)).grownBy w5 (some (bx + 1)) := hnew.1.gb
        have hg6 : w5.grownBy (put3 (w5.setCell ⟨bx + 1, 0, none⟩ (sl gZ m)) (bx + 1) (sl gZ m) (sl gM S) (.slice none 0 0)).drew (some (bx + 1)) := (World.grownBy.trans grown_setAt put3_grown).trans (Ext.gb (Ext.drew (Ext.refl _)))
        have hgM : w3.grownBy _ (some (bx + 1)) := (World.grownBy.trans grown_setAt hg5).trans hg6
        have hle3 := hx2.le
        have hle4 : w2.heap.size ≤ w3.heap.size := hnM.1.le
        refine ⟨1, 1, 0, some ⟨gZ, 0, none⟩, some ⟨gM, 0, none⟩, none, m, S, 0, List.replicate m 0, xM, [], by rw [hM.1, List.length_replicate]; rfl, ints_far hnew hg6 (by have := HgZ.out; omega), ints_far hnM hgM (by have := hnM.2.1; omega), Ints.nil _ _, OrdPair.ext (hg4.trans (hg5.trans hg6)) hx02 hxr, Hverd.out, .inr (.inr ⟨rfl, ?_⟩)⟩
        rw [Hm.out]
        exact Hfin.out xM hM
      · have hoi' : ¬ (i : Int) = (o : Int) := by omega
        have hlk := fun (w' : World) (hg : w2.grownBy w' (some (bx + 1))) => hd.look (hmp w' hg) o (by omega)
        by_cases hon : o ∈ colsP pv
        · obtain ⟨k, hk, hko⟩ := List.getElem_of_mem hon
          have hkp : k < pv.length := by rw [colsP_len] at hk; exact hk
          obtain ⟨gv, cv, rfl, _⟩ := (hmf w2 (grownBy_refl _ _)).at_ (k := k) (by omega)
          have hrow : pv[k].1 = σ k := hs.row_at hkp
          have hcol : pv[k].2 = o := by rw [← hko]; exact (colsP_get hk).symm
          have hqm : pv[k] ∈ pv := List.getElem_mem hkp
          have hat := fun (w' : World) (hg : w2.grownBy w' (some (bx + 1))) => (hmf w' hg).at2 (k := k) (show k < m by omega)
          have hlk2 : ∀ w', w2.grownBy w' (some (bx + 1)) → (Instr.lookup 99 (.map (some mb)) (.int .i64 o) true).run Try.prog w' = .ok (.tuple #[.int .i64 k, .bool true]) w' := fun w' hg => by
            obtain ⟨cz, h1, hv⟩ := hlk w' hg
            rw [hv k hk hko, decide_eq_true hon] at h1
            exact h1
          have hMd : M (σ k) o = d := by have := hs.red' hqm hqm; rw [if_pos rfl, hrow, hcol] at this; exact this
          have c76 := fun (w' : World) (hg : w2.grownBy w' (some (bx + 1))) => factors_row (some ⟨g k, 0, none⟩) (some ⟨h k, 0, none⟩) S m S m _ _ o w' (hat w' hg).2.2.1 (hat w' hg).2.2.2.1 (hat w' hg).2.2.2.2.1 (hat w' hg).2.2.2.2.2 ho (fun y hy => by
            rw [byOf_get hy, ← hrow]
            have := h53.2 _ hqm (S + y)
            omega) (by have := HT.out.2.2.1; rw [← Hm.out] at this; omega)
          have hF : FacOf S m M d pv[k] (negL (decide (getI (lineOf M S (σ k)) o < 0)) (byOf M S m (σ k)) m) := by
            have := facOf_neg (S := S) (m := m) (M := M) (d := d) (q := pv[k]) hrow (by rw [hcol]; exact hMd) (by rw [hcol]; exact ho)
            rw [hcol] at this
            exact this
          have cat := fun (w' : World) (hg : w2.grownBy w' (some (bx + 1))) (j : Nat) (hj : j < S) => at_any (some ⟨g k, 0, none⟩) S j (lineOf M S (σ k)) w' (hat w' hg).2.2.1 (by rw [(hat w' hg).2.2.2.2.1]; exact hj)
          have hll := (hat w2 (grownBy_refl _ _)).2.2.2.2.1
          rw [hll] at cat
          have cati := fun (w' : World) (hg : w2.grownBy w' (some (bx + 1))) => cat w' hg i hi
          have cato := fun (w' : World) (hg : w2.grownBy w' (some (bx + 1))) => cat w' hg o ho
          rw [lineOf_get hi, ← hrow] at cati
          rw [lineOf_get ho, hMd] at cato
          generalize negL (decide (getI (lineOf M S (σ k)) o < 0)) (byOf M S m (σ k)) m = F at *
          have hfl : F.length = m := hF.1
          obtain ⟨c1, hc1⟩ := ratCols_two hoi
          rw [Hm.out] at hF
          have hfin := fun (x : List Int) (hx : MotOf S pv M d i x) => hs.provesRatio ratCols_all h53 hc1 ratCols_nodup hi ho (fun e => hoi e.symm) hin hqm hcol hF hx
          have hverd := verd_loose hs hi ho hoi hin
          rw [if_pos hon] at hverd
          have Hverd := Lib.hid hverd
          have hd0 := hs.bar.ne
          have hby := h53.2 _ hqm i
          have hbd := h53.1
          generalize M pv[k].1 i = y at *
          have cdiv := fun (w' : World) => divisor_any y d w' (by omega) (by omega) (fun e => absurd e hd0)
          have hdv : dvS y d ≠ 0 := by
            unfold dvS
            have h1 : Int.gcd y d ≠ 0 := fun e => hd0 (Int.gcd_eq_zero_iff.1 e).2
            split <;> omega
          have hfin : ∀ x, MotOf S pv M d i x → ratPr (gearL ms S) ms.length S i o ((-y).tdiv (dvS y d)) (d.tdiv (dvS y d)) F x [] := hfin
          generalize dvS y d = dv at *
          obtain ⟨num, hnum⟩ : ∃ num, (-y).tdiv dv = num := ⟨_, rfl⟩
          obtain ⟨den, hden⟩ : ∃ den, d.tdiv dv = den := ⟨_, rfl⟩
          rw [hnum, hden] at hfin
          have hwn := wrap_tdiv (by omega) hnum
          have hwd := wrap_tdiv (by omega) hden
          have hwn2 : IntKind.i64.wrap (-y.tdiv dv) = num := by rw [← Int.neg_tdiv]; exact hwn
          have hwy : IntKind.i64.wrap (-y) = -y := by rw [IntKind.wrap_i64]; omega
          have Hfin := Lib.hid hfin
          have Hlk := Lib.hid hlk2
          have Hat := Lib.hid hat
          have C76 := Lib.hid c76
          have Cati := Lib.hid cati
          have Cato := Lib.hid cato
          have Cdiv := Lib.hid cdiv
          have Hfl := Lib.hid hfl
          have hkm : (k : Int) < (m : Int) := by omega
          clear hfin hverd hlk hlk2 hat c76 cat cati cato cdiv hs hmf hmp hd h53 Hs hF hll hc1 hfl hnum hden hMd hrow hcol hqm hko hbd
          (repeat (first | ((first
            | (go_at_call 76; refine (C76.out _ hg5).mono ?_; rintro e w6 ⟨gF, rfl, hF6⟩; have hb6 := hb5.ext hF6.1; obtain ⟨z0, z1, z2, zf⟩ := id hb6; simp only [])
            | (go_at_call 77; refine (Cm.out _ (Ext.gb (Ext.refl _)) i hi hin).mono ?_; rintro e w3 ⟨gM, xM, rfl, hnM, hM⟩; have hb3 := Hb.out.ext hnM.1; obtain ⟨y0, y1, y2, yf⟩ := id hb3; have hg4 : w2.grownBy (w3.setCell ⟨bx + 1, 1, none⟩ (sl gM S)) (some (bx + 1)) := (Ext.gb hnM.1).trans grown_setAt; have p0 := Qg0.out _ hg4; have p1 := Qg1.out _ hg4; have hlook2 := Hlk.out _ hg4; have r0 := (Hat.out _ hg4).1 _ (Ext.refl _); have r1 := (Hat.out _ hg4).2.1 _ (Ext.refl _); have hb4 := hb3.set1 (sl gM S); have hg5 := hg4.trans (Ext.gb (r := some (bx + 1)) (Ext.alloc (Ext.refl _) (.cells #[sl (g k) S, sl (h k) m] 117))); have hb5 := hb4.ext (Ext.alloc (Ext.refl _) (.cells #[sl (g k) S, sl (h k) m] 117)); simp only []))) | go_values | go_skip | go_guarded | go_step | go_upon | go_back))
          have hsz4 : (w3.setCell ⟨bx + 1, 1, none⟩ (sl gM S)).heap.size = w3.heap.size := by simp only [World.setCell, Array.size_modify]
          have hle2 := hx2.le
          have hle3 : w2.heap.size ≤ w3.heap.size := hnM.1.le
          have hb7 := hb6.set0 (sl gF F.length)
          have hg67 : w6.grownBy (w6.setCell ⟨bx + 1, 0, none⟩ (sl gF F.length)) (some (bx + 1)) := grown_setAt
          have hg7 := (World.grownBy.trans hg5 (Ext.gb hF6.1)).trans hg67
          have s0 : (w6.setCell ⟨bx + 1, 0, none⟩ (sl gF F.length)).cell? ⟨w3.heap.size, 0, none⟩ = some (sl (g k) S) := cell_gb hg67 (by show w3.heap.size ≠ bx + 1; omega) (hF6.1.cell (by rw [← hsz4]; exact cells_last rfl rfl))
          have hgM : w3.grownBy (w6.setCell ⟨bx + 1, 0, none⟩ (sl gF F.length)) (some (bx + 1)) := World.grownBy.trans (World.grownBy.trans (World.grownBy.trans grown_setAt (Ext.gb (Ext.alloc (Ext.refl _) _))) (Ext.gb hF6.1)) hg67
          have hgFb : gF ≠ bx + 1 := by
            have h1 := hF6.2.1
            have h2 : (w3.setCell ⟨bx + 1, 1, none⟩ (sl gM S)).heap.size ≤ ((w3.setCell ⟨bx + 1, 1, none⟩ (sl gM S)).alloc (.cells #[sl (g k) S, sl (h k) m] 117)).heap.size := (Ext.alloc (Ext.refl _) _).le
            omega
          have hgMb : gM ≠ bx + 1 := by have := hnM.2.1; omega
          obtain ⟨gr, hgr⟩ : ∃ gr, gr = w3.heap.size := ⟨_, rfl⟩
          rw [← hgr] at s0
          have hgrb : gr ≠ bx + 1 := by omega
          simp only [← hgr]
          clear hgr hsz4 p0 p1 hlook2 r0 r1 hg4 hb4 y0 y1 y2 yf z0 z1 z2 zf hb6 hb5 hle2 hle3
          generalize w6.setCell ⟨bx + 1, 0, none⟩ (.slice (some ⟨gF, 0, none⟩) F.length F.length) = w7 at *
          have s0 := Ext.cells s0
          go_region_held3 (fun w' => Ext w7 w') (first | assumption | (simp (maxDischargeDepth := 8); done) | (simp (maxDischargeDepth := 8) [*]; done) | fail) (first
            | (go_at_call 58; have hh := (by assumption : Ext w7 _); refine (Cdiv.out _).mono ?_; rintro e w9 ⟨rfl, hx9⟩; have hx79 := Ext.trans hh hx9)
            | (go_at_call 78; have hh := (by assumption : Ext w7 _); (with_reducible refine (Cati.out _ (hg7.trans (Ext.gb hh))).mono ?_); rintro e w8 ⟨rfl, rfl⟩)
            | (go_at_call 78; have hh := (by assumption : Ext w7 _); (with_reducible refine (Cato.out _ (hg7.trans (Ext.gb hh))).mono ?_); rintro e w8 ⟨rfl, rfl⟩))
          have hb9 := hb7.ext hx79
          have hg9 := hg7.trans (Ext.gb (r := some (bx + 1)) hx79)
          have hgM9 := hgM.trans (Ext.gb (r := some (bx + 1)) hx79)
          have hg69 := hg67.trans (Ext.gb (r := some (bx + 1)) hx79)
          have hsg := Sg.start hb9
          have s9 : ∀ w', Sg w9 (bx + 1) (sl gF F.length) (sl gM S) (.slice none 0 0) w' → w'.cell? ⟨gr, 0, none⟩ = some (sl (g k) S) := fun w' hg => cell_gb hg.gb hgrb (s0 w9 hx79)
          have k0 : ∀ w', Sg w9 (bx + 1) (sl gF F.length) (sl gM S) (.slice none 0 0) w' → w'.cell? ⟨bx + 1, 0, none⟩ = some (sl gF F.length) := fun _ h => h.ok.c0
          have k1 : ∀ w', Sg w9 (bx + 1) (sl gF F.length) (sl gM S) (.slice none 0 0) w' → w'.cell? ⟨bx + 1, 1, none⟩ = some (sl gM S) := fun _ h => h.ok.c1
          have k2 : ∀ w', Sg w9 (bx + 1) (sl gF F.length) (sl gM S) (.slice none 0 0) w' → w'.cell? ⟨bx + 1, 2, none⟩ = some (.slice none 0 0) := fun _ h => h.ok.c2
          have kf : ∀ w' j, Sg w9 (bx + 1) (sl gF F.length) (sl gM S) (.slice none 0 0) w' → w'.frozen? ⟨bx + 1, j, none⟩ = false := fun _ j h => h.ok.f j
          clear s0 hb7 hg67 hgM hgrb q1 q2 q3 t0 t1 b8 hlook
          (repeat (first | go_values | go_skip | go_guarded | go_step | go_upon | go_back))
          go_region_held3 (fun w' => Sg w9 (bx + 1) (sl gF F.length) (sl gM S) (.slice none 0 0) w') (first | assumption | exact Sg.drew (by assumption) | exact Sg.put3 (by assumption) | fail) (first
            | (go_at_call 78; have hh := (by assumption : Sg w9 (bx + 1) (sl gF F.length) (sl gM S) (.slice none 0 0) _); (with_reducible refine (Cati.out _ (hg9.trans hh.gb)).mono ?_); rintro e w8 ⟨rfl, rfl⟩)
            | (go_at_call 78; have hh := (by assumption : Sg w9 (bx + 1) (sl gF F.length) (sl gM S) (.slice none 0 0) _); (with_reducible refine (Cato.out _ (hg9.trans hh.gb)).mono ?_); rintro e w8 ⟨rfl, rfl⟩))
          (repeat (first | go_values | go_skip | go_guarded | go_step | go_upon | go_back))
          (try simp only [Exit.inBlock, Exit.then])
          (try simp only [hwn2])
          have hbz := ((Sg.start hb9).put3).drew
          refine bodyPost_ret (results_ratio rfl _ _ rfl hbz.ok) rfl ?_
          exact ⟨num, den, 0, some ⟨gF, 0, none⟩, some ⟨gM, 0, none⟩, none, F.length, S, 0, F, xM, [], by rw [hM.1]; rfl, ints_far hF6 (hg69.trans hbz.gb) hgFb, ints_far hnM (hgM9.trans hbz.gb) hgMb, Ints.nil _ _, OrdPair.ext (hg9.trans hbz.gb) hx02 hxr, Hverd.out.symm, .inr (.inr ⟨rfl, Hfin.out xM hM⟩)⟩
        · have hfin := fun (x y : List Int) (hx : MotOf S pv M d i x) (hy : MotOf S pv M d o y) => hs.provesLoose ratCols_all h53 hi ho (fun e => hoi e.symm) hin hon hx hy
          have Hfin := Lib.hid hfin
          have hverd := verd_loose hs hi ho hoi hin
          rw [if_neg hon] at hverd
          have Hverd := Lib.hid hverd
          rw [decide_eq_false hon] at hlk
          have Hlk := Lib.hid hlk
          clear hfin hverd hlk hs hmf hmp hd h53 Hs
          (repeat (first | ((first
            | (go_at_call 77; refine (Cm.out _ hg4 o ho hon).mono ?_; rintro e w5 ⟨gS, xS, rfl, hnS, hS⟩; have hb5 := hb4.ext hnS.1; obtain ⟨z0, z1, z2, zf⟩ := id hb5; simp only [])
            | (go_at_call 77; refine (Cm.out _ (Ext.gb (Ext.refl _)) i hi hin).mono ?_; rintro e w3 ⟨gM, xM, rfl, hnM, hM⟩; have hb3 := Hb.out.ext hnM.1; obtain ⟨y0, y1, y2, yf⟩ := id hb3; have hg4 : w2.grownBy (w3.setCell ⟨bx + 1, 1, none⟩ (sl gM S)) (some (bx + 1)) := (Ext.gb hnM.1).trans grown_setAt; have p0 := Qg0.out _ hg4; have p1 := Qg1.out _ hg4; have p2 := Qg2.out _ hg4; have p3 := Qg3.out _ hg4; obtain ⟨cz, hlook2, _⟩ := Hlk.out _ hg4; have hb4 := hb3.set1 (sl gM S); simp only []))) | go_values | go_skip | go_guarded | go_step | go_upon | go_back))
          have hb6 := hb5.set2 (sl gS S)
          have k0 : ∀ w', GOk w' (bx + 1) (.slice none 0 0) (sl gM S) (sl gS S) → w'.cell? ⟨bx + 1, 0, none⟩ = some (.slice none 0 0) := fun _ h => h.c0
          have k1 : ∀ w', GOk w' (bx + 1) (.slice none 0 0) (sl gM S) (sl gS S) → w'.cell? ⟨bx + 1, 1, none⟩ = some (sl gM S) := fun _ h => h.c1
          have k2 : ∀ w', GOk w' (bx + 1) (.slice none 0 0) (sl gM S) (sl gS S) → w'.cell? ⟨bx + 1, 2, none⟩ = some (sl gS S) := fun _ h => h.c2
          have kf : ∀ w' j, GOk w' (bx + 1) (.slice none 0 0) (sl gM S) (sl gS S) → w'.frozen? ⟨bx + 1, j, none⟩ = false := fun _ j h => h.f j
          go_region_held3 (fun w' => GOk w' (bx + 1) (.slice none 0 0) (sl gM S) (sl gS S)) (first | assumption | exact GOk.drew (by assumption) | exact GOk.put3 (by assumption) | fail) (fail)
          (repeat (first | go_values | go_skip | go_guarded | go_step | go_upon | go_back))
          (try simp only [Exit.inBlock, Exit.then])
          have hb7 := (hb6.put3 (x0 := .slice none 0 0) (x1 := sl gM S) (x2 := sl gS S)).drew
          refine bodyPost_ret (results_ratio rfl _ _ rfl hb7) rfl ?_
          have hg5 : (w3.setCell ⟨bx + 1, 1, none⟩ (sl gM S)).grownBy w5 (some (bx + 1)) := hnS.1.gb
          have hg6 : w5.grownBy (put3 (w5.setCell ⟨bx + 1, 2, none⟩ (sl gS S)) (bx + 1) (.slice none 0 0) (sl gM S) (sl gS S)).drew (some (bx + 1)) := (World.grownBy.trans grown_setAt put3_grown).trans (Ext.gb (Ext.drew (Ext.refl _)))
          have hgM : w3.grownBy _ (some (bx + 1)) := (World.grownBy.trans grown_setAt hg5).trans hg6
          have hle3 := hx2.le
          have hle4 : w2.heap.size ≤ w3.heap.size := hnM.1.le
          have hsz4 : (w3.setCell ⟨bx + 1, 1, none⟩ (sl gM S)).heap.size = w3.heap.size := by simp only [World.setCell, Array.size_modify]
          refine ⟨0, 0, 42, none, some ⟨gM, 0, none⟩, some ⟨gS, 0, none⟩, 0, S, S, [], xM, xS, by rw [hM.1, hS.1]; rfl, Ints.nil _ _, ints_far hnM hgM (by have := hnM.2.1; omega), ints_far hnS hg6 (by have := hnS.2.1; omega), OrdPair.ext (hg4.trans (hg5.trans hg6)) hx02 hxr, Hverd.out.symm, .inr (.inl ⟨rfl, rfl, rfl, Hfin.out xM xS hM hS⟩)⟩
  · go_region_held3 (fun w' => Ext w1 w') (first | assumption | (simp (maxDischargeDepth := 8); done) | (simp (maxDischargeDepth := 8) [*]; done) | (refine put4_ext ?_ ?_; assumption; (first | omega | (simp; done) | (simp; omega) | fail))) (first
      | (go_at_call 66; have hh := (by assumption : Ext w1 _); refine (C28.out _ (hxw1.trans hh)).mono ?_; rintro e w2 ⟨vr, rfl, hx2, hr2⟩; have hx12 := Ext.trans hh hx2; have hle := hx12.le; (try ((refine (fun (hl2 : LOk w2 w1.heap.size (o : Int) (i : Int)) => ?_) (LOk.ext ?_ hx2); rotate_left; focus (first | (assumption) | (refine LOk.new' ?_; first | rfl | (simp; done)) | (refine LOk.alloc ?_; assumption) | (refine LOk.alloc ?_; refine LOk.new' ?_; first | rfl | (simp; done)) | (refine LOk.alloc (LOk.alloc ?_); assumption) | (refine LOk.alloc (LOk.alloc ?_); refine LOk.new' ?_; first | rfl | (simp; done)) | (refine LOk.drew ?_; assumption) | (refine LOk.drew ?_; refine LOk.new' ?_; first | rfl | (simp; done)) | (refine LOk.drew ?_; refine LOk.alloc ?_; assumption) | (refine LOk.drew ?_; refine LOk.alloc ?_; refine LOk.new' ?_; first | rfl | (simp; done)) | (refine LOk.drew ?_; refine LOk.alloc (LOk.alloc ?_); assumption) | (refine LOk.drew ?_; refine LOk.alloc (LOk.alloc ?_); refine LOk.new' ?_; first | rfl | (simp; done)) | fail)))); (try ((refine (fun (hl2 : LOk w2 (w1.heap.size + 1) (o : Int) (i : Int)) => ?_) (LOk.ext ?_ hx2); rotate_left; focus (first | (assumption) | (refine LOk.new' ?_; first | rfl | (simp; done)) | (refine LOk.alloc ?_; assumption) | (refine LOk.alloc ?_; refine LOk.new' ?_; first | rfl | (simp; done)) | (refine LOk.alloc (LOk.alloc ?_); assumption) | (refine LOk.alloc (LOk.alloc ?_); refine LOk.new' ?_; first | rfl | (simp; done)) | (refine LOk.drew ?_; assumption) | (refine LOk.drew ?_; refine LOk.new' ?_; first | rfl | (simp; done)) | (refine LOk.drew ?_; refine LOk.alloc ?_; assumption) | (refine LOk.drew ?_; refine LOk.alloc ?_; refine LOk.new' ?_; first | rfl | (simp; done)) | (refine LOk.drew ?_; refine LOk.alloc (LOk.alloc ?_); assumption) | (refine LOk.drew ?_; refine LOk.alloc (LOk.alloc ?_); refine LOk.new' ?_; first | rfl | (simp; done)) | fail)))); (try ((refine (fun (hz2 : ZOk w2 w1.heap.size) => ?_) (ZOk.ext ?_ hx2); rotate_left; focus (first | (assumption) | (refine ZOk.new' ?_; first | rfl | (simp; done)) | (refine ZOk.alloc ?_; assumption) | (refine ZOk.alloc ?_; refine ZOk.new' ?_; first | rfl | (simp; done)) | (refine ZOk.alloc (ZOk.alloc ?_); assumption) | (refine ZOk.alloc (ZOk.alloc ?_); refine ZOk.new' ?_; first | rfl | (simp; done)) | (refine ZOk.drew ?_; assumption) | (refine ZOk.drew ?_; refine ZOk.new' ?_; first | rfl | (simp; done)) | (refine ZOk.drew ?_; refine ZOk.alloc ?_; assumption) | (refine ZOk.drew ?_; refine ZOk.alloc ?_; refine ZOk.new' ?_; first | rfl | (simp; done)) | (refine ZOk.drew ?_; refine ZOk.alloc (ZOk.alloc ?_); assumption) | (refine ZOk.drew ?_; refine ZOk.alloc (ZOk.alloc ?_); refine ZOk.new' ?_; first | rfl | (simp; done)) | fail)))); (try ((refine (fun (hz2 : ZOk w2 (w1.heap.size + 1)) => ?_) (ZOk.ext ?_ hx2); rotate_left; focus (first | (assumption) | (refine ZOk.new' ?_; first | rfl | (simp; done)) | (refine ZOk.alloc ?_; assumption) | (refine ZOk.alloc ?_; refine ZOk.new' ?_; first | rfl | (simp; done)) | (refine ZOk.alloc (ZOk.alloc ?_); assumption) | (refine ZOk.alloc (ZOk.alloc ?_); refine ZOk.new' ?_; first | rfl | (simp; done)) | (refine ZOk.drew ?_; assumption) | (refine ZOk.drew ?_; refine ZOk.new' ?_; first | rfl | (simp; done)) | (refine ZOk.drew ?_; refine ZOk.alloc ?_; assumption) | (refine ZOk.drew ?_; refine ZOk.alloc ?_; refine ZOk.new' ?_; first | rfl | (simp; done)) | (refine ZOk.drew ?_; refine ZOk.alloc (ZOk.alloc ?_); assumption) | (refine ZOk.drew ?_; refine ZOk.alloc (ZOk.alloc ?_); refine ZOk.new' ?_; first | rfl | (simp; done)) | fail)))))
      | (go_at_call 65; (try have hlt3 := hz3.lt); have hW4 := (by assumption : Ext w1 _); obtain ⟨b', hr3⟩ := hr3; refine (solve_is HT.out (hr3.later (by simp (maxDischargeDepth := 8))) (ho3.later (by simp (maxDischargeDepth := 8))) (ratCols_lt hi ho) hcl).mono ?_; rintro e w4 ⟨u, rfl, hx4, hs4⟩; obtain ⟨Av, nv, cv, Bo, nb, cb, mb, d, rfl⟩ := hs4.form; have hx14 := Ext.trans hW4 hx4; have hle4 := hx14.le; (try ((refine (fun (hz4 : ZOk w4 w1.heap.size) => ?_) (ZOk.ext ?_ hx4); rotate_left; focus (first | (assumption) | (refine ZOk.new' ?_; first | rfl | (simp; done)) | (refine ZOk.alloc ?_; assumption) | (refine ZOk.alloc ?_; refine ZOk.new' ?_; first | rfl | (simp; done)) | (refine ZOk.alloc (ZOk.alloc ?_); assumption) | (refine ZOk.alloc (ZOk.alloc ?_); refine ZOk.new' ?_; first | rfl | (simp; done)) | (refine ZOk.drew ?_; assumption) | (refine ZOk.drew ?_; refine ZOk.new' ?_; first | rfl | (simp; done)) | (refine ZOk.drew ?_; refine ZOk.alloc ?_; assumption) | (refine ZOk.drew ?_; refine ZOk.alloc ?_; refine ZOk.new' ?_; first | rfl | (simp; done)) | (refine ZOk.drew ?_; refine ZOk.alloc (ZOk.alloc ?_); assumption) | (refine ZOk.drew ?_; refine ZOk.alloc (ZOk.alloc ?_); refine ZOk.new' ?_; first | rfl | (simp; done)) | fail)))); (try ((refine (fun (hz4 : ZOk w4 (w1.heap.size + 1)) => ?_) (ZOk.ext ?_ hx4); rotate_left; focus (first | (assumption) | (refine ZOk.new' ?_; first | rfl | (simp; done)) | (refine ZOk.alloc ?_; assumption) | (refine ZOk.alloc ?_; refine ZOk.new' ?_; first | rfl | (simp; done)) | (refine ZOk.alloc (ZOk.alloc ?_); assumption) | (refine ZOk.alloc (ZOk.alloc ?_); refine ZOk.new' ?_; first | rfl | (simp; done)) | (refine ZOk.drew ?_; assumption) | (refine ZOk.drew ?_; refine ZOk.new' ?_; first | rfl | (simp; done)) | (refine ZOk.drew ?_; refine ZOk.alloc ?_; assumption) | (refine ZOk.drew ?_; refine ZOk.alloc ?_; refine ZOk.new' ?_; first | rfl | (simp; done)) | (refine ZOk.drew ?_; refine ZOk.alloc (ZOk.alloc ?_); assumption) | (refine ZOk.drew ?_; refine ZOk.alloc (ZOk.alloc ?_); refine ZOk.new' ?_; first | rfl | (simp; done)) | fail)))); (try ((refine (fun (hz4 : ZOk w4 w2.heap.size) => ?_) (ZOk.ext ?_ hx4); rotate_left; focus (first | (assumption) | (refine ZOk.new' ?_; first | rfl | (simp; done)) | (refine ZOk.alloc ?_; assumption) | (refine ZOk.alloc ?_; refine ZOk.new' ?_; first | rfl | (simp; done)) | (refine ZOk.alloc (ZOk.alloc ?_); assumption) | (refine ZOk.alloc (ZOk.alloc ?_); refine ZOk.new' ?_; first | rfl | (simp; done)) | (refine ZOk.drew ?_; assumption) | (refine ZOk.drew ?_; refine ZOk.new' ?_; first | rfl | (simp; done)) | (refine ZOk.drew ?_; refine ZOk.alloc ?_; assumption) | (refine ZOk.drew ?_; refine ZOk.alloc ?_; refine ZOk.new' ?_; first | rfl | (simp; done)) | (refine ZOk.drew ?_; refine ZOk.alloc (ZOk.alloc ?_); assumption) | (refine ZOk.drew ?_; refine ZOk.alloc (ZOk.alloc ?_); refine ZOk.new' ?_; first | rfl | (simp; done)) | fail)))); (try ((refine (fun (hz4 : ZOk w4 (w2.heap.size + 1)) => ?_) (ZOk.ext ?_ hx4); rotate_left; focus (first | (assumption) | (refine ZOk.new' ?_; first | rfl | (simp; done)) | (refine ZOk.alloc ?_; assumption) | (refine ZOk.alloc ?_; refine ZOk.new' ?_; first | rfl | (simp; done)) | (refine ZOk.alloc (ZOk.alloc ?_); assumption) | (refine ZOk.alloc (ZOk.alloc ?_); refine ZOk.new' ?_; first | rfl | (simp; done)) | (refine ZOk.drew ?_; assumption) | (refine ZOk.drew ?_; refine ZOk.new' ?_; first | rfl | (simp; done)) | (refine ZOk.drew ?_; refine ZOk.alloc ?_; assumption) | (refine ZOk.drew ?_; refine ZOk.alloc ?_; refine ZOk.new' ?_; first | rfl | (simp; done)) | (refine ZOk.drew ?_; refine ZOk.alloc (ZOk.alloc ?_); assumption) | (refine ZOk.drew ?_; refine ZOk.alloc (ZOk.alloc ?_); refine ZOk.new' ?_; first | rfl | (simp; done)) | fail)))); (try ((refine (fun (hz4 : ZOk w4 w3.heap.size) => ?_) (ZOk.ext ?_ hx4); rotate_left; focus (first | (assumption) | (refine ZOk.new' ?_; first | rfl | (simp; done)) | (refine ZOk.alloc ?_; assumption) | (refine ZOk.alloc ?_; refine ZOk.new' ?_; first | rfl | (simp; done)) | (refine ZOk.alloc (ZOk.alloc ?_); assumption) | (refine ZOk.alloc (ZOk.alloc ?_); refine ZOk.new' ?_; first | rfl | (simp; done)) | (refine ZOk.drew ?_; assumption) | (refine ZOk.drew ?_; refine ZOk.new' ?_; first | rfl | (simp; done)) | (refine ZOk.drew ?_; refine ZOk.alloc ?_; assumption) | (refine ZOk.drew ?_; refine ZOk.alloc ?_; refine ZOk.new' ?_; first | rfl | (simp; done)) | (refine ZOk.drew ?_; refine ZOk.alloc (ZOk.alloc ?_); assumption) | (refine ZOk.drew ?_; refine ZOk.alloc (ZOk.alloc ?_); refine ZOk.new' ?_; first | rfl | (simp; done)) | fail)))); (try obtain ⟨z0, z1, z2, z3, zf⟩ := id hz4))
      | (go_at_call 67; have hW := (by assumption : Ext w1 _); refine (order_lit (x := (o : Int)) (y := (i : Int)) h8 ?_).mono ?_; (focus (first | (assumption) | (refine LOk.new' ?_; first | rfl | (simp; done)) | (refine LOk.alloc ?_; assumption) | (refine LOk.alloc ?_; refine LOk.new' ?_; first | rfl | (simp; done)) | (refine LOk.alloc (LOk.alloc ?_); assumption) | (refine LOk.alloc (LOk.alloc ?_); refine LOk.new' ?_; first | rfl | (simp; done)) | (refine LOk.drew ?_; assumption) | (refine LOk.drew ?_; refine LOk.new' ?_; first | rfl | (simp; done)) | (refine LOk.drew ?_; refine LOk.alloc ?_; assumption) | (refine LOk.drew ?_; refine LOk.alloc ?_; refine LOk.new' ?_; first | rfl | (simp; done)) | (refine LOk.drew ?_; refine LOk.alloc (LOk.alloc ?_); assumption) | (refine LOk.drew ?_; refine LOk.alloc (LOk.alloc ?_); refine LOk.new' ?_; first | rfl | (simp; done)) | fail)); rintro e w3 ⟨hlk, Ao, co, rfl, hoi, hg⟩; rw [ratCols_ord] at hoi; have ho3 : isNats (ratCols S i o) _ w3 := ⟨Ao, co, rfl, hoi⟩; rw [← ratCols_ord S i o] at ho3; have hx13 : Ext w1 w3 := OrdPair.ext hg hW (by (first | omega | (simp; done) | (simp; omega) | fail)); have hr3 := rows_then hh hr2 (by simp (maxDischargeDepth := 8)) hg (by (first | omega | (simp; done) | (simp; omega) | fail)) (by (first | (refine Or.inl ?_; (first | omega | (simp; done) | (simp; omega) | fail)) | (refine Or.inr ?_; (first | omega | (simp; done) | (simp; omega) | fail)) | fail)); have hle3 := hx13.le; (try ((refine (fun (hz3 : ZOk w3 w1.heap.size) => ?_) (ZOk.grown ?_ hlk.c0 hg); rotate_left; focus (first | (assumption) | (refine ZOk.new' ?_; first | rfl | (simp; done)) | (refine ZOk.alloc ?_; assumption) | (refine ZOk.alloc ?_; refine ZOk.new' ?_; first | rfl | (simp; done)) | (refine ZOk.alloc (ZOk.alloc ?_); assumption) | (refine ZOk.alloc (ZOk.alloc ?_); refine ZOk.new' ?_; first | rfl | (simp; done)) | (refine ZOk.drew ?_; assumption) | (refine ZOk.drew ?_; refine ZOk.new' ?_; first | rfl | (simp; done)) | (refine ZOk.drew ?_; refine ZOk.alloc ?_; assumption) | (refine ZOk.drew ?_; refine ZOk.alloc ?_; refine ZOk.new' ?_; first | rfl | (simp; done)) | (refine ZOk.drew ?_; refine ZOk.alloc (ZOk.alloc ?_); assumption) | (refine ZOk.drew ?_; refine ZOk.alloc (ZOk.alloc ?_); refine ZOk.new' ?_; first | rfl | (simp; done)) | fail)))); (try ((refine (fun (hz3 : ZOk w3 (w1.heap.size + 1)) => ?_) (ZOk.grown ?_ hlk.c0 hg); rotate_left; focus (first | (assumption) | (refine ZOk.new' ?_; first | rfl | (simp; done)) | (refine ZOk.alloc ?_; assumption) | (refine ZOk.alloc ?_; refine ZOk.new' ?_; first | rfl | (simp; done)) | (refine ZOk.alloc (ZOk.alloc ?_); assumption) | (refine ZOk.alloc (ZOk.alloc ?_); refine ZOk.new' ?_; first | rfl | (simp; done)) | (refine ZOk.drew ?_; assumption) | (refine ZOk.drew ?_; refine ZOk.new' ?_; first | rfl | (simp; done)) | (refine ZOk.drew ?_; refine ZOk.alloc ?_; assumption) | (refine ZOk.drew ?_; refine ZOk.alloc ?_; refine ZOk.new' ?_; first | rfl | (simp; done)) | (refine ZOk.drew ?_; refine ZOk.alloc (ZOk.alloc ?_); assumption) | (refine ZOk.drew ?_; refine ZOk.alloc (ZOk.alloc ?_); refine ZOk.new' ?_; first | rfl | (simp; done)) | fail)))); (try ((refine (fun (hz3 : ZOk w3 w2.heap.size) => ?_) (ZOk.grown ?_ hlk.c0 hg); rotate_left; focus (first | (assumption) | (refine ZOk.new' ?_; first | rfl | (simp; done)) | (refine ZOk.alloc ?_; assumption) | (refine ZOk.alloc ?_; refine ZOk.new' ?_; first | rfl | (simp; done)) | (refine ZOk.alloc (ZOk.alloc ?_); assumption) | (refine ZOk.alloc (ZOk.alloc ?_); refine ZOk.new' ?_; first | rfl | (simp; done)) | (refine ZOk.drew ?_; assumption) | (refine ZOk.drew ?_; refine ZOk.new' ?_; first | rfl | (simp; done)) | (refine ZOk.drew ?_; refine ZOk.alloc ?_; assumption) | (refine ZOk.drew ?_; refine ZOk.alloc ?_; refine ZOk.new' ?_; first | rfl | (simp; done)) | (refine ZOk.drew ?_; refine ZOk.alloc (ZOk.alloc ?_); assumption) | (refine ZOk.drew ?_; refine ZOk.alloc (ZOk.alloc ?_); refine ZOk.new' ?_; first | rfl | (simp; done)) | fail)))); (try ((refine (fun (hz3 : ZOk w3 (w2.heap.size + 1)) => ?_) (ZOk.grown ?_ hlk.c0 hg); rotate_left; focus (first | (assumption) | (refine ZOk.new' ?_; first | rfl | (simp; done)) | (refine ZOk.alloc ?_; assumption) | (refine ZOk.alloc ?_; refine ZOk.new' ?_; first | rfl | (simp; done)) | (refine ZOk.alloc (ZOk.alloc ?_); assumption) | (refine ZOk.alloc (ZOk.alloc ?_); refine ZOk.new' ?_; first | rfl | (simp; done)) | (refine ZOk.drew ?_; assumption) | (refine ZOk.drew ?_; refine ZOk.new' ?_; first | rfl | (simp; done)) | (refine ZOk.drew ?_; refine ZOk.alloc ?_; assumption) | (refine ZOk.drew ?_; refine ZOk.alloc ?_; refine ZOk.new' ?_; first | rfl | (simp; done)) | (refine ZOk.drew ?_; refine ZOk.alloc (ZOk.alloc ?_); assumption) | (refine ZOk.drew ?_; refine ZOk.alloc (ZOk.alloc ?_); refine ZOk.new' ?_; first | rfl | (simp; done)) | fail))))))
    all_goals
      refine ⟨rfl, _, _, _, _, _, _, _, _, rfl, ?_⟩
      first
        | exact fin_new hW4 hs4 hx14
        | (refine fin_old hW4 hs4 hz4 hx14 ?_ ?_ <;> (first | omega | (simp; done) | (simp; omega) | fail))
end Go.Proofs.Ytbclbcldplmppaa

/- A ratio's answer, by the code, when train or shafts are refused. -/
namespace Go.Proofs.Ytbclbcldplmppaa
open Go.RowKit

set_option maxRecDepth 100000 in
set_option maxHeartbeats 4000000 in
theorem ratio_bad (A : Option Addr) (c : Nat) (s : Int) (i o : Int) (ms : List Msh) (w : World) (hA : MRow w A ms) (hl : ms.length ≤ 1000000) (hz : askE s ms [i, o] ≠ 0) :
    Calls Try.prog 34 #[.agg #[.int .i64 s, .slice A ms.length c], .int .i64 i, .int .i64 o] w fun e w' => e = .returned (.tuple #[.int .i64 0, .int .i64 0, .agg #[.slice none 0 0, .slice none 0 0, .slice none 0 0], .int .i64 (askE s ms [i, o])]) ∧ Ext w w' := by
  have c0 : ∀ (g : Nat) (w' : World) (_ : Ext w w') (_ : w'.cell? ⟨g, 0, none⟩ = some (vint i)) (_ : w'.cell? ⟨g, 1, none⟩ = some (vint o)), Calls Try.prog 73 #[.agg #[.int .i64 s, .slice A ms.length c], .slice (some ⟨g, 0, none⟩) 2 2] w' fun e w'' => e = .returned (.int .i64 (askE s ms [i, o])) ∧ Ext w' w'' :=
    fun g w' he hc hc' => asked_any A c s ms (some ⟨g, 0, none⟩) 2 [i, o] w' (hA.ext he) hl (ints_two hc hc') (by simp)
  have cA := c0 (w.heap.size + 1 + 1) (((w.alloc (.cells #[.int .i64 s, .slice A ms.length c] 41)).alloc (.cells #[.slice none 0 0, .slice none 0 0, .slice none 0 0] 60)).alloc (.cells #[.int .i64 i, .int .i64 o] 3)) (((((Ext.refl w).alloc _).alloc _).alloc _)) (cells_three rfl _ (Ext.refl _)) (cells_three rfl _ (Ext.refl _))
  have C0 := Lib.hid cA
  clear c0 cA
  have hx : Ext w ((w.alloc (.cells #[.int .i64 s, .slice A ms.length c] 41)).alloc (.cells #[.slice none 0 0, .slice none 0 0, .slice none 0 0] 60)) := ((Ext.refl w).alloc _).alloc _
  have b8 : ∀ w', Ext ((w.alloc (.cells #[.int .i64 s, .slice A ms.length c] 41)).alloc (.cells #[.slice none 0 0, .slice none 0 0, .slice none 0 0] 60)) w' → GOk w' (w.heap.size + 1) (.slice none 0 0) (.slice none 0 0) (.slice none 0 0) := fun w' he => (GOk.new (by simp)).ext he
  generalize ms.length = m at *
  generalize askE s ms [i, o] = z at *
  go_enter Try.func34, Try.ntmps34
  go_wp2_with (first
    | (go_at_call 73; (with_reducible refine C0.out.mono ?_); rintro e w1 ⟨rfl, hx1⟩; have hxb1 := Ext.trans ((Ext.refl _).alloc _) hx1; have hxw1 := hx.trans hxb1; have hb1 := b8 _ hxb1; obtain ⟨y0, y1, y2, yf⟩ := id hb1))
  (try simp only [Exit.inBlock, Exit.then])
  have hb4 := hb1.put3 (x0 := .slice none 0 0) (x1 := .slice none 0 0) (x2 := .slice none 0 0)
  refine bodyPost_ret (results_ratio rfl _ _ rfl hb4) rfl ?_
  exact ⟨rfl, OrdPair.ext put3_grown hxw1 (by omega)⟩
end Go.Proofs.Ytbclbcldplmppaa

/- A ratio's answer, by the code: all inputs. -/
namespace Go.Proofs.Ytbclbcldplmppaa
open Go.RowKit

/-- The verdict's number, or what is refused. -/
noncomputable def verdE (s : Int) (ms : List Msh) (i o : Int) : Int := if askE s ms [i, o] = 0 then verdS ms.length s.toNat (gearL ms s.toNat) i.toNat o.toNat else askE s ms [i, o]
/-- What the answer of 'Ratio' proves. -/
def ratOk (s : Int) (ms : List Msh) (i o num den x : Int) (F M T : List Int) : Prop :=
  askE s ms [i, o] ≠ 0 ∧ num = 0 ∧ den = 0 ∧ F = [] ∧ M = [] ∧ T = [] ∨
  askE s ms [i, o] = 0 ∧ (x = 41 ∧ num = 0 ∧ den = 0 ∧ jamPr (gearL ms s.toNat) ms.length s.toNat i.toNat F M T ∨ x = 42 ∧ num = 0 ∧ den = 0 ∧ loosePr (gearL ms s.toNat) ms.length s.toNat i.toNat o.toNat F M T ∨ x = 0 ∧ ratPr (gearL ms s.toNat) ms.length s.toNat i.toNat o.toNat num den F M T)
/-- The answer of 'Ratio'. -/
def RatAll (b : World) (ms : List Msh) (s i o : Int) (e : Ending) (w' : World) : Prop :=
  ∃ (num den : Int) (A1 A2 A3 : Option Addr) (c1 c2 c3 : Nat) (F M T : List Int),
    e = .returned (.tuple #[.int .i64 num, .int .i64 den, .agg #[.slice A1 F.length c1, .slice A2 M.length c2, .slice A3 T.length c3], .int .i64 (verdE s ms i o)]) ∧
    Ints w' A1 F ∧ Ints w' A2 M ∧ Ints w' A3 T ∧ Ext b w' ∧ ratOk s ms i o num den (verdE s ms i o) F M T

theorem ratio_any (A : Option Addr) (c : Nat) (s i o : Int) (ms : List Msh) (w : World) (hA : MRow w A ms) (hl : ms.length ≤ 1000000) :
    Calls Try.prog 34 #[.agg #[.int .i64 s, .slice A ms.length c], .int .i64 i, .int .i64 o] w (RatAll w ms s i o) := by
  by_cases hz : askE s ms [i, o] = 0
  · obtain ⟨S, I, O, rfl, rfl, rfl, hi, ho, ht⟩ := ask_two hz
    refine (ratio_good A c S I O ms w hA ht hl hi ho).mono fun e w' h => ?_
    obtain ⟨num, den, x, A1, A2, A3, c1, c2, c3, F, M, T, he, h1, h2, h3, hx, hv, hp⟩ := h
    have hv' : verdE S ms I O = x := by
      unfold verdE
      rw [if_pos hz, hv]
      simp
    refine ⟨num, den, A1, A2, A3, c1, c2, c3, F, M, T, by rw [he, hv'], h1, h2, h3, hx, .inr ⟨hz, ?_⟩⟩
    rw [hv']
    simpa using hp
  · refine (ratio_bad A c s i o ms w hA hl hz).mono fun e w' h => ?_
    obtain ⟨he, hx⟩ := h
    have hv' : verdE s ms i o = askE s ms [i, o] := if_neg hz
    exact ⟨0, 0, none, none, none, 0, 0, 0, [], [], [], by rw [he, hv']; rfl, Ints.nil _ _, Ints.nil _ _, Ints.nil _ _, hx, .inl ⟨hz, rfl, rfl, rfl, rfl, rfl⟩⟩
end Go.Proofs.Ytbclbcldplmppaa
