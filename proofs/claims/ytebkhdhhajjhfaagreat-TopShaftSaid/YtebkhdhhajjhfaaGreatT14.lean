/- What proves a ratio: by the code, where all but the sum is right. -/
import Derived.Test.YtebkhdhhajjhfaaGreatT13
namespace Go.Proofs.YtebkhdhhajjhfaaGreat.Gr
open Go.RowKit

section
variable {L : Nat → Nat → Int} {m n i o : Nat} {num den : Int} {F M T : List Int}
theorem only_nil {U : Nat → Int} : onlyP (outL n U) [] ↔ ∀ k, k < n → U k = 0 := by
  constructor
  · intro h k hk
    refine Classical.byContradiction fun hne => ?_
    have := h k (by rw [outL_len]; exact hk) (by rw [outL_get hk]; exact hne)
    simp [memB] at this
  · intro h k hk hne
    rw [outL_len] at hk
    rw [outL_get hk, h k hk] at hne
    exact absurd rfl hne
theorem only_two {U : Nat → Int} : onlyP (outL n U) [(i : Int), (o : Int)] ↔ ∀ k, k < n → k ≠ i → k ≠ o → U k = 0 := by
  constructor
  · intro h k hk h1 h2
    refine Classical.byContradiction fun hne => ?_
    have := h k (by rw [outL_len]; exact hk) (by rw [outL_get hk]; exact hne)
    simp only [memB, List.mem_cons, List.not_mem_nil, or_false, decide_eq_true_eq] at this
    omega
  · intro h k hk hne
    rw [outL_len] at hk
    rw [outL_get hk] at hne
    simp only [memB, List.mem_cons, List.not_mem_nil, or_false, decide_eq_true_eq]
    refine Classical.byContradiction fun hno => hne (h k hk ?_ ?_) <;> omega
theorem ratG_same (h1 : sizedP F m) (h2 : T.length = 0) (h3 : movesP L m n M) (h4 : 0 < getI M i) (h5 : 1 ≤ den) (h6 : num.gcd den = 1) : decide (ratPr L m n i i num den F M T) = ((decide (num = 1) && decide (den = 1)) && decide (onlyP (outL n (sumT F L m)) [])) := by
  rw [Bool.eq_iff_iff]
  simp only [Bool.and_eq_true, decide_eq_true_iff]
  rw [only_nil]
  constructor
  · intro h
    have := h.2.2.2.2.2.2
    rw [if_pos rfl] at this
    exact ⟨this.2, this.1⟩
  · rintro ⟨ha, hb⟩
    refine ⟨h1, h2, h3, h4, h5, h6, ?_⟩
    rw [if_pos rfl]
    exact ⟨hb, ha⟩
/-- What the code asks of the two shafts. -/
def ratFin (u v : Int) (num den : Int) : Prop := den ≤ v ∧ v.tmod den = 0 ∧ u.tmod (v.tdiv den) = 0 ∧ -u.tdiv (v.tdiv den) = num
theorem ratFin_iff {u v : Int} (h5 : 1 ≤ den) : ratFin u v num den ↔ ratEnd u v num den := by
  have hq := Int.tdiv_mul_add_tmod v den
  have hkey : v.tmod den = 0 → (den ≤ v ↔ 1 ≤ v.tdiv den) := fun h => by
    rw [h, Int.add_zero] at hq
    constructor
    · intro hv
      refine Classical.byContradiction fun hno => ?_
      have h0 : v.tdiv den ≤ 0 := by omega
      have := Int.mul_nonpos_of_nonneg_of_nonpos (show (0 : Int) ≤ den by omega) h0
      rw [Int.mul_comm] at this
      omega
    · intro hs
      have := Int.mul_le_mul_of_nonneg_right hs (show (0 : Int) ≤ den by omega)
      omega
  unfold ratFin ratEnd
  constructor
  · rintro ⟨a, b, c⟩; exact ⟨b, (hkey b).1 a, c⟩
  · rintro ⟨b, a, c⟩; exact ⟨(hkey b).2 a, b, c⟩
theorem ratG_two (hio : i ≠ o) (h1 : sizedP F m) (h2 : T.length = 0) (h3 : movesP L m n M) (h4 : 0 < getI M i) (h5 : 1 ≤ den) (h6 : num.gcd den = 1) : ratPr L m n i o num den F M T ↔ onlyP (outL n (sumT F L m)) [(i : Int), (o : Int)] ∧ ratFin (sumT F L m i) (sumT F L m o) num den := by
  rw [only_two, ratFin_iff h5]
  constructor
  · intro h
    have := h.2.2.2.2.2.2
    rw [if_neg hio] at this
    exact this
  · intro h
    refine ⟨h1, h2, h3, h4, h5, h6, ?_⟩
    rw [if_neg hio]
    exact h
end

set_option maxRecDepth 100000 in
set_option maxHeartbeats 4000000 in
theorem provesRatioG_good (A : Option Addr) (c S i o : Nat) (num den : Int) (ms : List Msh) (A1 A2 A3 : Option Addr) (c1 c2 c3 : Nat) (F M T : List Int) (w : World) (hA : MRow w A ms) (ht : trainP S ms) (hi : i < S) (ho : o < S) (h1 : Ints w A1 F) (h2 : Ints w A2 M) (hl1 : F.length ≤ 1000000) (hl2 : M.length ≤ 1000000) (hden : den ≤ 9223372036854775807) (hnum : -9223372036854775808 ≤ num ∧ num ≤ 9223372036854775807) (hgood : (sizedP F ms.length ∧ T.length = 0 ∧ movesP (gearL ms S) ms.length S M ∧ 0 < getI M i ∧ 1 ≤ den ∧ num.gcd den = 1)) :
    Calls Tryz.prog 81 #[.agg #[.int .i64 S, .slice A ms.length c], .int .i64 i, .int .i64 o, .int .i64 num, .int .i64 den, .agg #[.slice A1 F.length c1, .slice A2 M.length c2, .slice A3 T.length c3]] w fun e w' => e = .returned (.bool (decide (ratPr (gearL ms S) ms.length S i o num den F M T))) ∧ Ext w w' := by
  have cs := fun (w' : World) (he : Ext w w') => sized_any A1 c1 F ms.length w' (h1.ext he) hl1
  have cm := fun (w' : World) (he : Ext w w') => moves_any A c S ms A2 c2 M w' (hA.ext he) ht (h2.ext he) hl2
  have hx : Ext w ((w.alloc (.cells #[.int .i64 S, .slice A ms.length c] 46)).alloc (.cells #[.slice A1 F.length c1, .slice A2 M.length c2, .slice A3 T.length c3] 53)) := ((Ext.refl w).alloc _).alloc _
  have a0 : ∀ w', Ext ((w.alloc (.cells #[.int .i64 S, .slice A ms.length c] 46)).alloc (.cells #[.slice A1 F.length c1, .slice A2 M.length c2, .slice A3 T.length c3] 53)) w' → w'.cell? ⟨w.heap.size, 0, none⟩ = some (.int .i64 S) := fun w' he => cells_one rfl w' (Ext.trans ((Ext.refl _).alloc _) he)
  have a1 : ∀ w', Ext ((w.alloc (.cells #[.int .i64 S, .slice A ms.length c] 46)).alloc (.cells #[.slice A1 F.length c1, .slice A2 M.length c2, .slice A3 T.length c3] 53)) w' → w'.cell? ⟨w.heap.size, 1, none⟩ = some (.slice A ms.length c) := fun w' he => cells_one rfl w' (Ext.trans ((Ext.refl _).alloc _) he)
  have b0 : ∀ w', Ext ((w.alloc (.cells #[.int .i64 S, .slice A ms.length c] 46)).alloc (.cells #[.slice A1 F.length c1, .slice A2 M.length c2, .slice A3 T.length c3] 53)) w' → w'.cell? ⟨w.heap.size + 1, 0, none⟩ = some (.slice A1 F.length c1) := fun w' he => cells_two rfl w' he
  have b1 : ∀ w', Ext ((w.alloc (.cells #[.int .i64 S, .slice A ms.length c] 46)).alloc (.cells #[.slice A1 F.length c1, .slice A2 M.length c2, .slice A3 T.length c3] 53)) w' → w'.cell? ⟨w.heap.size + 1, 1, none⟩ = some (.slice A2 M.length c2) := fun w' he => cells_two rfl w' he
  have b2 : ∀ w', Ext ((w.alloc (.cells #[.int .i64 S, .slice A ms.length c] 46)).alloc (.cells #[.slice A1 F.length c1, .slice A2 M.length c2, .slice A3 T.length c3] 53)) w' → w'.cell? ⟨w.heap.size + 1, 2, none⟩ = some (.slice A3 T.length c3) := fun w' he => cells_two rfl w' he
  obtain ⟨g1, g2, g3, g4, g5, g6⟩ := hgood
  have h8 : S ≤ 8 := by have := ht.2.1; omega
  rw [decide_eq_true g1] at cs
  rw [decide_eq_true g3] at cm
  have cl := fun (w' : World) => divisor_any num den w' (by omega) hden (by omega)
  have hdv : dvS num den = 1 := by unfold dvS; rw [if_neg (by omega), g6]; rfl
  rw [hdv] at cl
  have cu := fun (w' : World) (he : Ext w w') => sum_any A c S ms A1 c1 F w' (hA.ext he) ht (h1.ext he) g1
  have hM : M.length = S := g3.1.1
  obtain ⟨d2, rfl, e2⟩ := h2.some_ (by omega)
  have m1 : ∀ w', Ext w w' → w'.cell? (d2.add i) = some (vint (getI M i)) := fun w' he => e2 i (by omega) w' he
  have hii : (i : Int) < (S : Int) := by omega
  have hoo : (o : Int) < (S : Int) := by omega
  have hl16 := ht.2.2.1
  have hsm := fun (k : Nat) (hk : k < S) => sumT_bound (m := ms.length) g1.bound (gearL_bound ht) hk (Nat.le_refl _)
  have hsame : i = o → decide (ratPr (gearL ms S) ms.length S i o num den F M T) = ((decide (num = 1) && decide (den = 1)) && decide (onlyP (outL S (sumT F (gearL ms S) ms.length)) [])) := fun e => by subst e; exact ratG_same g1 g2 g3 g4 g5 g6
  have htwo : i ≠ o → (ratPr (gearL ms S) ms.length S i o num den F M T ↔ onlyP (outL S (sumT F (gearL ms S) ms.length)) [(i : Int), (o : Int)] ∧ ratFin (sumT F (gearL ms S) ms.length i) (sumT F (gearL ms S) ms.length o) num den) := fun e => ratG_two e g1 g2 g3 g4 g5 g6
  have Cs := Lib.hid cs
  have Cm := Lib.hid cm
  have Cl := Lib.hid cl
  have Cu := Lib.hid cu
  have M1 := Lib.hid m1
  have Hsm := Lib.hid hsm
  have Hsame := Lib.hid hsame
  have Htwo := Lib.hid htwo
  rw [hM] at Cm hx a0 a1 b0 b1 b2 ⊢
  clear cs cm cl cu m1 hsm hsame htwo hdv g1 g3 g6 hA ht h1 h2 hM e2 hl1 hl2
  generalize hres : decide (ratPr (gearL ms S) ms.length S i o num den F M T) = res at *
  have hresb : (ratPr (gearL ms S) ms.length S i o num den F M T) ↔ res = true := by rw [← hres, decide_eq_true_iff]
  have Hres := Lib.hid hresb
  clear hres hresb
  generalize ratPr (gearL ms S) ms.length S i o num den F M T = R at *
  generalize sumT F (gearL ms S) ms.length = U at *
  generalize getI M i = y1 at *
  generalize F.length = q1 at *
  generalize T.length = q3 at *
  generalize ms.length = m at *
  subst g2
  have hul : (outL S U).length = S := outL_len _ _
  have con := fun (g : Nat) (B : Option Addr) (all : List Int) (hal : all.length ≤ 2) (w' : World) (h : Ints w' (some ⟨g, 0, none⟩) (outL S U)) (hc : Ints w' B all) => only_any (some ⟨g, 0, none⟩) S (outL S U) B all.length all w' h hc (by rw [hul]; omega) (by omega)
  have cat := fun (k : Nat) (hk : k < S) (g : Nat) (w' : World) (h : Ints w' (some ⟨g, 0, none⟩) (outL S U)) => at_any (some ⟨g, 0, none⟩) S k (outL S U) w' h (by rw [hul]; exact hk)
  have c0n : ∀ (g : Nat) (w' : World) (_ : Ints w' (some ⟨g, 0, none⟩) (outL S U)), Calls Tryz.prog 120 #[.slice (some ⟨g, 0, none⟩) S S, .slice none 0 0] w' fun e w'' => e = .returned (.bool (decide (onlyP (outL S U) []))) ∧ w' = w'' := fun g w' h => by
    have := only_any (some ⟨g, 0, none⟩) S (outL S U) none 0 [] w' h (Ints.nil _ _) (by rw [hul]; omega) (by simp)
    rwa [hul] at this
  have c2n : ∀ (g gl : Nat) (w' : World) (_ : Ints w' (some ⟨g, 0, none⟩) (outL S U)) (_ : w'.cell? ⟨gl, 0, none⟩ = some (vint i)) (_ : w'.cell? ⟨gl, 1, none⟩ = some (vint o)), Calls Tryz.prog 120 #[.slice (some ⟨g, 0, none⟩) S S, .slice (some ⟨gl, 0, none⟩) 2 2] w' fun e w'' => e = .returned (.bool (decide (onlyP (outL S U) [(i : Int), (o : Int)]))) ∧ w' = w'' := fun g gl w' h hc hc' => by
    have := only_any (some ⟨g, 0, none⟩) S (outL S U) (some ⟨gl, 0, none⟩) 2 [(i : Int), (o : Int)] w' h (ints_two hc hc') (by rw [hul]; omega) (by simp)
    rwa [hul] at this
  have cai : ∀ (g : Nat) (w' : World) (_ : Ints w' (some ⟨g, 0, none⟩) (outL S U)), Calls Tryz.prog 53 #[.slice (some ⟨g, 0, none⟩) S S, .int .i64 i] w' fun e w'' => e = .returned (.int .i64 (U i)) ∧ w' = w'' := fun g w' h => by
    have := at_any (some ⟨g, 0, none⟩) S i (outL S U) w' h (by rw [hul]; exact hi)
    rwa [hul, outL_get hi] at this
  have cao : ∀ (g : Nat) (w' : World) (_ : Ints w' (some ⟨g, 0, none⟩) (outL S U)), Calls Tryz.prog 53 #[.slice (some ⟨g, 0, none⟩) S S, .int .i64 o] w' fun e w'' => e = .returned (.int .i64 (U o)) ∧ w' = w'' := fun g w' h => by
    have := at_any (some ⟨g, 0, none⟩) S o (outL S U) w' h (by rw [hul]; exact ho)
    rwa [hul, outL_get ho] at this
  have C0n := Lib.hid c0n
  have C2n := Lib.hid c2n
  have Cai := Lib.hid cai
  have Cao := Lib.hid cao
  have Hul := Lib.hid hul
  clear con cat c0n c2n cai cao hul
  have g4' : ¬ y1 < 1 := by omega
  have g5' : ¬ den < 1 := by omega
  by_cases eio : i = o
  · have Hr := Lib.hid (Hsame.out eio)
    subst eio
    clear Hsame Htwo Hsm
    by_cases z1 : num = 1
    · by_cases z2 : den = 1
      · subst z1 z2
        have hr : decide (onlyP (outL S U) []) = res := by rw [Hr.out]; simp
        have Hr2 := Lib.hid hr
        clear hr
        generalize decide (onlyP (outL S U) []) = b at *
        go_enter Tryz.func81, Tryz.ntmps81
        go_wp2_with (first
          | (go_at_call 117; (with_reducible refine (Cs.out _ hx).mono ?_); rintro e w1 ⟨rfl, rfl⟩)
          | (go_at_call 118; (with_reducible refine (Cm.out _ hx).mono ?_); rintro e w2 ⟨rfl, hx2⟩; have hxw2 := hx.trans hx2; have k1 := M1.out w2 hxw2)
          | (go_at_call 52; (with_reducible refine (Cl.out _).mono ?_); rintro e w3 ⟨rfl, hx3⟩; have hxw3 := hxw2.trans hx3; have hxb3 := hx2.trans hx3)
          | (go_at_call 119; (with_reducible refine (Cu.out _ hxw3).mono ?_); rintro e w4 ⟨g, rfl, hn⟩; rw [Hul.out]; have hw4 := hxw3.trans hn.ext)
          | (go_at_call 120; refine (C0n.out g _ hn.ints).mono ?_; rintro e w5 ⟨rfl, rfl⟩))
        go_ret
        exact ⟨ret_b Hr2.out, hw4⟩
      · have Hr2 := Lib.hid (show false = res by rw [Hr.out, decide_eq_false z2, Bool.and_false, Bool.false_and])
        have z2' : (den == 1) = false := beq_eq_false_iff_ne.2 z2
        subst z1
        go_enter Tryz.func81, Tryz.ntmps81
        go_wp2_with (first
          | (go_at_call 117; (with_reducible refine (Cs.out _ hx).mono ?_); rintro e w1 ⟨rfl, rfl⟩)
          | (go_at_call 118; (with_reducible refine (Cm.out _ hx).mono ?_); rintro e w2 ⟨rfl, hx2⟩; have hxw2 := hx.trans hx2; have k1 := M1.out w2 hxw2)
          | (go_at_call 52; (with_reducible refine (Cl.out _).mono ?_); rintro e w3 ⟨rfl, hx3⟩; have hxw3 := hxw2.trans hx3; have hxb3 := hx2.trans hx3)
          | (go_at_call 119; (with_reducible refine (Cu.out _ hxw3).mono ?_); rintro e w4 ⟨g, rfl, hn⟩; rw [Hul.out]; have hw4 := hxw3.trans hn.ext))
        go_ret
        exact ⟨ret_b Hr2.out, hw4⟩
    · have Hr2 := Lib.hid (show false = res by rw [Hr.out, decide_eq_false z1, Bool.false_and, Bool.false_and])
      have z1' : (num == 1) = false := beq_eq_false_iff_ne.2 z1
      go_enter Tryz.func81, Tryz.ntmps81
      go_wp2_with (first
        | (go_at_call 117; (with_reducible refine (Cs.out _ hx).mono ?_); rintro e w1 ⟨rfl, rfl⟩)
        | (go_at_call 118; (with_reducible refine (Cm.out _ hx).mono ?_); rintro e w2 ⟨rfl, hx2⟩; have hxw2 := hx.trans hx2; have k1 := M1.out w2 hxw2)
        | (go_at_call 52; (with_reducible refine (Cl.out _).mono ?_); rintro e w3 ⟨rfl, hx3⟩; have hxw3 := hxw2.trans hx3; have hxb3 := hx2.trans hx3)
        | (go_at_call 119; (with_reducible refine (Cu.out _ hxw3).mono ?_); rintro e w4 ⟨g, rfl, hn⟩; rw [Hul.out]; have hw4 := hxw3.trans hn.ext))
      go_ret
      exact ⟨ret_b Hr2.out, hw4⟩
  · have x0 : ((i : Int) == (o : Int)) = false := beq_eq_false_iff_ne.2 (by omega)
    have Hr := Lib.hid (Htwo.out eio)
    have hbu := Hsm.out i hi
    have hbv := Hsm.out o ho
    have hno : ∀ b : Bool, (R ↔ b = true) → b = res := fun b h => by
      have := Hres.out
      rw [Bool.eq_iff_iff, ← h, this]
    have Hno := Lib.hid hno
    clear Hsame Htwo Hsm hno
    generalize hou : decide (onlyP (outL S U) [(i : Int), (o : Int)]) = ob at *
    have hob : onlyP (outL S U) [(i : Int), (o : Int)] ↔ ob = true := by rw [← hou, decide_eq_true_iff]
    have Hob := Lib.hid hob
    clear hou hob
    generalize U i = u at *
    generalize U o = v at *
    have hbu' : u.natAbs < 9223372036854775807 := by omega
    have hbv' : v.natAbs < 9223372036854775807 := by omega
    have hd0 : ¬ den = 0 := by omega
    have hd1 : (den == 0) = false := beq_eq_false_iff_ne.2 hd0
    obtain ⟨s, hs⟩ : ∃ s, v.tdiv den = s := ⟨_, rfl⟩
    have q1e : IntKind.i64.wrap (v.tdiv den) = s := by rw [wrap_fit (tdiv_fit hbv')]; exact hs
    have q2e := wrap_fit (tdiv_fit (s := s) hbu')
    have hqb := tdiv_fit (s := s) hbu'
    have hfin : ratFin u v num den ↔ den ≤ v ∧ v.tmod den = 0 ∧ u.tmod s = 0 ∧ -u.tdiv s = num := by rw [← hs]; exact Iff.rfl
    have hspos : den ≤ v → v.tmod den = 0 → 1 ≤ s := fun h1 h2 => by
      have := (ratFin_iff (u := 0) (v := v) (num := 0) (den := den) (by omega)).1 ⟨h1, h2, by simp, by simp⟩
      rw [← hs]
      exact this.2.1
    have Hfin := Lib.hid hfin
    have Hspos := Lib.hid hspos
    clear hfin hspos hbu hbv hbu' hbv' hs
    cases ob
    · have Hr2 := Lib.hid (Hno.out false (by rw [Hr.out, Hob.out]; simp))
      go_enter Tryz.func81, Tryz.ntmps81
      go_wp2_with (first
        | (go_at_call 117; (with_reducible refine (Cs.out _ hx).mono ?_); rintro e w1 ⟨rfl, rfl⟩)
        | (go_at_call 118; (with_reducible refine (Cm.out _ hx).mono ?_); rintro e w2 ⟨rfl, hx2⟩; have hxw2 := hx.trans hx2; have k1 := M1.out w2 hxw2)
        | (go_at_call 52; (with_reducible refine (Cl.out _).mono ?_); rintro e w3 ⟨rfl, hx3⟩; have hxw3 := hxw2.trans hx3; have hxb3 := hx2.trans hx3)
        | (go_at_call 119; (with_reducible refine (Cu.out _ hxw3).mono ?_); rintro e w4 ⟨g, rfl, hn⟩; rw [Hul.out]; have hw4 := hxw3.trans hn.ext; have hn5 := hn.later ((Ext.refl w4).alloc (.cells #[.int .i64 i, .int .i64 o] 3)))
        | (go_at_call 120; refine (C2n.out g _ _ hn5.ints (cells_last rfl rfl) (cells_last rfl rfl)).mono ?_; rintro e w5 ⟨rfl, rfl⟩))
      go_ret
      exact ⟨ret_b Hr2.out, hw4.trans ((Ext.refl _).alloc _)⟩
    · by_cases z1 : den ≤ v
      · have z1' : ¬ v < den := by omega
        by_cases z2 : v.tmod den = 0
        · have z2' : (v.tmod den != 0) = false := by rw [z2]; rfl
          have hs1 := Hspos.out z1 z2
          have hs0 : ¬ s = 0 := by omega
          have hs2 : (s == 0) = false := beq_eq_false_iff_ne.2 hs0
          by_cases z3 : u.tmod s = 0
          · have hw := hnum
            have hneg : IntKind.i64.wrap (-num) = (if num = -9223372036854775808 then -9223372036854775808 else -num) := by rw [IntKind.wrap_i64]; split <;> omega
            have hcmp : (u.tdiv s == IntKind.i64.wrap (-num)) = decide (-u.tdiv s = num) := by
              rw [hneg, Bool.eq_iff_iff, beq_iff_eq, decide_eq_true_iff]
              split <;> omega
            have Hr2 := Lib.hid (Hno.out (u.tdiv s == IntKind.i64.wrap (-num)) (by rw [Hr.out, Hob.out, Hfin.out, hcmp, decide_eq_true_iff]; simp [z1, z2, z3]))
            obtain ⟨nn, hnn⟩ : ∃ nn, IntKind.i64.wrap (-num) = nn := ⟨_, rfl⟩
            rw [hnn] at Hr2
            clear hneg hcmp hw hqb
            go_enter Tryz.func81, Tryz.ntmps81
            go_wp2_with (first
              | (go_at_call 117; (with_reducible refine (Cs.out _ hx).mono ?_); rintro e w1 ⟨rfl, rfl⟩)
              | (go_at_call 118; (with_reducible refine (Cm.out _ hx).mono ?_); rintro e w2 ⟨rfl, hx2⟩; have hxw2 := hx.trans hx2; have k1 := M1.out w2 hxw2)
              | (go_at_call 52; (with_reducible refine (Cl.out _).mono ?_); rintro e w3 ⟨rfl, hx3⟩; have hxw3 := hxw2.trans hx3; have hxb3 := hx2.trans hx3)
              | (go_at_call 119; (with_reducible refine (Cu.out _ hxw3).mono ?_); rintro e w4 ⟨g, rfl, hn⟩; rw [Hul.out]; have hw4 := hxw3.trans hn.ext; have hn5 := hn.later ((Ext.refl w4).alloc (.cells #[.int .i64 i, .int .i64 o] 3)))
              | (go_at_call 120; refine (C2n.out g _ _ hn5.ints (cells_last rfl rfl) (cells_last rfl rfl)).mono ?_; rintro e w5 ⟨rfl, rfl⟩)
              | (go_at_call 53; first | ((with_reducible refine (Cai.out g _ hn5.ints).mono ?_); rintro e w6 ⟨rfl, rfl⟩) | ((with_reducible refine (Cao.out g _ hn5.ints).mono ?_); rintro e w6 ⟨rfl, rfl⟩)))
            go_ret
            exact ⟨ret_b Hr2.out, hw4.trans ((Ext.refl _).alloc _)⟩
          · have Hr2 := Lib.hid (Hno.out false (by rw [Hr.out, Hob.out, Hfin.out]; simp [z3]))
            have z3' : (u.tmod s == 0) = false := beq_eq_false_iff_ne.2 z3
            go_enter Tryz.func81, Tryz.ntmps81
            go_wp2_with (first
              | (go_at_call 117; (with_reducible refine (Cs.out _ hx).mono ?_); rintro e w1 ⟨rfl, rfl⟩)
              | (go_at_call 118; (with_reducible refine (Cm.out _ hx).mono ?_); rintro e w2 ⟨rfl, hx2⟩; have hxw2 := hx.trans hx2; have k1 := M1.out w2 hxw2)
              | (go_at_call 52; (with_reducible refine (Cl.out _).mono ?_); rintro e w3 ⟨rfl, hx3⟩; have hxw3 := hxw2.trans hx3; have hxb3 := hx2.trans hx3)
              | (go_at_call 119; (with_reducible refine (Cu.out _ hxw3).mono ?_); rintro e w4 ⟨g, rfl, hn⟩; rw [Hul.out]; have hw4 := hxw3.trans hn.ext; have hn5 := hn.later ((Ext.refl w4).alloc (.cells #[.int .i64 i, .int .i64 o] 3)))
              | (go_at_call 120; refine (C2n.out g _ _ hn5.ints (cells_last rfl rfl) (cells_last rfl rfl)).mono ?_; rintro e w5 ⟨rfl, rfl⟩)
              | (go_at_call 53; first | ((with_reducible refine (Cai.out g _ hn5.ints).mono ?_); rintro e w6 ⟨rfl, rfl⟩) | ((with_reducible refine (Cao.out g _ hn5.ints).mono ?_); rintro e w6 ⟨rfl, rfl⟩)))
            go_ret
            exact ⟨ret_b Hr2.out, hw4.trans ((Ext.refl _).alloc _)⟩
        · have Hr2 := Lib.hid (Hno.out false (by rw [Hr.out, Hob.out, Hfin.out]; simp [z2]))
          have z2' : (v.tmod den == 0) = false := beq_eq_false_iff_ne.2 z2
          have z2'' : (v.tmod den != 0) = true := by rw [bne_iff_ne]; exact z2
          have zem : v.tmod den = v % den := Int.tmod_eq_emod_of_nonneg (by omega)
          rw [zem] at z2 z2' z2''
          go_enter Tryz.func81, Tryz.ntmps81
          go_wp2_with (first
            | (go_at_call 117; (with_reducible refine (Cs.out _ hx).mono ?_); rintro e w1 ⟨rfl, rfl⟩)
            | (go_at_call 118; (with_reducible refine (Cm.out _ hx).mono ?_); rintro e w2 ⟨rfl, hx2⟩; have hxw2 := hx.trans hx2; have k1 := M1.out w2 hxw2)
            | (go_at_call 52; (with_reducible refine (Cl.out _).mono ?_); rintro e w3 ⟨rfl, hx3⟩; have hxw3 := hxw2.trans hx3; have hxb3 := hx2.trans hx3)
            | (go_at_call 119; (with_reducible refine (Cu.out _ hxw3).mono ?_); rintro e w4 ⟨g, rfl, hn⟩; rw [Hul.out]; have hw4 := hxw3.trans hn.ext; have hn5 := hn.later ((Ext.refl w4).alloc (.cells #[.int .i64 i, .int .i64 o] 3)))
            | (go_at_call 120; refine (C2n.out g _ _ hn5.ints (cells_last rfl rfl) (cells_last rfl rfl)).mono ?_; rintro e w5 ⟨rfl, rfl⟩)
            | (go_at_call 53; first | ((with_reducible refine (Cai.out g _ hn5.ints).mono ?_); rintro e w6 ⟨rfl, rfl⟩) | ((with_reducible refine (Cao.out g _ hn5.ints).mono ?_); rintro e w6 ⟨rfl, rfl⟩)))
          go_ret
          exact ⟨ret_b Hr2.out, hw4.trans ((Ext.refl _).alloc _)⟩
      · have z1' : v < den := by omega
        have Hr2 := Lib.hid (Hno.out false (by rw [Hr.out, Hob.out, Hfin.out]; simp [z1]))
        go_enter Tryz.func81, Tryz.ntmps81
        go_wp2_with (first
          | (go_at_call 117; (with_reducible refine (Cs.out _ hx).mono ?_); rintro e w1 ⟨rfl, rfl⟩)
          | (go_at_call 118; (with_reducible refine (Cm.out _ hx).mono ?_); rintro e w2 ⟨rfl, hx2⟩; have hxw2 := hx.trans hx2; have k1 := M1.out w2 hxw2)
          | (go_at_call 52; (with_reducible refine (Cl.out _).mono ?_); rintro e w3 ⟨rfl, hx3⟩; have hxw3 := hxw2.trans hx3; have hxb3 := hx2.trans hx3)
          | (go_at_call 119; (with_reducible refine (Cu.out _ hxw3).mono ?_); rintro e w4 ⟨g, rfl, hn⟩; rw [Hul.out]; have hw4 := hxw3.trans hn.ext; have hn5 := hn.later ((Ext.refl w4).alloc (.cells #[.int .i64 i, .int .i64 o] 3)))
          | (go_at_call 120; refine (C2n.out g _ _ hn5.ints (cells_last rfl rfl) (cells_last rfl rfl)).mono ?_; rintro e w5 ⟨rfl, rfl⟩)
          | (go_at_call 53; first | ((with_reducible refine (Cai.out g _ hn5.ints).mono ?_); rintro e w6 ⟨rfl, rfl⟩) | ((with_reducible refine (Cao.out g _ hn5.ints).mono ?_); rintro e w6 ⟨rfl, rfl⟩)))
        go_ret
        exact ⟨ret_b Hr2.out, hw4.trans ((Ext.refl _).alloc _)⟩
end Go.Proofs.YtebkhdhhajjhfaaGreat.Gr
