/- All angles, by the reference: a search. -/
import Derived.Test.YteilglljigjefaaJ07
import Derived.Test.YteilglljigjefaaJ08
import Derived.Test.YteilglljigjefaaJ01
namespace Go.Proofs.Yteilglljigjefaa
open Go.RowKit

def tqB (r p q : Int) : Bool := decide (p * p + q * q = r * r ∧ Int.gcd (Int.gcd p q) r = 1)
def T1 (r p : Int) (m : Nat) : List (Int × Int × Int) := (List.range m).flatMap fun (j : Nat) => if tqB r p ((j : Int) - r) = true then [(p, (j : Int) - r, r)] else []
def T2 (r : Nat) (m : Nat) : List (Int × Int × Int) := (List.range m).flatMap fun (i : Nat) => T1 r ((i : Int) - r) (2 * r + 1)
def rsL : List Nat := [1, 5, 13, 17, 25]
def rsA (k : Nat) : Nat := rsL.getD k 1
def T3 (m : Nat) : List (Int × Int × Int) := (List.range m).flatMap fun k => T2 (rsA k) (2 * rsA k + 1)
theorem T1_skip {r p : Int} {m : Nat} (h : tqB r p ((m : Int) - r) = false) : T1 r p (m + 1) = T1 r p m := by simp [T1, List.range_succ, h]
theorem T1_take {r p : Int} {m : Nat} (h : tqB r p ((m : Int) - r) = true) : T1 r p (m + 1) = T1 r p m ++ [(p, (m : Int) - r, r)] := by simp [T1, List.range_succ, h]
theorem T2_succ (r m : Nat) : T2 r (m + 1) = T2 r m ++ T1 r ((m : Int) - r) (2 * r + 1) := by simp [T2, List.range_succ]
theorem T3_succ (m : Nat) : T3 (m + 1) = T3 m ++ T2 (rsA m) (2 * rsA m + 1) := by simp [T3, List.range_succ]
theorem rsA_le : ∀ k, 1 ≤ rsA k ∧ rsA k ≤ 25
  | 0 | 1 | 2 | 3 | 4 => by decide
  | n + 5 => by simp [rsA, rsL]
theorem T1_len (r p : Int) : ∀ m, (T1 r p m).length ≤ m
  | 0 => by simp [T1]
  | m + 1 => by
    have := T1_len r p m
    cases h : tqB r p ((m : Int) - r)
    · rw [T1_skip h]; omega
    · rw [T1_take h]; simp; omega
theorem T2_len {r : Nat} (hr : r ≤ 25) : ∀ m, (T2 r m).length ≤ 51 * m
  | 0 => by simp [T2]
  | m + 1 => by
    have := T2_len hr m
    have := T1_len r ((m : Int) - r) (2 * r + 1)
    rw [T2_succ, List.length_append]
    omega
theorem T3_len : ∀ m, (T3 m).length ≤ 2601 * m
  | 0 => by simp [T3]
  | m + 1 => by
    have := T3_len m
    have := rsA_le m
    have := T2_len this.2 (2 * rsA m + 1)
    rw [T3_succ, List.length_append]
    omega
set_option maxRecDepth 100000 in
theorem T3_all : T3 5 = turns := by decide +kernel
theorem tri_elem : ElemInfo 92 (.agg #[.int .i64 0, .int .i64 0, .int .i64 0]) 3 24 := ⟨info_parts (by kernel_rfl), rfl, by decide⟩
abbrev OwnT (w1 w : World) (v : Value) (xs : List (Int × Int × Int)) : Prop := Own w1 w 92 3 v xs.length (xs.map tcells).flatten
theorem OwnT.row {w1 w : World} {A : Option Addr} {m c : Nat} {xs : List (Int × Int × Int)} (h : OwnT w1 w (.slice A m c) xs) : TRow w A xs := Own.row h

theorem gcd_bd (P Q : Int) : Int.gcd P Q ≤ P.natAbs + Q.natAbs := by
  show Nat.gcd P.natAbs Q.natAbs ≤ _
  rcases Nat.eq_zero_or_pos P.natAbs with h | h
  · rw [h]; simp
  · have := Nat.gcd_le_left Q.natAbs h
    omega
set_option maxRecDepth 100000 in
set_option maxHeartbeats 8000000 in
theorem turns_ref (w : World) : Calls Try.prog 59 #[] w fun e w' => ∃ A c, e = .returned (.slice A 36 c) ∧ TRow w' A turns ∧ Ext w w' := by
  have hg := fun (a b : Int) (h1 : -1000000000 ≤ a ∧ a ≤ 1000000000) (h2 : -1000000000 ≤ b ∧ b ≤ 1000000000) (w' : World) => gcd_any a b w' h1 h2
  have Hg := Lib.hid hg
  clear hg
  go_enter Try.func59, Try.ntmps59
  go_wp2
  have q0 : ∀ k, k < 5 → ∀ w', Ext (w.alloc (.cells #[.int .i64 1, .int .i64 5, .int .i64 13, .int .i64 17, .int .i64 25] 3)) w' → w'.cell? ⟨w.heap.size, k, none⟩ = some (.int .i64 (rsA k : Nat)) := fun k hk w' he => by
    refine he.cell ?_
    rw [cell_heap (heap_alloc_new w _)]
    rcases (by omega : k = 0 ∨ k = 1 ∨ k = 2 ∨ k = 3 ∨ k = 4) with rfl | rfl | rfl | rfl | rfl <;> rfl
  have hx0 : Ext w (w.alloc (.cells #[.int .i64 1, .int .i64 5, .int .i64 13, .int .i64 17, .int .i64 25] 3)) := by simp
  generalize (w.alloc (.cells #[.int .i64 1, .int .i64 5, .int .i64 13, .int .i64 17, .int .i64 25] 3)) = w0 at *
  generalize w.heap.size = g at *
  have Q0 := Lib.hid q0
  have Hx0 := Lib.hid hx0
  clear q0 hx0
  go_loopw [3, 1] (fun i v wr => ∃ k : Nat, k ≤ 5 ∧ i = .int .i64 k ∧ OwnT w0 wr v (T3 k)) (fun i _ _ => 5 - (intOf i).toNat)
  case atStart => exact ⟨0, by omega, rfl, Own.nil _ _ _⟩
  case round =>
    obtain ⟨k, hk, rfl, hown⟩ := hrel
    obtain ⟨A, c, rfl⟩ := hown.form
    by_cases hlt : k < 5
    · have b0 : decide ((k : Int) < 5) = true := by simp; omega
      have c0 : ∀ w', Ext wr w' → w'.cell? ⟨g, k, none⟩ = some (.int .i64 (rsA k : Nat)) := fun w' he => Q0.out k hlt w' (hown.ext.trans he)
      have hrs := rsA_le k
      have hs3 := T3_succ k
      have hl3 := T3_len k
      have Hs3 := Lib.hid hs3
      clear hs3
      generalize rsA k = r at *
      go_wp2
      obtain ⟨wo, rfl⟩ : ∃ wo : World, wo = wr := ⟨_, rfl⟩
      have Hown := Lib.hid hown
      clear hown
      go_loopw [5, 1] (fun p v wr => ∃ i : Nat, i ≤ 2 * r + 1 ∧ p = .int .i64 ((i : Int) - r) ∧ OwnT w0 wr v (T3 k ++ T2 r i)) (fun p _ _ => (2 * r + 1 - ((intOf p) + r).toNat))
      case atStart => exact ⟨0, by omega, by go_num, by simpa [T2] using Hown.out⟩
      case round =>
        obtain ⟨i, hi, rfl, hown⟩ := hrel
        obtain ⟨A, c, rfl⟩ := hown.form
        have Hown' := Lib.hid hown
        clear hown
        by_cases hlt2 : i < 2 * r + 1
        · have hs2 := T2_succ r i
          have hl2 := T2_len hrs.2 i
          have b1 : -25 ≤ (i : Int) - r ∧ (i : Int) - r ≤ 25 := by omega
          have b2 : (i : Int) - r ≤ r := by omega
          have Hs2 := Lib.hid hs2
          have hpn : ((i : Int) - r) + 1 = ((i + 1 : Nat) : Int) - r := by omega
          have Hpn := Lib.hid hpn
          clear hs2 hpn
          generalize hP : (i : Int) - r = P at *
          have HP := Lib.hid hP
          clear hP
          go_wp2
          obtain ⟨wo2, rfl⟩ : ∃ wo2 : World, wo2 = wr := ⟨_, rfl⟩
          go_loopw [6, 1] (fun q v wr => ∃ j : Nat, j ≤ 2 * r + 1 ∧ q = .int .i64 ((j : Int) - r) ∧ OwnT w0 wr v (T3 k ++ T2 r i ++ T1 r P j)) (fun q _ _ => (2 * r + 1 - ((intOf q) + r).toNat))
          case atStart => exact ⟨0, by omega, by go_num, by simpa [T1] using Hown'.out⟩
          case round =>
            obtain ⟨j, hj, rfl, hown⟩ := hrel
            obtain ⟨A3, c3, rfl⟩ := hown.form
            have hl1 := T1_len r P j
            by_cases hlt3 : j < 2 * r + 1
            · have htk := T1_take (r := (r : Int)) (p := P) (m := j)
              have hsk := T1_skip (r := (r : Int)) (p := P) (m := j)
              have c1 : -25 ≤ (j : Int) - r ∧ (j : Int) - r ≤ 25 := by omega
              have c2 : (j : Int) - r ≤ r := by omega
              have hqn : ((j : Int) - r) + 1 = ((j + 1 : Nat) : Int) - r := by omega
              have Hqn := Lib.hid hqn
              have hm : ((j : Int) - r) + r = j := by omega
              have Hm := Lib.hid hm
              clear hqn hm
              generalize (j : Int) - r = Q at *
              have e1 := prod_le (a := P) (d := 25) (s := P) (m := 25) (by omega) (by omega) (by omega) (by omega)
              have e2 := prod_le (a := Q) (d := 25) (s := Q) (m := 25) (by omega) (by omega) (by omega) (by omega)
              have e3 := prod_le (a := (r : Int)) (d := 25) (s := (r : Int)) (m := 25) (by omega) (by omega) (by omega) (by omega)
              simp only [Int.reduceMul] at e1 e2 e3
              have g1 := gcd_bd P Q
              have hnn : (T3 k ++ T2 r i ++ T1 r P j).length ≤ 2601 * k + 51 * i + j := by simp only [List.length_append]; omega
              have htk2 : tqB r P Q = true → T3 k ++ T2 r i ++ T1 r P (j + 1) = T3 k ++ T2 r i ++ T1 r P j ++ [(P, Q, (r : Int))] := fun h => by rw [htk h, ← List.append_assoc]
              have hsk2 : tqB r P Q = false → T3 k ++ T2 r i ++ T1 r P (j + 1) = T3 k ++ T2 r i ++ T1 r P j := fun h => by rw [hsk h]
              have Htk := Lib.hid htk2
              have Hsk := Lib.hid hsk2
              clear htk hsk htk2 hsk2
              generalize T3 k ++ T2 r i ++ T1 r P j = L at *
              generalize hN : L.length = N at *
              have hown : Own w0 wr 92 3 (.slice A3 N c3) N (L.map tcells).flatten := by rw [← hN] at hown ⊢; exact hown
              have HN := Lib.hid hN
              clear hN
              by_cases h1 : P * P + Q * Q = r * r
              · have t1 : (P * P + Q * Q == (r : Int) * r) = true := by simpa using h1
                have cg1 := Hg.out P Q (by omega) (by omega)
                have cg2 := Hg.out (Int.gcd P Q : Int) (r : Int) (by omega) (by omega)
                have Cg1 := Lib.hid cg1
                have Cg2 := Lib.hid cg2
                clear cg1 cg2
                by_cases h2 : Int.gcd (Int.gcd P Q : Int) r = 1
                · have htq : tqB r P Q = true := decide_eq_true ⟨h1, h2⟩
                  have ht := Htk.out htq
                  have Ht := Lib.hid ht
                  clear ht htq Htk Hsk h1
                  rw [h2] at Cg2
                  generalize Int.gcd P Q = G at *
                  go_wp2_with (first
                    | (go_at_call 85; ((with_reducible refine (Cg1.out _).mono ?_); rintro e w5 ⟨rfl, hx5⟩); have hown5 := hown.later hx5)
                    | (go_at_call 85; ((with_reducible refine (Cg2.out _).mono ?_); rintro e w6 ⟨rfl, hx6⟩); have hown6 := hown5.later hx6)
                    | (at_builtin; refine own_append tri_elem rfl _ _ 108 rfl Try.underlying108 _ _ _ rfl hown6 #[.int .i64 P, .int .i64 Q, .int .i64 r] 1 rfl rfl (by intro u hu; simp at hu; rcases hu with rfl | rfl | rfl <;> rfl) (by omega) (by unfold maxLen; omega) ?_; intro v' w7 h7 _))
                  go_roundw
                  case rel =>
                    refine ⟨j + 1, by omega, by rw [Hqn.out], ?_⟩
                    first | rw [Ht.out] | rw [← List.append_assoc, Ht.out]
                    have e1 : (L ++ [(P, Q, (r : Int))]).length = N + 1 := by simp [HN.out]
                    have e2 : ((L ++ [(P, Q, (r : Int))]).map tcells).flatten = (L.map tcells).flatten ++ [.int .i64 P, .int .i64 Q, .int .i64 r] := by simp [tcells]
                    show Own w0 w7 _ 3 v' (L ++ [(P, Q, (r : Int))]).length _
                    rw [e1, e2]
                    exact h7
                  case measure => simp [intOf]; have := Hm.out; have := Hqn.out; omega
                · have htq : tqB r P Q = false := decide_eq_false fun h => h2 h.2
                  have ht := Hsk.out htq
                  have Ht := Lib.hid ht
                  have h3 : ((Int.gcd (Int.gcd P Q : Int) r : Int) == 1) = false := beq_eq_false_iff_ne.2 (by omega)
                  clear ht htq Htk Hsk h1 h2
                  generalize Int.gcd (Int.gcd P Q : Int) r = G2 at *
                  generalize Int.gcd P Q = G at *
                  go_wp2_with (first
                    | (go_at_call 85; ((with_reducible refine (Cg1.out _).mono ?_); rintro e w5 ⟨rfl, hx5⟩); have hown5 := hown.later hx5)
                    | (go_at_call 85; ((with_reducible refine (Cg2.out _).mono ?_); rintro e w6 ⟨rfl, hx6⟩); have hown6 := hown5.later hx6))
                  go_roundw
                  case rel =>
                    exact ⟨j + 1, by omega, by rw [Hqn.out], by (first | rw [Ht.out] | rw [← List.append_assoc, Ht.out]); show Own w0 _ _ 3 (.slice A3 N c3) L.length _; rw [HN.out]; exact hown6⟩
                  case measure => simp [intOf]; have := Hm.out; have := Hqn.out; omega
              · have htq : tqB r P Q = false := decide_eq_false fun h => h1 h.1
                have ht := Hsk.out htq
                have Ht := Lib.hid ht
                have h3 : (P * P + Q * Q == (r : Int) * r) = false := by simpa using h1
                clear ht htq Htk Hsk h1 Hg
                go_wp2
                go_roundw
                case rel => exact ⟨j + 1, by omega, by rw [Hqn.out], by (first | rw [Ht.out] | rw [← List.append_assoc, Ht.out]); show Own w0 _ _ 3 (.slice A3 N c3) L.length _; rw [HN.out]; exact hown⟩
                case measure => simp [intOf]; have := Hm.out; have := Hqn.out; omega
            · obtain rfl : j = 2 * r + 1 := by omega
              have b4 : ¬ (((2 * r + 1 : Nat) : Int) - r ≤ r) := by omega
              go_wp2
              go_roundw
              case rel => exact ⟨i + 1, by omega, by rw [Hpn.out], by (rw [Hs2.out]; first | exact hown | (rw [← List.append_assoc]; exact hown))⟩
              case measure => simp [intOf]; have := HP.out; omega
        · obtain rfl : i = 2 * r + 1 := by omega
          have b4 : ¬ (((2 * r + 1 : Nat) : Int) - r ≤ r) := by omega
          go_wp2
          go_roundw
          case rel => exact ⟨k + 1, by omega, by go_num, by rw [Hs3.out]; exact Hown'.out⟩
          case measure => simp [intOf]; omega
    · obtain rfl : k = 5 := by omega
      rw [T3_all] at hown
      have hl : turns.length = 36 := rfl
      rw [hl] at hown
      go_wp2
      go_ret
      exact ⟨_, _, rfl, Own.row hown, Hx0.out.trans hown.ext⟩
end Go.Proofs.Yteilglljigjefaa

/- Angle: by the code and by the reference. -/
namespace Go.Proofs.Yteilglljigjefaa
open Go.RowKit
def tabV : Value := .agg (turns.flatMap tcells).toArray
set_option maxRecDepth 100000 in
theorem index_tab (n : Nat) (hn : n < 36) (w : World) : (Instr.index 99 tabV (.int .i64 n)).run Try.prog w = .ok (tval (trn n)) w := by
  match n, hn with
  | 0, _ => exact (by kernel_rfl : (Instr.index 99 tabV (.int .i64 (0 : Nat))).run Try.prog w = .ok (tval (trn 0)) w)
  | 1, _ => exact (by kernel_rfl : (Instr.index 99 tabV (.int .i64 (1 : Nat))).run Try.prog w = .ok (tval (trn 1)) w)
  | 2, _ => exact (by kernel_rfl : (Instr.index 99 tabV (.int .i64 (2 : Nat))).run Try.prog w = .ok (tval (trn 2)) w)
  | 3, _ => exact (by kernel_rfl : (Instr.index 99 tabV (.int .i64 (3 : Nat))).run Try.prog w = .ok (tval (trn 3)) w)
  | 4, _ => exact (by kernel_rfl : (Instr.index 99 tabV (.int .i64 (4 : Nat))).run Try.prog w = .ok (tval (trn 4)) w)
  | 5, _ => exact (by kernel_rfl : (Instr.index 99 tabV (.int .i64 (5 : Nat))).run Try.prog w = .ok (tval (trn 5)) w)
  | 6, _ => exact (by kernel_rfl : (Instr.index 99 tabV (.int .i64 (6 : Nat))).run Try.prog w = .ok (tval (trn 6)) w)
  | 7, _ => exact (by kernel_rfl : (Instr.index 99 tabV (.int .i64 (7 : Nat))).run Try.prog w = .ok (tval (trn 7)) w)
  | 8, _ => exact (by kernel_rfl : (Instr.index 99 tabV (.int .i64 (8 : Nat))).run Try.prog w = .ok (tval (trn 8)) w)
  | 9, _ => exact (by kernel_rfl : (Instr.index 99 tabV (.int .i64 (9 : Nat))).run Try.prog w = .ok (tval (trn 9)) w)
  | 10, _ => exact (by kernel_rfl : (Instr.index 99 tabV (.int .i64 (10 : Nat))).run Try.prog w = .ok (tval (trn 10)) w)
  | 11, _ => exact (by kernel_rfl : (Instr.index 99 tabV (.int .i64 (11 : Nat))).run Try.prog w = .ok (tval (trn 11)) w)
  | 12, _ => exact (by kernel_rfl : (Instr.index 99 tabV (.int .i64 (12 : Nat))).run Try.prog w = .ok (tval (trn 12)) w)
  | 13, _ => exact (by kernel_rfl : (Instr.index 99 tabV (.int .i64 (13 : Nat))).run Try.prog w = .ok (tval (trn 13)) w)
  | 14, _ => exact (by kernel_rfl : (Instr.index 99 tabV (.int .i64 (14 : Nat))).run Try.prog w = .ok (tval (trn 14)) w)
  | 15, _ => exact (by kernel_rfl : (Instr.index 99 tabV (.int .i64 (15 : Nat))).run Try.prog w = .ok (tval (trn 15)) w)
  | 16, _ => exact (by kernel_rfl : (Instr.index 99 tabV (.int .i64 (16 : Nat))).run Try.prog w = .ok (tval (trn 16)) w)
  | 17, _ => exact (by kernel_rfl : (Instr.index 99 tabV (.int .i64 (17 : Nat))).run Try.prog w = .ok (tval (trn 17)) w)
  | 18, _ => exact (by kernel_rfl : (Instr.index 99 tabV (.int .i64 (18 : Nat))).run Try.prog w = .ok (tval (trn 18)) w)
  | 19, _ => exact (by kernel_rfl : (Instr.index 99 tabV (.int .i64 (19 : Nat))).run Try.prog w = .ok (tval (trn 19)) w)
  | 20, _ => exact (by kernel_rfl : (Instr.index 99 tabV (.int .i64 (20 : Nat))).run Try.prog w = .ok (tval (trn 20)) w)
  | 21, _ => exact (by kernel_rfl : (Instr.index 99 tabV (.int .i64 (21 : Nat))).run Try.prog w = .ok (tval (trn 21)) w)
  | 22, _ => exact (by kernel_rfl : (Instr.index 99 tabV (.int .i64 (22 : Nat))).run Try.prog w = .ok (tval (trn 22)) w)
  | 23, _ => exact (by kernel_rfl : (Instr.index 99 tabV (.int .i64 (23 : Nat))).run Try.prog w = .ok (tval (trn 23)) w)
  | 24, _ => exact (by kernel_rfl : (Instr.index 99 tabV (.int .i64 (24 : Nat))).run Try.prog w = .ok (tval (trn 24)) w)
  | 25, _ => exact (by kernel_rfl : (Instr.index 99 tabV (.int .i64 (25 : Nat))).run Try.prog w = .ok (tval (trn 25)) w)
  | 26, _ => exact (by kernel_rfl : (Instr.index 99 tabV (.int .i64 (26 : Nat))).run Try.prog w = .ok (tval (trn 26)) w)
  | 27, _ => exact (by kernel_rfl : (Instr.index 99 tabV (.int .i64 (27 : Nat))).run Try.prog w = .ok (tval (trn 27)) w)
  | 28, _ => exact (by kernel_rfl : (Instr.index 99 tabV (.int .i64 (28 : Nat))).run Try.prog w = .ok (tval (trn 28)) w)
  | 29, _ => exact (by kernel_rfl : (Instr.index 99 tabV (.int .i64 (29 : Nat))).run Try.prog w = .ok (tval (trn 29)) w)
  | 30, _ => exact (by kernel_rfl : (Instr.index 99 tabV (.int .i64 (30 : Nat))).run Try.prog w = .ok (tval (trn 30)) w)
  | 31, _ => exact (by kernel_rfl : (Instr.index 99 tabV (.int .i64 (31 : Nat))).run Try.prog w = .ok (tval (trn 31)) w)
  | 32, _ => exact (by kernel_rfl : (Instr.index 99 tabV (.int .i64 (32 : Nat))).run Try.prog w = .ok (tval (trn 32)) w)
  | 33, _ => exact (by kernel_rfl : (Instr.index 99 tabV (.int .i64 (33 : Nat))).run Try.prog w = .ok (tval (trn 33)) w)
  | 34, _ => exact (by kernel_rfl : (Instr.index 99 tabV (.int .i64 (34 : Nat))).run Try.prog w = .ok (tval (trn 34)) w)
  | 35, _ => exact (by kernel_rfl : (Instr.index 99 tabV (.int .i64 (35 : Nat))).run Try.prog w = .ok (tval (trn 35)) w)
  | n + 36, h => omega
theorem table_val (w : World) : Calls Try.prog 52 #[] w fun e w' => e = .returned tabV ∧ Ext w w' := table_any w
/-- What an angle's number gives. -/
def angS (n : Int) : Int × Int × Int := if 0 ≤ n ∧ n < 36 then trn n.toNat else (0, 0, 0)
def angE (n : Int) : Int := if 0 ≤ n ∧ n < 36 then 0 else 2
theorem ang_nat {n : Nat} (h : n < 36) : angS n = trn n ∧ angE n = 0 := by
  unfold angS angE
  rw [if_pos (by omega), if_pos (by omega)]
  exact ⟨rfl, rfl⟩
theorem ang_bad {n : Int} (h : ¬ (0 ≤ n ∧ n < 36)) : angS n = (0, 0, 0) ∧ angE n = 2 := by
  unfold angS angE
  rw [if_neg h, if_neg h]
  exact ⟨rfl, rfl⟩
abbrev angV (n : Int) : Value := .tuple #[.int .i64 (angS n).1, .int .i64 (angS n).2.1, .int .i64 (angS n).2.2, .int .i64 (angE n)]
theorem results_four {fn : Func} {a b c d : Tmp} (h : fn.results = #[.tmp a, .tmp b, .tmp c, .tmp d]) (tmps : Array Value) (w : World) :
    (results fn tmps).run Try.prog w = .ok (.tuple #[tmps.getD a undef, tmps.getD b undef, tmps.getD c undef, tmps.getD d undef]) w := by
  simp [results, h]
theorem ret_angle {p q r e : Int} {n : Int} (h1 : (p, q, r) = angS n) (h2 : e = angE n) : Ending.returned (.tuple #[.int .i64 p, .int .i64 q, .int .i64 r, .int .i64 e]) = .returned (angV n) := by
  unfold angV
  rw [← h1, h2]

set_option maxHeartbeats 1000000 in
theorem angle_any (n : Int) (w : World) : Calls Try.prog 23 #[.int .i64 n] w fun e w' => e = .returned (angV n) ∧ Ext w w' := by
  by_cases hn : 0 ≤ n ∧ n < 36
  · obtain ⟨m, rfl⟩ : ∃ m : Nat, n = m := ⟨n.toNat, by omega⟩
    have hm : m < 36 := by omega
    obtain ⟨a1, a2⟩ := ang_nat hm
    have hi := fun w' => index_tab m hm w'
    have hfin := ret_angle (n := (m : Int)) (p := (trn m).1) (q := (trn m).2.1) (r := (trn m).2.2) a1.symm a2.symm
    have Hfin := Lib.hid hfin
    have ht := table_val
    have Ht := Lib.hid ht
    clear hfin a1 a2 hn ht
    generalize angV (m : Int) = V at *
    generalize trn m = t at *
    generalize tabV = T at *
    obtain ⟨p, q, r⟩ := t
    have b1 : (m : Int) < 36 := by omega
    go_enter Try.func23, Try.ntmps23
    go_wp2_with (go_at_call 52; refine (Ht.out _).mono ?_; rintro e w1 ⟨rfl, h1⟩)
    go_quiet (fail)
    go_wp2
    (try simp only [Exit.inBlock, Exit.then])
    refine bodyPost_ret (results_four rfl _ _) rfl ?_
    exact ⟨Hfin.out, h1.trans (by simp)⟩
  · obtain ⟨a1, a2⟩ := ang_bad hn
    have hfin := ret_angle (n := n) a1.symm a2.symm
    have Hfin := Lib.hid hfin
    clear hfin a1 a2
    generalize angV n = V at *
    by_cases h0 : n < 0
    · have d0 : decide (n < 0) = true := by simpa using h0
      go_enter Try.func23, Try.ntmps23
      go_wp2
      (try simp only [Exit.inBlock, Exit.then])
      refine bodyPost_ret (results_four rfl _ _) rfl ?_
      exact ⟨Hfin.out, by simp⟩
    · have d0 : decide (n < 0) = false := by simpa using h0
      have d1 : 36 ≤ n := by omega
      go_enter Try.func23, Try.ntmps23
      go_wp2
      (try simp only [Exit.inBlock, Exit.then])
      refine bodyPost_ret (results_four rfl _ _) rfl ?_
      exact ⟨Hfin.out, by simp⟩
set_option maxHeartbeats 1000000 in
theorem angle_ref (n : Int) (w : World) : Calls Try.prog 24 #[.int .i64 n] w fun e w' => e = .returned (angV n) ∧ Ext w w' := by
  by_cases hn : 0 ≤ n ∧ n < 36
  · obtain ⟨m, rfl⟩ : ∃ m : Nat, n = m := ⟨n.toNat, by omega⟩
    have hm : m < 36 := by omega
    obtain ⟨a1, a2⟩ := ang_nat hm
    have hwi : withinB (m : Int) 0 35 = true := withinB_true.2 (by omega)
    have hfin := ret_angle (n := (m : Int)) (p := (trn m).1) (q := (trn m).2.1) (r := (trn m).2.2) a1.symm a2.symm
    have Hfin := Lib.hid hfin
    have hat := fun (w' : World) (A : Option Addr) (h : TRow w' A turns) => TRow.at_ h (k := m) hm
    have htn : tAt turns m = trn m := rfl
    rw [htn] at hat
    have Hat := Lib.hid hat
    clear hfin a1 a2 hn hat htn
    generalize angV (m : Int) = V at *
    generalize trn m = t at *
    obtain ⟨p, q, r⟩ := t
    have b1 : (m : Int) < 36 := by omega
    go_enter Try.func24, Try.ntmps24
    go_wp2_with (first
      | (go_at_call 58; refine (within_any _ _ _ _).mono ?_; rintro e w' ⟨rfl, rfl⟩)
      | (go_at_call 59; refine (turns_ref _).mono ?_; rintro e w1 ⟨A, c, rfl, hrow, h1⟩; obtain ⟨ad, rfl, c0, c1, c2⟩ := Hat.out w1 A hrow))
    go_quiet (fail)
    go_wp2
    (try simp only [Exit.inBlock, Exit.then])
    refine bodyPost_ret (results_four rfl _ _) rfl ?_
    exact ⟨Hfin.out, h1.trans (by simp)⟩
  · obtain ⟨a1, a2⟩ := ang_bad hn
    have hwi : withinB n 0 35 = false := withinB_false.2 (by omega)
    have hfin := ret_angle (n := n) a1.symm a2.symm
    have Hfin := Lib.hid hfin
    clear hfin a1 a2
    generalize angV n = V at *
    go_enter Try.func24, Try.ntmps24
    go_wp2_with (go_at_call 58; refine (within_any _ _ _ _).mono ?_; rintro e w' ⟨rfl, rfl⟩)
    (try simp only [Exit.inBlock, Exit.then])
    refine bodyPost_ret (results_four rfl _ _) rfl ?_
    exact ⟨Hfin.out, by simp⟩
end Go.Proofs.Yteilglljigjefaa

/- A pose in lowest terms, and the next one. -/
namespace Go.Proofs.Yteilglljigjefaa
open Go.RowKit
theorem wrap_small {a b : Int} (h : a = b) (h1 : -1000000000 ≤ b) (h2 : b ≤ 1000000000) : IntKind.i64.wrap a = b := by rw [h, IntKind.wrap_i64]; omega
set_option maxRecDepth 100000 in
set_option maxHeartbeats 4000000 in
theorem lowest_any (p : Ps) (w : World) (hp : PoseOk p 3) : Calls Try.prog 106 #[p.val] w fun e w' => e = .returned (low p).val ∧ Ext w w' := by
  have h1 := psOk hp
  have h2 := psOk hp.low
  have hg := g5_le h1
  have hg0 := g5_pos hp.d0
  have ht := g5_tree p
  obtain ⟨e1, e2, e3, e4, e5⟩ := low_eq p
  have w1 := wrap_small (quo_low hg0 e1) (by have := h2.bp; omega) (by have := h2.bp; omega)
  have w2 := wrap_small (quo_low hg0 e2) (by have := h2.bq; omega) (by have := h2.bq; omega)
  have w3 := wrap_small (quo_low hg0 e3) (by have := h2.bx; omega) (by have := h2.bx; omega)
  have w4 := wrap_small (quo_low hg0 e4) (by have := h2.bz; omega) (by have := h2.bz; omega)
  have w5 := wrap_small (quo_low hg0 e5) (by have := h2.bd; omega) (by have := h2.bd; omega)
  clear e1 e2 e3 e4 e5 h2
  generalize low p = l at *
  generalize g5 p = G at *
  obtain ⟨P, Q, X, Y, D⟩ := p
  obtain ⟨lp, lq, lx, ly, ld⟩ := l
  obtain ⟨b1, b2, b3, b4, b5⟩ := h1
  simp only at *
  have k1 := gcd_bd P Q
  have k2 := gcd_bd X Y
  have k3 := gcd_bd (Int.gcd P Q : Int) (Int.gcd X Y : Int)
  have c1 := fun w' => gcd_any P Q w' (by omega) (by omega)
  have c2 := fun w' => gcd_any X Y w' (by omega) (by omega)
  have c3 := fun w' => gcd_any (Int.gcd P Q : Int) (Int.gcd X Y : Int) w' (by omega) (by omega)
  have c4 := fun w' => gcd_any (Int.gcd (Int.gcd P Q : Int) (Int.gcd X Y : Int) : Int) D w' (by omega) (by omega)
  rw [ht] at c4
  clear ht k1 k2 k3
  have C1 := Lib.hid c1
  have C2 := Lib.hid c2
  have C3 := Lib.hid c3
  have C4 := Lib.hid c4
  clear c1 c2 c3 c4 hp
  generalize Int.gcd (Int.gcd P Q : Int) (Int.gcd X Y : Int) = G3 at *
  generalize Int.gcd P Q = G1 at *
  generalize Int.gcd X Y = G2 at *
  have W1 := Lib.hid w1
  have W2 := Lib.hid w2
  have W3 := Lib.hid w3
  have W4 := Lib.hid w4
  have W5 := Lib.hid w5
  clear w1 w2 w3 w4 w5
  go_enter Try.func106, Try.ntmps106
  go_wp2
  have kb : Blk ((w.alloc (.cells #[vint P, vint Q, vint X, vint Y, vint D] 82)).alloc (.cells #[.int .i64 0, .int .i64 0, .int .i64 0, .int .i64 0, .int .i64 0] 82)) w.heap.size [vint P, vint Q, vint X, vint Y, vint D] := (Blk.new _ _).ext ((Ext.refl _).alloc _)
  have kr : Blk ((w.alloc (.cells #[vint P, vint Q, vint X, vint Y, vint D] 82)).alloc (.cells #[.int .i64 0, .int .i64 0, .int .i64 0, .int .i64 0, .int .i64 0] 82)) (w.heap.size + 1) [.int .i64 0, .int .i64 0, .int .i64 0, .int .i64 0, .int .i64 0] := Blk.new' (cs := #[.int .i64 0, .int .i64 0, .int .i64 0, .int .i64 0, .int .i64 0]) (by simp)
  have hx : Ext w ((w.alloc (.cells #[vint P, vint Q, vint X, vint Y, vint D] 82)).alloc (.cells #[.int .i64 0, .int .i64 0, .int .i64 0, .int .i64 0, .int .i64 0] 82)) := ((Ext.refl _).alloc _).alloc _
  have hs : w.heap.size ≤ w.heap.size + 1 := by omega
  generalize ((w.alloc (.cells #[vint P, vint Q, vint X, vint Y, vint D] 82)).alloc (.cells #[.int .i64 0, .int .i64 0, .int .i64 0, .int .i64 0, .int .i64 0] 82)) = W0 at *
  generalize w.heap.size + 1 = g1 at *
  have Hs := Lib.hid hs
  clear hs
  have q0 := kb.at_ 0 rfl
  have q1 := kb.at_ 1 rfl
  have q2 := kb.at_ 2 rfl
  have q3 := kb.at_ 3 rfl
  have q4 := kb.at_ 4 rfl
  refine wp_region_calm 15 (fun j _ v _ => bif j == 4 then v = .int .i64 G1 else bif j == 9 then v = .int .i64 G2 else bif j == 10 then v = .int .i64 G3 else v = .int .i64 G) (fun _ _ _ _ _ _ h => h) (by kernel_rfl) (by kernel_rfl) ?_
  simp only [List.take_succ_cons, List.take_zero, List.drop_succ_cons, List.drop_zero]
  refine calm_quiet calm_mono_final 4 (by kernel_rfl) ?_
  simp only [List.take_succ_cons, List.take_zero, List.drop_succ_cons, List.drop_zero]
  repeat (go_big_quiet_step (fail))
  refine wpQuiet_nil ?_
  refine calm_call calm_mono_final 85 #[.int .i64 P, .int .i64 Q] rfl (fun w => ?_) (fun w he hF => ?_) ?_
  · go_simp
  · exact (C1.out w).mono fun e w'' ⟨he', hx⟩ => ⟨_, he', hx, rfl⟩
  rintro _ _ _ rfl
  simp only [Act.put, List.setIfInBounds_toArray, List.set_cons_succ, List.set_cons_zero]
  refine calm_quiet calm_mono_final 4 (by kernel_rfl) ?_
  simp only [List.take_succ_cons, List.take_zero, List.drop_succ_cons, List.drop_zero]
  repeat (go_big_quiet_step (fail))
  refine wpQuiet_nil ?_
  refine calm_call calm_mono_final 85 #[.int .i64 X, .int .i64 Y] rfl (fun w => ?_) (fun w he hF => ?_) ?_
  · go_simp
  · exact (C2.out w).mono fun e w'' ⟨he', hx⟩ => ⟨_, he', hx, rfl⟩
  rintro _ _ _ rfl
  simp only [Act.put, List.setIfInBounds_toArray, List.set_cons_succ, List.set_cons_zero]
  refine calm_call calm_mono_final 85 #[.int .i64 G1, .int .i64 G2] rfl (fun w => ?_) (fun w he hF => ?_) ?_
  · go_simp
  · exact (C3.out w).mono fun e w'' ⟨he', hx⟩ => ⟨_, he', hx, rfl⟩
  rintro _ _ _ rfl
  simp only [Act.put, List.setIfInBounds_toArray, List.set_cons_succ, List.set_cons_zero]
  refine calm_quiet calm_mono_final 2 (by kernel_rfl) ?_
  simp only [List.take_succ_cons, List.take_zero, List.drop_succ_cons, List.drop_zero]
  repeat (go_big_quiet_step (fail))
  refine wpQuiet_nil ?_
  refine calm_call calm_mono_final 85 #[.int .i64 G3, .int .i64 D] rfl (fun w => ?_) (fun w he hF => ?_) ?_
  · go_simp
  · exact (C4.out w).mono fun e w'' ⟨he', hx⟩ => ⟨_, he', hx, rfl⟩
  rintro _ _ _ rfl
  simp only [Act.put, List.setIfInBounds_toArray, List.set_cons_succ, List.set_cons_zero]
  refine calm_quiet calm_mono_final 1 (by kernel_rfl) ?_
  simp only [List.take_succ_cons, List.take_zero, List.drop_succ_cons, List.drop_zero]
  repeat (go_big_quiet_step (fail))
  refine wpQuiet_nil ?_
  refine calm_nil fun w6 hx6 _ => ?_
  have q0 : ∀ w', Ext w6 w' → _ := fun w' he => q0 w' (hx6.trans he)
  have q1 : ∀ w', Ext w6 w' → _ := fun w' he => q1 w' (hx6.trans he)
  have q2 : ∀ w', Ext w6 w' → _ := fun w' he => q2 w' (hx6.trans he)
  have q3 : ∀ w', Ext w6 w' → _ := fun w' he => q3 w' (hx6.trans he)
  have q4 : ∀ w', Ext w6 w' → _ := fun w' he => q4 w' (hx6.trans he)
  have kr6 := kr.ext hx6
  have w1 := W1.out
  have w2 := W2.out
  have w3 := W3.out
  have w4 := W4.out
  have w5 := W5.out
  have z1 : ((G : Int) = 0) = False := by simp; omega
  go_wp2
  refine wp_region_calm 20 (fun _ _ _ _ => True) (fun _ _ _ _ _ _ h => h) (by kernel_rfl) (by kernel_rfl) ?_
  simp only [List.take_succ_cons, List.take_zero, List.drop_succ_cons, List.drop_zero]
  refine calm_quiet calm_mono_final 20 (by kernel_rfl) ?_
  simp only [List.take_succ_cons, List.take_zero, List.drop_succ_cons, List.drop_zero]
  repeat (go_big_quiet_step (fail))
  refine wpQuiet_nil ?_
  refine calm_nil fun w7 hx7 _ => ?_
  have kr7 := kr6.ext hx7
  have r0 := kr7.at_ 0 rfl
  have f0 := kr7.free 0
  have r1 := kr7.at_ 1 rfl
  have f1 := kr7.free 1
  have r2 := kr7.at_ 2 rfl
  have f2 := kr7.free 2
  have r3 := kr7.at_ 3 rfl
  have f3 := kr7.free 3
  have r4 := kr7.at_ 4 rfl
  have f4 := kr7.free 4
  clear w1 w2 w3 w4 w5 z1
  go_wp2
  (try simp only [Exit.inBlock, Exit.then])
  have kz := (((((kr7.set (j := 0) (by simp) (.int .i64 lp)).set (j := 1) (by simp) (.int .i64 lq)).set (j := 2) (by simp) (.int .i64 lx)).set (j := 3) (by simp) (.int .i64 ly)).set (j := 4) (by simp) (.int .i64 ld))
  refine bodyPost_ret (results_pose rfl _ _ rfl kz) rfl ⟨rfl, ?_⟩
  exact (((((((hx.trans hx6).trans hx7).setCell Hs.out _).setCell Hs.out _).setCell Hs.out _).setCell Hs.out _).setCell Hs.out _)
end Go.Proofs.Yteilglljigjefaa
