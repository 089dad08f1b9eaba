/- All angles, by the reference: a search. -/
import Derived.Test.YteilglljigjefaaR07
import Derived.Test.YteilglljigjefaaR08
import Derived.Test.YteilglljigjefaaR01
namespace Go.Proofs.Yteilglljigjefaa
open Go.RowKit

def tqB (r p q : Int) : Bool := decide (p * p + q * q = r * r ∧ Int.gcd (Int.gcd p q) r = 1)
def T1 (r p : Int) (m : Nat) : List (Int × Int × Int) := (List.range m).flatMap fun (j : Nat) => if tqB r p ((j : Int) - r) = true then [(p, (j : Int) - r, r)] else []
def T2 (r : Nat) (m : Nat) : List (Int × Int × Int) := (List.range m).flatMap fun (i : Nat) => T1 r ((i : Int) - r) (2 * r + 1)
def rsL : List Nat := [1, 5, 13, 17, 25]
def rsA (k : Nat) : Nat := rsL.getD k 1
def T3 (m : Nat) : List (Int × Int × Int) := (List.range m).flatMap fun k => T2 (rsA k) (2 * rsA k + 1)
theorem T1_skip {r p : Int} {m : Nat} (h : tqB r p ((m : Int) - r) = false) : T1 r p (m + 1) = T1 r p m := by simp [T1, List.range_succ, h]
theorem T1_take {r p : Int} {m : Nat} (h : tqB r p ((m : Int) - r) = true) : T1 r p (m + 1) = T1 r p m ++ [(p, (m : Int) - r, r)] := by simp [T1, List.range_succ, h]
theorem T2_succ (r m : Nat) : T2 r (m + 1) = T2 r m ++ T1 r ((m : Int) - r) (2 * r + 1) := by simp [T2, List.range_succ]
theorem T3_succ (m : Nat) : T3 (m + 1) = T3 m ++ T2 (rsA m) (2 * rsA m + 1) := by simp [T3, List.range_succ]
theorem rsA_le : ∀ k, 1 ≤ rsA k ∧ rsA k ≤ 25
  | 0 | 1 | 2 | 3 | 4 => by decide
  | n + 5 => by simp [rsA, rsL]
theorem T1_len (r p : Int) : ∀ m, (T1 r p m).length ≤ m
  | 0 => by simp [T1]
  | m + 1 => by
    have := T1_len r p m
    cases h : tqB r p ((m : Int) - r)
    · rw [T1_skip h]; omega
    · rw [T1_take h]; simp; omega
theorem T2_len {r : Nat} (hr : r ≤ 25) : ∀ m, (T2 r m).length ≤ 51 * m
  | 0 => by simp [T2]
  | m + 1 => by
    have := T2_len hr m
    have := T1_len r ((m : Int) - r) (2 * r + 1)
    rw [T2_succ, List.length_append]
    omega
theorem T3_len : ∀ m, (T3 m).length ≤ 2601 * m
  | 0 => by simp [T3]
  | m + 1 => by
    have := T3_len m
    have := rsA_le m
    have := T2_len this.2 (2 * rsA m + 1)
    rw [T3_succ, List.length_append]
    omega
set_option maxRecDepth 100000 in
theorem T3_all : T3 5 = turns := by decide +kernel
theorem tri_elem : ElemInfo 92 (.agg #[.int .i64 0, .int .i64 0, .int .i64 0]) 3 24 := ⟨info_parts (by kernel_rfl), rfl, by decide⟩
abbrev OwnT (w1 w : World) (v : Value) (xs : List (Int × Int × Int)) : Prop := Own w1 w 92 3 v xs.length (xs.map tcells).flatten
theorem OwnT.row {w1 w : World} {A : Option Addr} {m c : Nat} {xs : List (Int × Int × Int)} (h : OwnT w1 w (.slice A m c) xs) : TRow w A xs := Own.row h

theorem gcd_bd (P Q : Int) : Int.gcd P Q ≤ P.natAbs + Q.natAbs := by
  show Nat.gcd P.natAbs Q.natAbs ≤ _
  rcases Nat.eq_zero_or_pos P.natAbs with h | h
  · rw [h]; simp
  · have := Nat.gcd_le_left Q.natAbs h
    omega
set_option maxRecDepth 100000 in
set_option maxHeartbeats 8000000 in
theorem turns_ref (w : World) : Calls Try.prog 59 #[] w fun e w' => ∃ A c, e = .returned (.slice A 36 c) ∧ TRow w' A turns ∧ Ext w w' := by
  have hg := fun (a b : Int) (h1 : -1000000000 ≤ a ∧ a ≤ 1000000000) (h2 : -1000000000 ≤ b ∧ b ≤ 1000000000) (w' : World) => gcd_any a b w' h1 h2
  have Hg := Lib.hid hg
  clear hg
  go_enter Try.func59, Try.ntmps59
  go_wp2
  have q0 : ∀ k, k < 5 → ∀ w', Ext (w.alloc (.cells #[.int .i64 1, .int .i64 5, .int .i64 13, .int .i64 17, .int .i64 25] 3)) w' → w'.cell? ⟨w.heap.size, k, none⟩ = some (.int .i64 (rsA k : Nat)) := fun k hk w' he => by
    refine he.cell ?_
    rw [cell_heap (heap_alloc_new w _)]
    rcases (by omega : k = 0 ∨ k = 1 ∨ k = 2 ∨ k = 3 ∨ k = 4) with rfl | rfl | rfl | rfl | rfl <;> rfl
  have hx0 : Ext w (w.alloc (.cells #[.int .i64 1, .int .i64 5, .int .i64 13, .int .i64 17, .int .i64 25] 3)) := by simp
  generalize (w.alloc (.cells #[.int .i64 1, .int .i64 5, .int .i64 13, .int .i64 17, .int .i64 25] 3)) = w0 at *
  generalize w.heap.size = g at *
  have Q0 := Lib.hid q0
  have Hx0 := Lib.hid hx0
  clear q0 hx0
  go_loopw [3, 1] (fun i v wr => ∃ k : Nat, k ≤ 5 ∧ i = .int .i64 k ∧ OwnT w0 wr v (T3 k)) (fun i _ _ => 5 - (intOf i).toNat)
  case atStart => exact ⟨0, by omega, rfl, Own.nil _ _ _⟩
  case round =>
    obtain ⟨k, hk, rfl, hown⟩ := hrel
    obtain ⟨A, c, rfl⟩ := hown.form
    by_cases hlt : k < 5
    · have b0 : decide ((k : Int) < 5) = true := by simp; omega
      have c0 : ∀ w', Ext wr w' → w'.cell? ⟨g, k, none⟩ = some (.int .i64 (rsA k : Nat)) := fun w' he => Q0.out k hlt w' (hown.ext.trans he)
      have hrs := rsA_le k
      have hs3 := T3_succ k
      have hl3 := T3_len k
      have Hs3 := Lib.hid hs3
      clear hs3
      generalize rsA k = r at *
      go_wp2
      obtain ⟨wo, rfl⟩ : ∃ wo : World, wo = wr := ⟨_, rfl⟩
      have Hown := Lib.hid hown
      clear hown
      go_loopw [5, 1] (fun p v wr => ∃ i : Nat, i ≤ 2 * r + 1 ∧ p = .int .i64 ((i : Int) - r) ∧ OwnT w0 wr v (T3 k ++ T2 r i)) (fun p _ _ => (2 * r + 1 - ((intOf p) + r).toNat))
      case atStart => exact ⟨0, by omega, by go_num, by simpa [T2] using Hown.out⟩
      case round =>
        obtain ⟨i, hi, rfl, hown⟩ := hrel
        obtain ⟨A, c, rfl⟩ := hown.form
        have Hown' := Lib.hid hown
        clear hown
        by_cases hlt2 : i < 2 * r + 1
        · have hs2 := T2_succ r i
          have hl2 := T2_len hrs.2 i
          have b1 : -25 ≤ (i : Int) - r ∧ (i : Int) - r ≤ 25 := by omega
          have b2 : (i : Int) - r ≤ r := by omega
          have Hs2 := Lib.hid hs2
          have hpn : ((i : Int) - r) + 1 = ((i + 1 : Nat) : Int) - r := by omega
          have Hpn := Lib.hid hpn
          clear hs2 hpn
          generalize hP : (i : Int) - r = P at *
          have HP := Lib.hid hP
          clear hP
          go_wp2
          obtain ⟨wo2, rfl⟩ : ∃ wo2 : World, wo2 = wr := ⟨_, rfl⟩
          go_loopw [6, 1] (fun q v wr => ∃ j : Nat, j ≤ 2 * r + 1 ∧ q = .int .i64 ((j : Int) - r) ∧ OwnT w0 wr v (T3 k ++ T2 r i ++ T1 r P j)) (fun q _ _ => (2 * r + 1 - ((intOf q) + r).toNat))
          case atStart => exact ⟨0, by omega, by go_num, by simpa [T1] using Hown'.out⟩
          case round =>
            obtain ⟨j, hj, rfl, hown⟩ := hrel
            obtain ⟨A3, c3, rfl⟩ := hown.form
            have hl1 := T1_len r P j
            by_cases hlt3 : j < 2 * r + 1
            · have htk := T1_take (r := (r : Int)) (p := P) (m := j)
              have hsk := T1_skip (r := (r : Int)) (p := P) (m := j)
              have c1 : -25 ≤ (j : Int) - r ∧ (j : Int) - r ≤ 25 := by omega
              have c2 : (j : Int) - r ≤ r := by omega
              have hqn : ((j : Int) - r) + 1 = ((j + 1 : Nat) : Int) - r := by omega
              have Hqn := Lib.hid hqn
              have hm : ((j : Int) - r) + r = j := by omega
              have Hm := Lib.hid hm
              clear hqn hm
              generalize (j : Int) - r = Q at *
              have e1 := prod_le (a := P) (d := 25) (s := P) (m := 25) (by omega) (by omega) (by omega) (by omega)
              have e2 := prod_le (a := Q) (d := 25) (s := Q) (m := 25) (by omega) (by omega) (by omega) (by omega)
              have e3 := prod_le (a := (r : Int)) (d := 25) (s := (r : Int)) (m := 25) (by omega) (by omega) (by omega) (by omega)
              simp only [Int.reduceMul] at e1 e2 e3
              have g1 := gcd_bd P Q
              have hnn : (T3 k ++ T2 r i ++ T1 r P j).length ≤ 2601 * k + 51 * i + j := by simp only [List.length_append]; omega
              have htk2 : tqB r P Q = true → T3 k ++ T2 r i ++ T1 r P (j + 1) = T3 k ++ T2 r i ++ T1 r P j ++ [(P, Q, (r : Int))] := fun h => by rw [htk h, ← List.append_assoc]
              have hsk2 : tqB r P Q = false → T3 k ++ T2 r i ++ T1 r P (j + 1) = T3 k ++ T2 r i ++ T1 r P j := fun h => by rw [hsk h]
              have Htk := Lib.hid htk2
              have Hsk := Lib.hid hsk2
              clear htk hsk htk2 hsk2
              generalize T3 k ++ T2 r i ++ T1 r P j = L at *
              generalize hN : L.length = N at *
              have hown : Own w0 wr 92 3 (.slice A3 N c3) N (L.map tcells).flatten := by rw [← hN] at hown ⊢; exact hown
              have HN := Lib.hid hN
              clear hN
              by_cases h1 : P * P + Q * Q = r * r
              · have t1 : (P * P + Q * Q == (r : Int) * r) = true := by simpa using h1
                have cg1 := Hg.out P Q (by omega) (by omega)
                have cg2 := Hg.out (Int.gcd P Q : Int) (r : Int) (by omega) (by omega)
                have Cg1 := Lib.hid cg1
                have Cg2 := Lib.hid cg2
                clear cg1 cg2
                by_cases h2 : Int.gcd (Int.gcd P Q : Int) r = 1
                · have htq : tqB r P Q = true := decide_eq_true ⟨h1, h2⟩
                  have ht := Htk.out htq
                  have Ht := Lib.hid ht
                  clear ht htq Htk Hsk h1
                  rw [h2] at Cg2
                  generalize Int.gcd P Q = G at *
                  go_wp2_with (first
                    | (go_at_call 85; ((with_reducible refine (Cg1.out _).mono ?_); rintro e w5 ⟨rfl, hx5⟩); have hown5 := hown.later hx5)
                    | (go_at_call 85; ((with_reducible refine (Cg2.out _).mono ?_); rintro e w6 ⟨rfl, hx6⟩); have hown6 := hown5.later hx6)
                    | (at_builtin; refine own_append tri_elem rfl _ _ 108 rfl Try.underlying108 _ _ _ rfl hown6 #[.int .i64 P, .int .i64 Q, .int .i64 r] 1 rfl rfl (by intro u hu; simp at hu; rcases hu with rfl | rfl | rfl <;> rfl) (by omega) (by unfold maxLen; omega) ?_; intro v' w7 h7 _))
                  go_roundw
                  case rel =>
                    refine ⟨j + 1, by omega, by rw [Hqn.out], ?_⟩
                    first | rw [Ht.out] | rw [← List.append_assoc, Ht.out]
                    have e1 : (L ++ [(P, Q, (r : Int))]).length = N + 1 := by simp [HN.out]
                    have e2 : ((L ++ [(P, Q, (r : Int))]).map tcells).flatten = (L.map tcells).flatten ++ [.int .i64 P, .int .i64 Q, .int .i64 r] := by simp [tcells]
                    show Own w0 w7 _ 3 v' (L ++ [(P, Q, (r : Int))]).length _
                    rw [e1, e2]
                    exact h7
                  case measure => simp [intOf]; have := Hm.out; have := Hqn.out; omega
                · have htq : tqB r P Q = false := decide_eq_false fun h => h2 h.2
                  have ht := Hsk.out htq
                  have Ht := Lib.hid ht
                  have h3 : ((Int.gcd (Int.gcd P Q : Int) r : Int) == 1) = false := beq_eq_false_iff_ne.2 (by omega)
                  clear ht htq Htk Hsk h1 h2
                  generalize Int.gcd (Int.gcd P Q : Int) r = G2 at *
                  generalize Int.gcd P Q = G at *
                  go_wp2_with (first
                    | (go_at_call 85; ((with_reducible refine (Cg1.out _).mono ?_); rintro e w5 ⟨rfl, hx5⟩); have hown5 := hown.later hx5)
                    | (go_at_call 85; ((with_reducible refine (Cg2.out _).mono ?_); rintro e w6 ⟨rfl, hx6⟩); have hown6 := hown5.later hx6))
                  go_roundw
                  case rel =>
                    exact ⟨j + 1, by omega, by rw [Hqn.out], by (first | rw [Ht.out] | rw [← List.append_assoc, Ht.out]); show Own w0 _ _ 3 (.slice A3 N c3) L.length _; rw [HN.out]; exact hown6⟩
                  case measure => simp [intOf]; have := Hm.out; have := Hqn.out; omega
              · have htq : tqB r P Q = false := decide_eq_false fun h => h1 h.1
                have ht := Hsk.out htq
                have Ht := Lib.hid ht
                have h3 : (P * P + Q * Q == (r : Int) * r) = false := by simpa using h1
                clear ht htq Htk Hsk h1 Hg
                go_wp2
                go_roundw
                case rel => exact ⟨j + 1, by omega, by rw [Hqn.out], by (first | rw [Ht.out] | rw [← List.append_assoc, Ht.out]); show Own w0 _ _ 3 (.slice A3 N c3) L.length _; rw [HN.out]; exact hown⟩
                case measure => simp [intOf]; have := Hm.out; have := Hqn.out; omega
            · obtain rfl : j = 2 * r + 1 := by omega
              have b4 : ¬ (((2 * r + 1 : Nat) : Int) - r ≤ r) := by omega
              go_wp2
              go_roundw
              case rel => exact ⟨i + 1, by omega, by rw [Hpn.out], by (rw [Hs2.out]; first | exact hown | (rw [← List.append_assoc]; exact hown))⟩
              case measure => simp [intOf]; have := HP.out; omega
        · obtain rfl : i = 2 * r + 1 := by omega
          have b4 : ¬ (((2 * r + 1 : Nat) : Int) - r ≤ r) := by omega
          go_wp2
          go_roundw
          case rel => exact ⟨k + 1, by omega, by go_num, by rw [Hs3.out]; exact Hown'.out⟩
          case measure => simp [intOf]; omega
    · obtain rfl : k = 5 := by omega
      rw [T3_all] at hown
      have hl : turns.length = 36 := rfl
      rw [hl] at hown
      go_wp2
      go_ret
      exact ⟨_, _, rfl, Own.row hown, Hx0.out.trans hown.ext⟩
end Go.Proofs.Yteilglljigjefaa

/- Angle: by the code and by the reference. -/
namespace Go.Proofs.Yteilglljigjefaa
open Go.RowKit
def tabV : Value := .agg (turns.flatMap tcells).toArray
set_option maxRecDepth 100000 in
theorem index_tab (n : Nat) (hn : n < 36) (w : World) : (Instr.index 99 tabV (.int .i64 n)).run Try.prog w = .ok (tval (trn n)) w := by
  match n, hn with
  | 0, _ => exact (by kernel_rfl : (Instr.index 99 tabV (.int .i64 (0 : Nat))).run Try.prog w = .ok (tval (trn 0)) w)
  | 1, _ => exact (by kernel_rfl : (Instr.index 99 tabV (.int .i64 (1 : Nat))).run Try.prog w = .ok (tval (trn 1)) w)
  | 2, _ => exact (by kernel_rfl : (Instr.index 99 tabV (.int .i64 (2 : Nat))).run Try.prog w = .ok (tval (trn 2)) w)
  | 3, _ => exact (by kernel_rfl : (Instr.index 99 tabV (.int .i64 (3 : Nat))).run Try.prog w = .ok (tval (trn 3)) w)
  | 4, _ => exact (by kernel_rfl : (Instr.index 99 tabV (.int .i64 (4 : Nat))).run Try.prog w = .ok (tval (trn 4)) w)
  | 5, _ => exact (by kernel_rfl : (Instr.index 99 tabV (.int .i64 (5 : Nat))).run Try.prog w = .ok (tval (trn 5)) w)
  | 6, _ => exact (by kernel_rfl : (Instr.index 99 tabV (.int .i64 (6 : Nat))).run Try.prog w = .ok (tval (trn 6)) w)
  | 7, _ => exact (by kernel_rfl : (Instr.index 99 tabV (.int .i64 (7 : Nat))).run Try.prog w = .ok (tval (trn 7)) w)
  | 8, _ => exact (by kernel_rfl : (Instr.index 99 tabV (.int .i64 (8 : Nat))).run Try.prog w = .ok (tval (trn 8)) w)
  | 9, _ => exact (by kernel_rfl : (Instr.index 99 tabV (.int .i64 (9 : Nat))).run Try.prog w = .ok (tval (trn 9)) w)
  | 10, _ => exact (by kernel_rfl : (Instr.index 99 tabV (.int .i64 (10 : Nat))).run Try.prog w = .ok (tval (trn 10)) w)
  | 11, _ => exact (by kernel_rfl : (Instr.index 99 tabV (.int .i64 (11 : Nat))).run Try.prog w = .ok (tval (trn 11)) w)
  | 12, _ => exact (by kernel_rfl : (Instr.index 99 tabV (.int .i64 (12 : Nat))).run Try.prog w = .ok (tval (trn 12)) w)
  | 13, _ => exact (by kernel_rfl : (Instr.index 99 tabV (.int .i64 (13 : Nat))).run Try.prog w = .ok (tval (trn 13)) w)
  | 14, _ => exact (by kernel_rfl : (Instr.index 99 tabV (.int .i64 (14 : Nat))).run Try.prog w = .ok (tval (trn 14)) w)
  | 15, _ => exact (by kernel_rfl : (Instr.index 99 tabV (.int .i64 (15 : Nat))).run Try.prog w = .ok (tval (trn 15)) w)
  | 16, _ => exact (by kernel_rfl : (Instr.index 99 tabV (.int .i64 (16 : Nat))).run Try.prog w = .ok (tval (trn 16)) w)
  | 17, _ => exact (by kernel_rfl : (Instr.index 99 tabV (.int .i64 (17 : Nat))).run Try.prog w = .ok (tval (trn 17)) w)
  | 18, _ => exact (by kernel_rfl : (Instr.index 99 tabV (.int .i64 (18 : Nat))).run Try.prog w = .ok (tval (trn 18)) w)
  | 19, _ => exact (by kernel_rfl : (Instr.index 99 tabV (.int .i64 (19 : Nat))).run Try.prog w = .ok (tval (trn 19)) w)
  | 20, _ => exact (by kernel_rfl : (Instr.index 99 tabV (.int .i64 (20 : Nat))).run Try.prog w = .ok (tval (trn 20)) w)
  | 21, _ => exact (by kernel_rfl : (Instr.index 99 tabV (.int .i64 (21 : Nat))).run Try.prog w = .ok (tval (trn 21)) w)
  | 22, _ => exact (by kernel_rfl : (Instr.index 99 tabV (.int .i64 (22 : Nat))).run Try.prog w = .ok (tval (trn 22)) w)
  | 23, _ => exact (by kernel_rfl : (Instr.index 99 tabV (.int .i64 (23 : Nat))).run Try.prog w = .ok (tval (trn 23)) w)
  | 24, _ => exact (by kernel_rfl : (Instr.index 99 tabV (.int .i64 (24 : Nat))).run Try.prog w = .ok (tval (trn 24)) w)
  | 25, _ => exact (by kernel_rfl : (Instr.index 99 tabV (.int .i64 (25 : Nat))).run Try.prog w = .ok (tval (trn 25)) w)
  | 26, _ => exact (by kernel_rfl : (Instr.index 99 tabV (.int .i64 (26 : Nat))).run Try.prog w = .ok (tval (trn 26)) w)
  | 27, _ => exact (by kernel_rfl : (Instr.index 99 tabV (.int .i64 (27 : Nat))).run Try.prog w = .ok (tval (trn 27)) w)
  | 28, _ => exact (by kernel_rfl : (Instr.index 99 tabV (.int .i64 (28 : Nat))).run Try.prog w = .ok (tval (trn 28)) w)
  | 29, _ => exact (by kernel_rfl : (Instr.index 99 tabV (.int .i64 (29 : Nat))).run Try.prog w = .ok (tval (trn 29)) w)
  | 30, _ => exact (by kernel_rfl : (Instr.index 99 tabV (.int .i64 (30 : Nat))).run Try.prog w = .ok (tval (trn 30)) w)
  | 31, _ => exact (by kernel_rfl : (Instr.index 99 tabV (.int .i64 (31 : Nat))).run Try.prog w = .ok (tval (trn 31)) w)
  | 32, _ => exact (by kernel_rfl : (Instr.index 99 tabV (.int .i64 (32 : Nat))).run Try.prog w = .ok (tval (trn 32)) w)
  | 33, _ => exact (by kernel_rfl : (Instr.index 99 tabV (.int .i64 (33 : Nat))).run Try.prog w = .ok (tval (trn 33)) w)
  | 34, _ => exact (by kernel_rfl : (Instr.index 99 tabV (.int .i64 (34 : Nat))).run Try.prog w = .ok (tval (trn 34)) w)
  | 35, _ => exact (by kernel_rfl : (Instr.index 99 tabV (.int .i64 (35 : Nat))).run Try.prog w = .ok (tval (trn 35)) w)
  | n + 36, h => omega
theorem table_val (w : World) : Calls Try.prog 52 #[] w fun e w' => e = .returned tabV ∧ Ext w w' := table_any w
/-- What an angle's number gives. -/
def angS (n : Int) : Int × Int × Int := if 0 ≤ n ∧ n < 36 then trn n.toNat else (0, 0, 0)
def angE (n : Int) : Int := if 0 ≤ n ∧ n < 36 then 0 else 2
theorem ang_nat {n : Nat} (h : n < 36) : angS n = trn n ∧ angE n = 0 := by
  unfold angS angE
  rw [if_pos (by omega), if_pos (by omega)]
  exact ⟨rfl, rfl⟩
theorem ang_bad {n : Int} (h : ¬ (0 ≤ n ∧ n < 36)) : angS n = (0, 0, 0) ∧ angE n = 2 := by
  unfold angS angE
  rw [if_neg h, if_neg h]
  exact ⟨rfl, rfl⟩
abbrev angV (n : Int) : Value := .tuple #[.int .i64 (angS n).1, .int .i64 (angS n).2.1, .int .i64 (angS n).2.2, .int .i64 (angE n)]
theorem results_four {fn : Func} {a b c d : Tmp} (h : fn.results = #[.tmp a, .tmp b, .tmp c, .tmp d]) (tmps : Array Value) (w : World) :
    (results fn tmps).run Try.prog w = .ok (.tuple #[tmps.getD a undef, tmps.getD b undef, tmps.getD c undef, tmps.getD d undef]) w := by
  simp [results, h]
theorem ret_angle {p q r e : Int} {n : Int} (h1 : (p, q, r) = angS n) (h2 : e = angE n) : Ending.returned (.tuple #[.int .i64 p, .int .i64 q, .int .i64 r, .int .i64 e]) = .returned (angV n) := by
  unfold angV
  rw [← h1, h2]

set_option maxHeartbeats 1000000 in
theorem angle_any (n : Int) (w : World) : Calls Try.prog 23 #[.int .i64 n] w fun e w' => e = .returned (angV n) ∧ Ext w w' := by
  by_cases hn : 0 ≤ n ∧ n < 36
  · obtain ⟨m, rfl⟩ : ∃ m : Nat, n = m := ⟨n.toNat, by omega⟩
    have hm : m < 36 := by omega
    obtain ⟨a1, a2⟩ := ang_nat hm
    have hi := fun w' => index_tab m hm w'
    have hfin := ret_angle (n := (m : Int)) (p := (trn m).1) (q := (trn m).2.1) (r := (trn m).2.2) a1.symm a2.symm
    have Hfin := Lib.hid hfin
    have ht := table_val
    have Ht := Lib.hid ht
    clear hfin a1 a2 hn ht
    generalize angV (m : Int) = V at *
    generalize trn m = t at *
    generalize tabV = T at *
    obtain ⟨p, q, r⟩ := t
    have b1 : (m : Int) < 36 := by omega
    go_enter Try.func23, Try.ntmps23
    go_wp2_with (go_at_call 52; refine (Ht.out _).mono ?_; rintro e w1 ⟨rfl, h1⟩)
    go_quiet (fail)
    go_wp2
    (try simp only [Exit.inBlock, Exit.then])
    refine bodyPost_ret (results_four rfl _ _) rfl ?_
    exact ⟨Hfin.out, h1.trans (by simp)⟩
  · obtain ⟨a1, a2⟩ := ang_bad hn
    have hfin := ret_angle (n := n) a1.symm a2.symm
    have Hfin := Lib.hid hfin
    clear hfin a1 a2
    generalize angV n = V at *
    by_cases h0 : n < 0
    · have d0 : decide (n < 0) = true := by simpa using h0
      go_enter Try.func23, Try.ntmps23
      go_wp2
      (try simp only [Exit.inBlock, Exit.then])
      refine bodyPost_ret (results_four rfl _ _) rfl ?_
      exact ⟨Hfin.out, by simp⟩
    · have d0 : decide (n < 0) = false := by simpa using h0
      have d1 : 36 ≤ n := by omega
      go_enter Try.func23, Try.ntmps23
      go_wp2
      (try simp only [Exit.inBlock, Exit.then])
      refine bodyPost_ret (results_four rfl _ _) rfl ?_
      exact ⟨Hfin.out, by simp⟩
set_option maxHeartbeats 1000000 in
theorem angle_ref (n : Int) (w : World) : Calls Try.prog 24 #[.int .i64 n] w fun e w' => e = .returned (angV n) ∧ Ext w w' := by
  by_cases hn : 0 ≤ n ∧ n < 36
  · obtain ⟨m, rfl⟩ : ∃ m : Nat, n = m := ⟨n.toNat, by omega⟩
    have hm : m < 36 := by omega
    obtain ⟨a1, a2⟩ := ang_nat hm
    have hwi : withinB (m : Int) 0 35 = true := withinB_true.2 (by omega)
    have hfin := ret_angle (n := (m : Int)) (p := (trn m).1) (q := (trn m).2.1) (r := (trn m).2.2) a1.symm a2.symm
    have Hfin := Lib.hid hfin
    have hat := fun (w' : World) (A : Option Addr) (h : TRow w' A turns) => TRow.at_ h (k := m) hm
    have htn : tAt turns m = trn m := rfl
    rw [htn] at hat
    have Hat := Lib.hid hat
    clear hfin a1 a2 hn hat htn
    generalize angV (m : Int) = V at *
    generalize trn m = t at *
    obtain ⟨p, q, r⟩ := t
    have b1 : (m : Int) < 36 := by omega
    go_enter Try.func24, Try.ntmps24
    go_wp2_with (first
      | (go_at_call 58; refine (within_any _ _ _ _).mono ?_; rintro e w' ⟨rfl, rfl⟩)
      | (go_at_call 59; refine (turns_ref _).mono ?_; rintro e w1 ⟨A, c, rfl, hrow, h1⟩; obtain ⟨ad, rfl, c0, c1, c2⟩ := Hat.out w1 A hrow))
    go_quiet (fail)
    go_wp2
    (try simp only [Exit.inBlock, Exit.then])
    refine bodyPost_ret (results_four rfl _ _) rfl ?_
    exact ⟨Hfin.out, h1.trans (by simp)⟩
  · obtain ⟨a1, a2⟩ := ang_bad hn
    have hwi : withinB n 0 35 = false := withinB_false.2 (by omega)
    have hfin := ret_angle (n := n) a1.symm a2.symm
    have Hfin := Lib.hid hfin
    clear hfin a1 a2
    generalize angV n = V at *
    go_enter Try.func24, Try.ntmps24
    go_wp2_with (go_at_call 58; refine (within_any _ _ _ _).mono ?_; rintro e w' ⟨rfl, rfl⟩)
    (try simp only [Exit.inBlock, Exit.then])
    refine bodyPost_ret (results_four rfl _ _) rfl ?_
    exact ⟨Hfin.out, by simp⟩
end Go.Proofs.Yteilglljigjefaa

/- Regions that draw their order, whose operations read, call, and write the call's own memory: as XCalm, with any kind of growth in the place of 'holds all that w holds'. No program in sight. -/
namespace Go.Proofs.Yteilglljigjefaa
open Go.RowKit
namespace Cw

/-- A kind of growth. -/
structure Pre where
  R : World → World → Prop
  refl : ∀ w, R w w
  trans : ∀ {a b c}, R a b → R b c → R a c
  drawn : ∀ {a w : World}, R a w → ∀ n, R a { w with drawn := n }

/-! ### The theory -/

def Sat (p : Pre) (w0 : World) (F : Fx) : Prop := ∃ w, p.R w0 w ∧ ∀ k, F k w

def calmUpon (p : Pre) (P : Program) (w : World) (Sj : Array Value → Value → World → Prop) : Result Next → Prop
  | .ok (.value _) w' => p.R w w'
  | .ok .skip w' => p.R w w'
  | .ok (.enter f args) w' => Calls P f args w' (fun e w'' => ∃ v, e = .returned v ∧ p.R w w'' ∧ Sj args v w'')
  | _ => False

def gives (p : Pre) (Sj : Array Value → Value → World → Prop) (v : Value) (w' : World) : Result Next → Prop
  | .ok (.value u) w2 => v = u ∧ p.R w2 w'
  | .ok .skip w2 => v = undef ∧ p.R w2 w'
  | .ok (.enter _ args) _ => Sj args v w'
  | _ => False

section
variable (p : Pre) (P : Program) (ops : Array Oper) (S : Spec) (w0 : World)

def Rel (x : Sem Next) (fj : World → Prop) (Sj : Array Value → Value → World → Prop) (v : Value) (w' : World) : Prop :=
  ∃ w1, p.R w0 w1 ∧ fj w1 ∧ gives p Sj v w' (x.run P w1)

def YC (j : Nat) (o : Oper) (a : Act) (F : Fx) : Prop :=
  Region.wanted o (yielded ops a.tmps) = true → ∀ w, p.R w0 w → facts ops F j w → calmUpon p P w (S j) ((execOp a.eval o).run P w)

def Cont (j : Nat) (o : Oper) (a : Act) (F : Fx) (K : Act → Fx → Prop) : Prop :=
  (Region.wanted o (yielded ops a.tmps) = true → ∀ v, Sat p w0 (F.put j (Rel p P w0 (execOp a.eval o) (facts ops F j) (S j) v)) →
    K (a.put o.dst v) (F.put j (Rel p P w0 (execOp a.eval o) (facts ops F j) (S j) v))) ∧
  (Region.wanted o (yielded ops a.tmps) = false → K (a.put o.dst undef) F)

def cOp (j : Nat) (K : Act → Fx → Prop) (a : Act) (F : Fx) : Prop :=
  ∃ o, ops[j]? = some o ∧ YC p P ops S w0 j o a F ∧ Cont p P ops S w0 j o a F K

def wpCalm (Q : Act → Fx → Prop) : List Oper → Nat → Act → Fx → Prop
  | [], _, a, F => Q a F
  | o :: rest, k, a, F => YC p P ops S w0 k o a F ∧ Cont p P ops S w0 k o a F (wpCalm Q rest (k + 1))

def wpAnyC (n : Nat) (L : Array Bool → Act → Fx → Prop) : Nat → Array Bool → Act → Fx → Prop
  | 0, listed, a, F => L listed a F
  | f + 1, listed, a, F =>
    Region.ready .any ops listed ≠ [] ∧ ∀ i ∈ Region.ready .any ops listed, i < n ∧ cOp p P ops S w0 i (wpAnyC n L f (listed.setIfInBounds i true)) a F
end

def StableF (p : Pre) (F : Fx) : Prop := ∀ k w w', p.R w w' → F k w → F k w'
def StableS (p : Pre) (S : Spec) : Prop := ∀ j args v w w', p.R w w' → S j args v w → S j args v w'

section
variable {p : Pre} {P : Program} {ops : Array Oper} {S : Spec} {w0 : World}

theorem gives_stable {Sj : Array Value → Value → World → Prop} (hS : ∀ args v w w', p.R w w' → Sj args v w → Sj args v w') {v : Value} {w w' : World} {r : Result Next} (he : p.R w w') (h : gives p Sj v w r) : gives p Sj v w' r := by
  unfold gives at *
  split at h
  · exact ⟨h.1, p.trans h.2 he⟩
  · exact ⟨h.1, p.trans h.2 he⟩
  · exact hS _ _ _ _ he h
  · exact h.elim

theorem StableF.put {F : Fx} (h : StableF p F) {i : Nat} {T : World → Prop} (hT : ∀ w w', p.R w w' → T w → T w') : StableF p (F.put i T) :=
  fun k w w' he hk => ⟨h k w w' he hk.1, fun e => hT _ _ he (hk.2 e)⟩

theorem rel_stable (hS : StableS p S) {x : Sem Next} {fj : World → Prop} {j : Nat} {v : Value} : ∀ w w', p.R w w' → Rel p P w0 x fj (S j) v w → Rel p P w0 x fj (S j) v w' :=
  fun _ _ he ⟨w1, h1, h2, h3⟩ => ⟨w1, h1, h2, gives_stable (hS j) he h3⟩

/-- From an actual world: the operation runs, and what comes out is related. -/
theorem wp_of_calm {o : Oper} {a : Act} {w : World} {j : Nat} {fj : World → Prop} {K' : Act → World → Prop} {Q' : Exit → Act → World → Prop}
    (he : p.R w0 w) (hf : fj w) (hu : calmUpon p P w (S j) ((execOp a.eval o).run P w))
    (h : ∀ v w', p.R w w' → Rel p P w0 (execOp a.eval o) fj (S j) v w' → K' (a.put o.dst v) w') : o.wp P a w K' Q' := by
  have h' : ∀ v w', p.R w w' → gives p (S j) v w' ((execOp a.eval o).run P w) → K' (a.put o.dst v) w' := fun v w' h1 h2 => h v w' h1 ⟨w, he, hf, h2⟩
  clear h
  unfold Oper.wp
  generalize (execOp a.eval o).run P w = r at *
  cases r with
  | ok n w' =>
    cases n <;> simp only [calmUpon] at hu <;> simp only [Oper.upon]
    case value u => exact h' _ _ hu ⟨rfl, p.refl _⟩
    case skip => exact h' _ _ hu ⟨rfl, p.refl _⟩
    case enter f args => exact hu.mono fun e w'' ⟨v, he', hx, hs⟩ => by subst he'; exact h' _ _ hx hs
  | halt x w' => simp only [calmUpon] at hu

/-- There is a value that comes out. -/
theorem exists_of_calm {x : Sem Next} {w : World} {j : Nat} {fj : World → Prop} (he : p.R w0 w) (hf : fj w) (hu : calmUpon p P w (S j) (x.run P w)) :
    ∃ v w', p.R w w' ∧ Rel p P w0 x fj (S j) v w' := by
  have key : ∃ v w', p.R w w' ∧ gives p (S j) v w' (x.run P w) := by
    generalize x.run P w = r at *
    cases r with
    | ok n w' =>
      cases n <;> simp only [calmUpon] at hu
      case value u => exact ⟨u, w', hu, rfl, p.refl _⟩
      case skip => exact ⟨undef, w', hu, rfl, p.refl _⟩
      case enter f args =>
        obtain ⟨e, w'', _, ⟨v, _, hx, hs⟩, _⟩ := hu []
        exact ⟨v, w'', hx, hs⟩
    | halt x w' => simp only [calmUpon] at hu
  obtain ⟨v, w', h1, h2⟩ := key
  exact ⟨v, w', h1, w, he, hf, h2⟩

theorem wpOp_of_cOp {j : Nat} {a : Act} {F : Fx} {w : World} {K : Act → Fx → Prop} {K' : Act → World → Prop} {Q' : Exit → Act → World → Prop} (hS : StableS p S)
    (he : p.R w0 w) (hF : ∀ k, F k w) (hst : StableF p F) (h : ∀ a F w', p.R w0 w' → (∀ k, F k w') → StableF p F → K a F → K' a w') (hc : cOp p P ops S w0 j K a F) : wpOp P ops Q' j K' a w := by
  obtain ⟨o, ho, hy, hn⟩ := hc
  unfold wpOp
  simp only [ho]
  cases hw : Region.wanted o (yielded ops a.tmps) with
  | true =>
    simp only [if_true]
    refine .inl (wp_of_calm (S := S) (j := j) (fj := facts ops F j) he (fun k _ => hF k) (hy hw w he (fun k _ => hF k)) fun v w' hx hr => ?_)
    have hx0 := p.trans he hx
    have hF' : ∀ k, (F.put j (Rel p P w0 (execOp a.eval o) (facts ops F j) (S j) v)) k w' := fun k => ⟨hst _ _ _ hx (hF k), fun _ => hr⟩
    exact h _ _ _ hx0 hF' (hst.put (rel_stable hS)) (hn.1 hw v ⟨w', hx0, hF'⟩)
  | false =>
    simp only [Bool.false_eq_true, if_false]
    exact h _ _ _ he hF hst (hn.2 hw)

theorem wpAny_of_headC {n g : Nat} {L : Array Bool → Act → Fx → Prop} {Q' : Exit → Act → World → Prop} (hS : StableS p S)
    (hL : ∀ listed a F w, p.R w0 w → (∀ k, F k w) → L listed a F → wpAny P .any ops Q' g listed a w) :
    ∀ (f : Nat) (listed : Array Bool) (a : Act) (F : Fx) (w : World), p.R w0 w → (∀ k, F k w) → StableF p F → wpAnyC p P ops S w0 n L f listed a F → wpAny P .any ops Q' (f + g) listed a w
  | 0, listed, a, F, w, he, hF, _, h => by rw [Nat.zero_add]; exact hL _ _ _ _ he hF h
  | f + 1, listed, a, F, w, he, hF, hst, h => by
    rw [show f + 1 + g = (f + g) + 1 by omega]
    exact ⟨fun h0 => absurd h0 h.1, fun i hi => wpOp_of_cOp hS he hF hst (fun a' F' w' he' hF' hst' h' => wpAny_of_headC hS hL f _ a' F' w' he' hF' hst' h') (h.2 i hi).2⟩

theorem wpAnyC_first {n i : Nat} {oi : Oper} {L : Array Bool → Act → Fx → Prop} (hS : StableS p S) (hi : ops[i]? = some oi) (hsel : ∀ (j : Nat) (o : Oper) cs b, ops[j]? = some o → o.op ≠ .select cs b)
    (htail : ∀ listed, HeadInv .any ops n listed → ∀ i, i < n → listed.getD i true = false → ∀ t, n ≤ t → t ∉ Region.ready .any ops listed) (hin : i < n)
    (hdone : ∀ listed a F, L listed a F → ∀ j ∈ Region.ready .any ops listed, n ≤ j) :
    ∀ (f : Nat) (listed : Array Bool) (a : Act) (F : Fx), HeadInv .any ops n listed →
      (∀ j oj, ops[j]? = some oj → j ≠ i → listed.getD j true = false → (∀ e ∈ oj.after, Region.binds .any e = true → e.on ≠ i) → oi.apart ops oj = true) →
      i ∈ Region.ready .any ops listed → Sat p w0 F → StableF p F → YC p P ops S w0 i oi a F →
      Cont p P ops S w0 i oi a F (wpAnyC p P ops S w0 n L f (listed.setIfInBounds i true)) → wpAnyC p P ops S w0 n L (f + 1) listed a F := by
  intro f
  induction f with
  | zero =>
    intro listed a F inv _ hr hsat hst hy H
    have hun := (mem_ready.1 hr).1
    refine ⟨fun h => (by rw [h] at hr; cases hr), fun j hj => ?_⟩
    have hjn : j < n := by
      rcases Nat.lt_or_ge j n with h | h
      · exact h
      · exact absurd hj (htail listed inv i hin hun j h)
    refine ⟨hjn, ?_⟩
    by_cases hji : j = i
    · subst hji; exact ⟨oi, hi, hy, H⟩
    · exfalso
      have hL : ∃ a' F', L (listed.setIfInBounds i true) a' F' := by
        cases hw : Region.wanted oi (yielded ops a.tmps) with
        | true =>
          obtain ⟨w, he, hF⟩ := hsat
          obtain ⟨v, w', hx, hrel⟩ := exists_of_calm (fj := facts ops F i) he (fun k _ => hF k) (hy hw w he (fun k _ => hF k))
          exact ⟨_, _, H.1 hw v ⟨w', p.trans he hx, fun k => ⟨hst _ _ _ hx (hF k), fun _ => hrel⟩⟩⟩
        | false => exact ⟨_, _, H.2 hw⟩
      obtain ⟨a', F', hl⟩ := hL
      have := hdone _ _ _ hl j (ready_mono hj hji)
      omega
  | succ f ih =>
    intro listed a F inv hfree hr hsat hst hy H
    have hun := (mem_ready.1 hr).1
    refine ⟨fun h => (by rw [h] at hr; cases hr), fun j hj => ?_⟩
    have hjn : j < n := by
      rcases Nat.lt_or_ge j n with h | h
      · exact h
      · exact absurd hj (htail listed inv i hin hun j h)
    refine ⟨hjn, ?_⟩
    by_cases hji : j = i
    · subst hji; exact ⟨oi, hi, hy, H⟩
    · obtain ⟨hjun, oj, hoj, hall⟩ := mem_ready.1 hj
      have hnot : ∀ e ∈ oj.after, Region.binds .any e = true → e.on ≠ i := fun e he hb heq => by
        have h1 := hall e he hb
        rw [heq, getD_both hun] at h1
        cases h1
      obtain ⟨p1, p2, p3⟩ := Oper.apart_spec (hfree j oj hoj hji hjun hnot)
      have hsi := fun cs b => hsel i oi cs b hi
      have hsj := fun cs b => hsel j oj cs b hoj
      have bji : befB ops 3 j i = false := not_bef inv hj hun
      have bij : befB ops 3 i j = false := not_bef inv hr hjun
      -- what the head's continuation says of operation j behind operation i, at whatever value
      have after_i : ∀ a' F', wpAnyC p P ops S w0 n L (f + 1) (listed.setIfInBounds i true) a' F' → YC p P ops S w0 j oj a' F' ∧ Cont p P ops S w0 j oj a' F' (wpAnyC p P ops S w0 n L f ((listed.setIfInBounds i true).setIfInBounds j true)) := by
        intro a' F' h
        obtain ⟨_, o, ho, h1, h2⟩ := h.2 j (ready_mono hj hji)
        have : o = oj := Option.some.inj (ho.symm.trans hoj)
        subst this
        exact ⟨h1, h2⟩
      have wj : ∀ u, Region.wanted oj (yielded ops (a.put oi.dst u).tmps) = Region.wanted oj (yielded ops a.tmps) := fun u => wanted_put oj a oi.dst u p1
      have xj : ∀ u, execOp (a.put oi.dst u).eval oj = execOp a.eval oj := fun u => execOp_put oj hsj a oi.dst u p1
      have wi : ∀ u, Region.wanted oi (yielded ops (a.put oj.dst u).tmps) = Region.wanted oi (yielded ops a.tmps) := fun u => wanted_put oi a oj.dst u p3
      have xi : ∀ u, execOp (a.put oj.dst u).eval oi = execOp a.eval oi := fun u => execOp_put oi hsi a oj.dst u p3
      -- operation j yields now, too
      have yj : YC p P ops S w0 j oj a F := by
        intro hwj
        cases hw : Region.wanted oi (yielded ops a.tmps) with
        | true =>
          obtain ⟨w, he, hF⟩ := hsat
          obtain ⟨v, w', hx, hrel⟩ := exists_of_calm (fj := facts ops F i) he (fun k _ => hF k) (hy hw w he (fun k _ => hF k))
          have h1 := (after_i _ _ (H.1 hw v ⟨w', p.trans he hx, fun k => ⟨hst _ _ _ hx (hF k), fun _ => hrel⟩⟩)).1
          unfold YC at h1
          rw [wj, xj, facts_put bji] at h1
          exact h1 hwj
        | false =>
          have h1 := (after_i _ _ (H.2 hw)).1
          unfold YC at h1
          rw [wj, xj] at h1
          exact h1 hwj
      have hfree' : ∀ k ok, ops[k]? = some ok → k ≠ i → (listed.setIfInBounds j true).getD k true = false →
          (∀ e ∈ ok.after, Region.binds .any e = true → e.on ≠ i) → oi.apart ops ok = true := fun k ok hk hki hun' hno => by
        refine hfree k ok hk hki ?_ hno
        by_cases hjk : j = k
        · subst hjk; exact hjun
        · rw [getD_set_ne true hjk] at hun'; exact hun'
      refine ⟨oj, hoj, yj, fun hwj u hsu => ?_, fun hwj => ?_⟩
      · -- operation j is taken, with u
        generalize hFj : F.put j (Rel p P w0 (execOp a.eval oj) (facts ops F j) (S j) u) = Fj at *
        have hfi : facts ops Fj i = facts ops F i := by rw [← hFj]; exact facts_put bij
        have hstj : StableF p Fj := by rw [← hFj]; exact hst.put (rel_stable hS)
        refine ih (listed.setIfInBounds j true) (a.put oj.dst u) Fj (inv.set hj hjn) hfree' (ready_mono hr (Ne.symm hji)) hsu hstj ?_ ⟨fun hwi v hsv => ?_, fun hwi => ?_⟩
        · unfold YC
          rw [wi, xi, hfi]
          exact hy
        · rw [wi] at hwi
          rw [xi, hfi] at hsv ⊢
          obtain ⟨w, he, hw⟩ := hsv
          have hsi : Sat p w0 (F.put i (Rel p P w0 (execOp a.eval oi) (facts ops F i) (S i) v)) := by
            refine ⟨w, he, fun k => ⟨?_, fun e => (hw k).2 e⟩⟩
            have := (hw k).1
            rw [← hFj] at this
            exact this.1
          have h2 := (after_i _ _ (H.1 hwi v hsi)).2.1
          rw [wj, xj, facts_put bji] at h2
          have h3 := h2 hwj u ⟨w, he, fun k => ⟨⟨by have := (hw k).1; rw [← hFj] at this; exact this.1, fun e => (hw k).2 e⟩, fun e => by have := (hw k).1; rw [← hFj] at this; exact this.2 e⟩⟩
          rw [Array.setIfInBounds_comm _ _ hji, ← hFj, Fx.put_comm, Act.put_comm a u v (fun d hd hd' => p2 d hd' hd)]
          exact h3
        · rw [wi] at hwi
          have h2 := (after_i _ _ (H.2 hwi)).2.1
          rw [wj, xj] at h2
          have h3 := h2 hwj u (by rw [hFj]; exact hsu)
          rw [Array.setIfInBounds_comm _ _ hji, ← hFj, Act.put_comm a u undef (fun d hd hd' => p2 d hd' hd)]
          exact h3
      · refine ih (listed.setIfInBounds j true) (a.put oj.dst undef) F (inv.set hj hjn) hfree' (ready_mono hr (Ne.symm hji)) hsat hst ?_ ⟨fun hwi v hsv => ?_, fun hwi => ?_⟩
        · unfold YC
          rw [wi, xi]
          exact hy
        · rw [wi] at hwi
          rw [xi] at hsv ⊢
          have h2 := (after_i _ _ (H.1 hwi v hsv)).2.2
          rw [wj] at h2
          have h3 := h2 hwj
          rw [Array.setIfInBounds_comm _ _ hji, Act.put_comm a undef v (fun d hd hd' => p2 d hd' hd)]
          exact h3
        · rw [wi] at hwi
          have h2 := (after_i _ _ (H.2 hwi)).2.2
          rw [wj] at h2
          have h3 := h2 hwj
          rw [Array.setIfInBounds_comm _ _ hji, Act.put_comm a undef undef (fun d hd hd' => p2 d hd' hd)]
          exact h3
end

/-! ### The order of the text, and a tail that is forced -/

section
variable {p : Pre} {P : Program} {ops : Array Oper} {S : Spec} {w0 : World}

theorem Cont.sat {K K' : Act → Fx → Prop} {j : Nat} {o : Oper} {a : Act} {F : Fx} (hS : StableS p S) (hst : StableF p F) (h : ∀ a F, Sat p w0 F → StableF p F → K a F → K' a F) (hs : Sat p w0 F) (hc : Cont p P ops S w0 j o a F K) : Cont p P ops S w0 j o a F K' :=
  ⟨fun hw v hv => h _ _ hv (hst.put (rel_stable hS)) (hc.1 hw v hv), fun hw => h _ _ hs hst (hc.2 hw)⟩

theorem wpAnyC_lex {n g : Nat} {Lq : Act → Fx → Prop} (hS : StableS p S) (hsel : Region.noSelect ops = true)
    (htail : ∀ listed, HeadInv .any ops n listed → ∀ i, i < n → listed.getD i true = false → ∀ t, n ≤ t → t ∉ Region.ready .any ops listed) :
    ∀ (l : List Oper) (k : Nat) (listed : Array Bool) (a : Act) (F : Fx), (∀ j, j < l.length → l[j]? = ops[k + j]?) → k + l.length = n → HeadInv .any ops n listed →
    Region.lexHead .any ops g l.length k listed = true → Sat p w0 F → StableF p F → wpCalm p P ops S w0 Lq l k a F →
    wpAnyC p P ops S w0 n (fun listed' a' F' => Region.seqB .any ops g n listed' = true ∧ Lq a' F') l.length listed a F
  | [], k, listed, a, F, _, hk, _, hB, _, _, h => by
    have : k = n := by simpa using hk
    subst this
    exact ⟨by simpa [Region.lexHead] using hB, h⟩
  | o :: l, k, listed, a, F, hl, hk, inv, hB, hs, hst, h => by
    have h0 : ops[k]? = some o := by simpa using (hl 0 (by simp)).symm
    simp only [List.length_cons, Region.lexHead, Bool.and_eq_true] at hB
    obtain ⟨⟨hr, hf⟩, hB'⟩ := hB
    have hkn : k < n := by simp only [List.length_cons] at hk; omega
    have hr' : k ∈ Region.ready .any ops listed := by simpa using hr
    refine wpAnyC_first hS h0 (Region.noSelect_spec hsel) htail hkn (fun listed' a' F' hL => seqB_ready hL.1) l.length listed a F inv (Region.free_spec h0 hf) hr' hs hst h.1 ?_
    exact Cont.sat hS hst (fun a' F' hs' hst' hK => wpAnyC_lex hS hsel htail l (k + 1) _ a' F' (fun j hj => by have := hl (j + 1) (by simp; omega); simpa [Nat.add_assoc, Nat.add_comm 1 j] using this)
      (by simp only [List.length_cons] at hk; omega) (inv.set hr' hkn) hB' hs' hst' hK) hs h.2

theorem wp_region_calm {id : Nat} {Q : Exit → Act → World → Prop} {a : Act} {w : World} {l : List Oper} (n : Nat) (S : Spec) (hS : StableS p S) (hm : P.follows .mixedOrders = true) (hB : calmB l.toArray n = true)
    (h : wpCalm p P l.toArray S w (fun a' F => ∀ w', p.R w w' → (∀ k, F k w') → wpList P l.toArray Q (l.drop n) a' w') (l.take n) 0 a (fun _ _ => True)) : (Code.region id l.toArray true).wp P Q a w := by
  simp only [calmB, Bool.and_eq_true, Bool.or_eq_true, decide_eq_true_eq] at hB
  obtain ⟨⟨hsel, hn⟩, hlex⟩ := hB
  have hn' : n ≤ l.length := by
    rcases hn with h1 | h1
    · rw [h1]; simp
    · have := h1.1.1; simp at this; omega
  have htl : (l.take n).length = n := by simp; omega
  have hdl : (l.drop n).length = l.toArray.size - n := by simp
  have htail := calm_tail (ops := l.toArray) (n := n) (by rcases hn with h1 | h1; exact .inl h1; exact .inr ⟨h1.1.1, h1.1.2, h1.2⟩)
  have inv0 : HeadInv .any l.toArray n (Array.replicate l.toArray.size false) :=
    ⟨by simp, fun j oj _ hl => (by rw [getD_replicate_false] at hl; cases hl), fun t _ ht => getD_in (by simpa using ht) (getD_replicate_false _ _)⟩
  have H := wpAnyC_lex (g := l.toArray.size - n) hS hsel htail (l.take n) 0 _ a _ (fun j hj => by
    have hj' : j < n := by rw [htl] at hj; exact hj
    simp [hj']) (by simpa using htl) inv0 (by rw [htl]; exact hlex) ⟨w, p.refl _, fun _ => trivial⟩ (fun _ _ _ _ h => h) h
  refine wp_region_any hm ?_
  have := wpAny_of_headC (P := P) (ops := l.toArray) (S := S) (w0 := w) (n := n) (Q' := Q) (g := l.toArray.size - n) hS (fun listed a' F w1 he hF hL => by
    have := wpAny_of_seq (md := .any) (Q' := Q) (l.drop n) n listed a' w1 (fun j => by simp [List.getElem?_drop]) (by rw [hdl]; exact hL.1) (hL.2 w1 he hF)
    rwa [hdl] at this) (l.take n).length (Array.replicate l.toArray.size false) a (fun _ _ => True) { w with drawn := w.drawn + 1 } (p.drawn (p.refl w) _) (fun _ => trivial) (fun _ _ _ _ h => h) H
  rw [htl, show n + (l.toArray.size - n) = l.toArray.size by omega] at this
  exact this

/-! ### Steps -/

theorem wpCalm_mono {Q : Act → Fx → Prop} (hQ : MonoQ Q) : ∀ (l : List Oper) (k : Nat) (a : Act) (F F' : Fx), (∀ k w, F' k w → F k w) → wpCalm p P ops S w0 Q l k a F → wpCalm p P ops S w0 Q l k a F'
  | [], _, a, F, F', h, hh => hQ a F F' h hh
  | o :: l, k, a, F, F', h, ⟨hy, hn⟩ => by
    have hf : ∀ w, facts ops F' k w → facts ops F k w := fun w hf i hi => h _ _ (hf i hi)
    have hr : ∀ v w, Rel p P w0 (execOp a.eval o) (facts ops F' k) (S k) v w → Rel p P w0 (execOp a.eval o) (facts ops F k) (S k) v w := fun v w ⟨w1, h1, h2, h3⟩ => ⟨w1, h1, hf _ h2, h3⟩
    have hp : ∀ v, ∀ i w, (F'.put k (Rel p P w0 (execOp a.eval o) (facts ops F' k) (S k) v)) i w → (F.put k (Rel p P w0 (execOp a.eval o) (facts ops F k) (S k) v)) i w := fun v i w hh => ⟨h _ _ hh.1, fun e => hr _ _ (hh.2 e)⟩
    exact ⟨fun hw w he hf' => hy hw w he (hf w hf'), fun hw v ⟨w, he, hs⟩ => wpCalm_mono hQ l (k + 1) _ _ _ (hp v) (hn.1 hw v ⟨w, he, fun i => hp v i w (hs i)⟩), fun hw => wpCalm_mono hQ l (k + 1) _ _ _ h (hn.2 hw)⟩

theorem calm_mono_final {Q : Act → World → Prop} : MonoQ (fun a F => ∀ w', p.R w0 w' → (∀ k, F k w') → Q a w') := fun _ _ _ h hq w' he hF => hq w' he (fun k => h _ _ (hF k))

/-- Operations that leave the world alone: by the quiet walk (Derived/Deep/Quiet.lean), in the class of all worlds that hold what w0 holds. -/
theorem calm_chunk {Q : Act → Fx → Prop} (hQ : MonoQ Q) (b : World) (hb : ∀ w, p.R w0 w → Ext b w) : ∀ (l l2 : List Oper) (k : Nat) (a : Act) (F : Fx), (l.all fun o => quietKind o) = true →
    wpQuiet P ops (fun w => ∃ x : Later b, w = x.w) (fun a' => wpCalm p P ops S w0 Q l2 (k + l.length) a' F) l a → wpCalm p P ops S w0 Q (l ++ l2) k a F := by
  intro l
  induction l with
  | nil => intro l2 k a F _ h; exact h
  | cons o l ih =>
    intro l2 k a F hk h
    simp only [List.all_cons, Bool.and_eq_true] at hk
    unfold wpQuiet at h
    have hlen : k + (o :: l).length = (k + 1) + l.length := by simp only [List.length_cons]; omega
    rw [hlen] at h
    cases hw : Region.wanted o (yielded ops a.tmps) with
    | true =>
      rw [hw, if_pos rfl] at h
      obtain ⟨v, h1, h2⟩ := h
      -- what comes out, in any world: v, and nothing else has happened, or (for a row of the model's own) a call
      refine ⟨fun _ w he _ => ?_, fun _ u hu => ?_, fun hf => by rw [hw] at hf; cases hf⟩
      · have h3 := h1 w ⟨⟨w, hb w he⟩, rfl⟩
        have hne := noEnter_of_quietKind (P := P) hk.1 a.eval w
        unfold Oper.quietAt at h3
        generalize (execOp a.eval o).run P w = r at *
        cases r with
        | ok n w' =>
          cases n <;> simp only [Oper.quietUpon] at h3 <;> simp only [calmUpon]
          case value x => obtain ⟨e, _⟩ := h3; rw [e]; exact p.refl _
          case skip => obtain ⟨e, _⟩ := h3; rw [e]; exact p.refl _
          case enter f args => exact hne.elim
        | halt x w' => simp only [Oper.quietUpon] at h3
      · obtain ⟨w, he, hs⟩ := hu
        obtain ⟨w1, he1, _, hg⟩ := (hs k).2 rfl
        have h3 := h1 w1 ⟨⟨w1, hb w1 he1⟩, rfl⟩
        have hne := noEnter_of_quietKind (P := P) hk.1 a.eval w1
        have huv : u = v := by
          unfold Oper.quietAt at h3
          generalize (execOp a.eval o).run P w1 = r at *
          cases r with
          | ok n w' =>
            cases n <;> simp only [Oper.quietUpon] at h3 <;> simp only [gives] at hg
            case value x => rw [hg.1, h3.2]
            case skip => rw [hg.1, h3.2]
            case enter f args => exact hne.elim
          | halt x w' => simp only [Oper.quietUpon] at h3
        subst huv
        exact wpCalm_mono hQ _ _ _ F _ (fun _ _ hh => hh.1) (ih l2 (k + 1) _ F hk.2 h2)
    | false =>
      rw [hw] at h
      exact ⟨fun hf => (by rw [hw] at hf; cases hf), fun hf => (by rw [hw] at hf; cases hf), fun _ => ih l2 (k + 1) _ F hk.2 h⟩

theorem calm_nil {Q : Act → Fx → Prop} {k : Nat} {a : Act} {F : Fx} (h : Q a F) : wpCalm p P ops S w0 Q [] k a F := h

/-- A call of a Go function: its result is any value that S lets by. -/
theorem calm_call {Q : Act → Fx → Prop} {o : Oper} {l : List Oper} {k : Nat} {a : Act} {F : Fx} (hQ : MonoQ Q) (f : FuncId) (args : Array Value) (hw : Region.wanted o (yielded ops a.tmps) = true)
    (hrun : ∀ w, (execOp a.eval o).run P w = .ok (.enter f args) w)
    (hcall : ∀ w, p.R w0 w → facts ops F k w → Calls P f args w (fun e w'' => ∃ v, e = .returned v ∧ p.R w w'' ∧ S k args v w''))
    (hn : ∀ v w', p.R w0 w' → S k args v w' → wpCalm p P ops S w0 Q l (k + 1) (a.put o.dst v) (F.put k (S k args v))) : wpCalm p P ops S w0 Q (o :: l) k a F := by
  refine ⟨fun _ w he hf => ?_, fun _ v hv => ?_, fun hf => by rw [hw] at hf; cases hf⟩
  · rw [hrun]; exact hcall w he hf
  · have hS : ∀ w', Rel p P w0 (execOp a.eval o) (facts ops F k) (S k) v w' → S k args v w' := fun w' ⟨w1, _, _, h⟩ => by rw [hrun] at h; exact h
    obtain ⟨w', he, hs⟩ := hv
    exact wpCalm_mono hQ _ _ _ _ _ (fun i w h => ⟨h.1, fun e => hS _ (h.2 e)⟩) (hn v w' he (hS _ ((hs k).2 rfl)))

/-- The chunk, with its number of operations. -/
theorem calm_quiet {Q : Act → Fx → Prop} (hQ : MonoQ Q) (b : World) (hb : ∀ w, p.R w0 w → Ext b w) (m : Nat) {l : List Oper} {k : Nat} {a : Act} {F : Fx} (hk : ((l.take m).all fun o => quietKind o) = true)
    (h : wpQuiet P ops (fun w => ∃ x : Later b, w = x.w) (fun a' => wpCalm p P ops S w0 Q (l.drop m) (k + (l.take m).length) a' F) (l.take m) a) : wpCalm p P ops S w0 Q l k a F := by
  rw [← List.take_append_drop m l]
  exact calm_chunk hQ b hb _ _ _ _ _ hk h
end

section
variable {p : Pre} {P : Program} {ops : Array Oper} {S : Spec} {w0 : World}
/-- An operation that is not wanted. -/
theorem calm_skip {Q : Act → Fx → Prop} {o : Oper} {l : List Oper} {k : Nat} {a : Act} {F : Fx} (hw : Region.wanted o (yielded ops a.tmps) = false)
    (hn : wpCalm p P ops S w0 Q l (k + 1) (a.put o.dst undef) F) : wpCalm p P ops S w0 Q (o :: l) k a F :=
  ⟨fun h => by (rw [hw] at h; cases h), fun h => by (rw [hw] at h; cases h), fun _ => hn⟩

/-- A store. -/
theorem calm_store {Q : Act → Fx → Prop} {o : Oper} {l : List Oper} {k : Nat} {a : Act} {F : Fx} (hQ : MonoQ Q) (ad : Addr) (u : Value) (hw : Region.wanted o (yielded ops a.tmps) = true)
    (hrun : ∀ w, p.R w0 w → (execOp a.eval o).run P w = .ok .skip (w.setCell ad u))
    (hR : ∀ w, p.R w0 w → p.R w (w.setCell ad u))
    (hn : wpCalm p P ops S w0 Q l (k + 1) (a.put o.dst undef) (F.put k (fun w => ∃ w1, p.R w0 w1 ∧ p.R (w1.setCell ad u) w))) : wpCalm p P ops S w0 Q (o :: l) k a F := by
  refine ⟨fun _ w he _ => ?_, fun _ v hv => ?_, fun hf => by rw [hw] at hf; cases hf⟩
  · rw [hrun w he]; exact hR w he
  · obtain ⟨w', he, hs⟩ := hv
    obtain ⟨w1, he1, _, hg⟩ := (hs k).2 rfl
    rw [hrun w1 he1] at hg
    obtain ⟨rfl, hx⟩ := hg
    refine wpCalm_mono hQ _ _ _ _ _ (fun i w h => ⟨h.1, fun e => ?_⟩) hn
    obtain ⟨w2, h1, _, h2⟩ := h.2 e
    rw [hrun w2 h1] at h2
    exact ⟨w2, h1, h2.2⟩
end
end Cw
end Go.Proofs.Yteilglljigjefaa

/- Regions that draw their order: as XCw, and what some operations make lies apart from what the others make. No program in sight. -/
namespace Go.Proofs.Yteilglljigjefaa
/-- The block of a slice or of a pointer. -/
def pbV : Value → Option Nat
  | .slice (some a) _ _ => some a.block
  | .pointer (some a) => some a.block
  | _ => none
open Go.RowKit
namespace Cg

/-- A kind of growth. -/
structure Pre where
  R : World → World → Prop
  refl : ∀ w, R w w
  trans : ∀ {a b c}, R a b → R b c → R a c
  drawn : ∀ {a w : World}, R a w → ∀ n, R a { w with drawn := n }
  size : ∀ {a b : World}, R a b → a.heap.size ≤ b.heap.size

/-! ### The theory -/

/-- What has been made new. -/
abbrev VV := Value → Prop
def VV.put (fr : Nat → Bool) (V : VV) (j : Nat) (v : Value) : VV := fun u => V u ∨ (fr j = true ∧ u = v)
def InW (V : VV) (w : World) : Prop := ∀ u, V u → ∃ g, pbV u = some g ∧ g < w.heap.size
def Far (V : VV) (v : Value) : Prop := ∀ u, V u → pbV u ≠ pbV v
def New (v : Value) (w w' : World) : Prop := ∃ g, pbV v = some g ∧ w.heap.size ≤ g ∧ g < w'.heap.size
/-- What is known: facts on worlds, and what has been made new. -/
structure Gx where
  F : Fx
  V : VV
def Gx.put (fr : Nat → Bool) (G : Gx) (j : Nat) (T : World → Prop) (v : Value) : Gx := ⟨G.F.put j T, G.V.put fr j v⟩
def Gx.Holds (G : Gx) (w : World) : Prop := (∀ k, G.F k w) ∧ InW G.V w
def Sat (p : Pre) (w0 : World) (G : Gx) : Prop := ∃ w, p.R w0 w ∧ G.Holds w

theorem VV.put_comm (fr : Nat → Bool) (V : VV) (i j : Nat) (u v : Value) : (V.put fr i u).put fr j v = (V.put fr j v).put fr i u := by
  funext x
  apply propext
  constructor
  · rintro ((h | h) | h)
    · exact .inl (.inl h)
    · exact .inr h
    · exact .inl (.inr h)
  · rintro ((h | h) | h)
    · exact .inl (.inl h)
    · exact .inr h
    · exact .inl (.inr h)
theorem InW.put {fr : Nat → Bool} {V : VV} {j : Nat} {v : Value} {w w' : World} (h : InW V w) (hs : w.heap.size ≤ w'.heap.size) (hn : fr j = true → New v w w') : InW (V.put fr j v) w' := fun u hu => by
  rcases hu with hu | ⟨hf, rfl⟩
  · obtain ⟨g, hg, hl⟩ := h u hu
    exact ⟨g, hg, Nat.lt_of_lt_of_le hl hs⟩
  · obtain ⟨g, hg, _, hl⟩ := hn hf
    exact ⟨g, hg, hl⟩
theorem InW.back {fr : Nat → Bool} {V : VV} {j : Nat} {v : Value} {w : World} (h : InW (V.put fr j v) w) : InW V w := fun u hu => h u (.inl hu)
theorem Far.of_new {V : VV} {v : Value} {w w' : World} (h : InW V w) (hn : New v w w') : Far V v := fun u hu e => by
  obtain ⟨g, hg, hl⟩ := h u hu
  obtain ⟨g', hg', hl', _⟩ := hn
  rw [hg, hg'] at e
  injection e with e
  omega
theorem Far.put {fr : Nat → Bool} {V : VV} {i : Nat} {u v : Value} (h : Far V u) (hi : fr i = true → pbV v ≠ pbV u) : Far (V.put fr i v) u := fun x hx => by
  rcases hx with hx | ⟨hf, rfl⟩
  · exact h x hx
  · exact hi hf

theorem Gx.put_comm (fr : Nat → Bool) (G : Gx) (i j : Nat) (R T : World → Prop) (u v : Value) : (G.put fr i R u).put fr j T v = (G.put fr j T v).put fr i R u := by
  unfold Gx.put
  rw [Fx.put_comm, VV.put_comm]

def calmUpon (p : Pre) (P : Program) (w : World) (fj : Bool) (Sj : Array Value → Value → World → Prop) : Result Next → Prop
  | .ok (.value u) w' => p.R w w' ∧ (fj = true → New u w w')
  | .ok .skip w' => p.R w w' ∧ fj = false
  | .ok (.enter f args) w' => Calls P f args w' (fun e w'' => ∃ v, e = .returned v ∧ p.R w w'' ∧ Sj args v w'' ∧ (fj = true → New v w w''))
  | _ => False

def gives (p : Pre) (Sj : Array Value → Value → World → Prop) (v : Value) (w' : World) : Result Next → Prop
  | .ok (.value u) w2 => v = u ∧ p.R w2 w'
  | .ok .skip w2 => v = undef ∧ p.R w2 w'
  | .ok (.enter _ args) _ => Sj args v w'
  | _ => False

section
variable (p : Pre) (P : Program) (ops : Array Oper) (S : Spec) (fr : Nat → Bool) (w0 : World)

def Rel (x : Sem Next) (fj : World → Prop) (Sj : Array Value → Value → World → Prop) (v : Value) (w' : World) : Prop :=
  ∃ w1, p.R w0 w1 ∧ fj w1 ∧ gives p Sj v w' (x.run P w1)

def YC (j : Nat) (o : Oper) (a : Act) (F : Gx) : Prop :=
  Region.wanted o (yielded ops a.tmps) = true → ∀ w, p.R w0 w → facts ops F.F j w → calmUpon p P w (fr j) (S j) ((execOp a.eval o).run P w)

def Cont (j : Nat) (o : Oper) (a : Act) (F : Gx) (K : Act → Gx → Prop) : Prop :=
  (Region.wanted o (yielded ops a.tmps) = true → ∀ v, (fr j = true → Far F.V v) → Sat p w0 (F.put fr j (Rel p P w0 (execOp a.eval o) (facts ops F.F j) (S j) v) v) →
    K (a.put o.dst v) (F.put fr j (Rel p P w0 (execOp a.eval o) (facts ops F.F j) (S j) v) v)) ∧
  (Region.wanted o (yielded ops a.tmps) = false → K (a.put o.dst undef) F)

def cOp (j : Nat) (K : Act → Gx → Prop) (a : Act) (F : Gx) : Prop :=
  ∃ o, ops[j]? = some o ∧ YC p P ops S fr w0 j o a F ∧ Cont p P ops S fr w0 j o a F K

def wpCalm (Q : Act → Gx → Prop) : List Oper → Nat → Act → Gx → Prop
  | [], _, a, F => Q a F
  | o :: rest, k, a, F => YC p P ops S fr w0 k o a F ∧ Cont p P ops S fr w0 k o a F (wpCalm Q rest (k + 1))

def wpAnyC (n : Nat) (L : Array Bool → Act → Gx → Prop) : Nat → Array Bool → Act → Gx → Prop
  | 0, listed, a, F => L listed a F
  | f + 1, listed, a, F =>
    Region.ready .any ops listed ≠ [] ∧ ∀ i ∈ Region.ready .any ops listed, i < n ∧ cOp p P ops S fr w0 i (wpAnyC n L f (listed.setIfInBounds i true)) a F
end

def StableF (p : Pre) (F : Gx) : Prop := ∀ k w w', p.R w w' → F.F k w → F.F k w'
def StableS (p : Pre) (S : Spec) : Prop := ∀ j args v w w', p.R w w' → S j args v w → S j args v w'

section
variable {p : Pre} {P : Program} {ops : Array Oper} {S : Spec} {fr : Nat → Bool} {w0 : World}

theorem gives_stable {Sj : Array Value → Value → World → Prop} (hS : ∀ args v w w', p.R w w' → Sj args v w → Sj args v w') {v : Value} {w w' : World} {r : Result Next} (he : p.R w w') (h : gives p Sj v w r) : gives p Sj v w' r := by
  unfold gives at *
  split at h
  · exact ⟨h.1, p.trans h.2 he⟩
  · exact ⟨h.1, p.trans h.2 he⟩
  · exact hS _ _ _ _ he h
  · exact h.elim

theorem StableF.put {F : Gx} (h : StableF p F) {i : Nat} {T : World → Prop} {v : Value} (hT : ∀ w w', p.R w w' → T w → T w') : StableF p (F.put fr i T v) :=
  fun k w w' he hk => ⟨h k w w' he hk.1, fun e => hT _ _ he (hk.2 e)⟩

theorem rel_stable (hS : StableS p S) {x : Sem Next} {fj : World → Prop} {j : Nat} {v : Value} : ∀ w w', p.R w w' → Rel p P w0 x fj (S j) v w → Rel p P w0 x fj (S j) v w' :=
  fun _ _ he ⟨w1, h1, h2, h3⟩ => ⟨w1, h1, h2, gives_stable (hS j) he h3⟩

/-- From an actual world: the operation runs, and what comes out is related. -/
theorem wp_of_calm {o : Oper} {a : Act} {w : World} {j : Nat} {fj : World → Prop} {K' : Act → World → Prop} {Q' : Exit → Act → World → Prop}
    (he : p.R w0 w) (hf : fj w) (hu : calmUpon p P w (fr j) (S j) ((execOp a.eval o).run P w))
    (h : ∀ v w', p.R w w' → Rel p P w0 (execOp a.eval o) fj (S j) v w' → (fr j = true → New v w w') → K' (a.put o.dst v) w') : o.wp P a w K' Q' := by
  have h' : ∀ v w', p.R w w' → gives p (S j) v w' ((execOp a.eval o).run P w) → (fr j = true → New v w w') → K' (a.put o.dst v) w' := fun v w' h1 h2 => h v w' h1 ⟨w, he, hf, h2⟩
  clear h
  unfold Oper.wp
  generalize (execOp a.eval o).run P w = r at *
  cases r with
  | ok n w' =>
    cases n <;> simp only [calmUpon] at hu <;> simp only [Oper.upon]
    case value u => exact h' _ _ hu.1 ⟨rfl, p.refl _⟩ hu.2
    case skip => exact h' _ _ hu.1 ⟨rfl, p.refl _⟩ (fun e => by rw [hu.2] at e; cases e)
    case enter f args => exact hu.mono fun e w'' ⟨v, he', hx, hs, hn⟩ => by subst he'; exact h' _ _ hx hs hn
  | halt x w' => simp only [calmUpon] at hu

/-- There is a value that comes out. -/
theorem exists_of_calm {x : Sem Next} {w : World} {j : Nat} {fj : World → Prop} (he : p.R w0 w) (hf : fj w) (hu : calmUpon p P w (fr j) (S j) (x.run P w)) :
    ∃ v w', p.R w w' ∧ Rel p P w0 x fj (S j) v w' ∧ (fr j = true → New v w w') := by
  have key : ∃ v w', p.R w w' ∧ gives p (S j) v w' (x.run P w) ∧ (fr j = true → New v w w') := by
    generalize x.run P w = r at *
    cases r with
    | ok n w' =>
      cases n <;> simp only [calmUpon] at hu
      case value u => exact ⟨u, w', hu.1, ⟨rfl, p.refl _⟩, hu.2⟩
      case skip => exact ⟨undef, w', hu.1, ⟨rfl, p.refl _⟩, fun e => by rw [hu.2] at e; cases e⟩
      case enter f args =>
        obtain ⟨e, w'', _, ⟨v, _, hx, hs, hn⟩, _⟩ := hu []
        exact ⟨v, w'', hx, hs, hn⟩
    | halt x w' => simp only [calmUpon] at hu
  obtain ⟨v, w', h1, h2, h3⟩ := key
  exact ⟨v, w', h1, ⟨w, he, hf, h2⟩, h3⟩

/-- Behind the operation all that was known holds, and what it says. -/
theorem Gx.Holds.put {F : Gx} {j : Nat} {T : World → Prop} {v : Value} {w w' : World} (hst : StableF p F) (hF : F.Holds w) (hx : p.R w w') (hT : T w') (hn : fr j = true → New v w w') : (F.put fr j T v).Holds w' :=
  ⟨fun k => ⟨hst _ _ _ hx (hF.1 k), fun _ => hT⟩, hF.2.put (p.size hx) hn⟩

theorem wpOp_of_cOp {j : Nat} {a : Act} {F : Gx} {w : World} {K : Act → Gx → Prop} {K' : Act → World → Prop} {Q' : Exit → Act → World → Prop} (hS : StableS p S)
    (he : p.R w0 w) (hF : F.Holds w) (hst : StableF p F) (h : ∀ a F w', p.R w0 w' → F.Holds w' → StableF p F → K a F → K' a w') (hc : cOp p P ops S fr w0 j K a F) : wpOp P ops Q' j K' a w := by
  obtain ⟨o, ho, hy, hn⟩ := hc
  unfold wpOp
  simp only [ho]
  cases hw : Region.wanted o (yielded ops a.tmps) with
  | true =>
    simp only [if_true]
    refine .inl (wp_of_calm (S := S) (fr := fr) (j := j) (fj := facts ops F.F j) he (fun k _ => hF.1 k) (hy hw w he (fun k _ => hF.1 k)) fun v w' hx hr hnew => ?_)
    have hx0 := p.trans he hx
    have hF' : (F.put fr j (Rel p P w0 (execOp a.eval o) (facts ops F.F j) (S j) v) v).Holds w' := Gx.Holds.put hst hF hx hr hnew
    exact h _ _ _ hx0 hF' (hst.put (rel_stable hS)) (hn.1 hw v (fun e => Far.of_new hF.2 (hnew e)) ⟨w', hx0, hF'⟩)
  | false =>
    simp only [Bool.false_eq_true, if_false]
    exact h _ _ _ he hF hst (hn.2 hw)

theorem wpAny_of_headC {n g : Nat} {L : Array Bool → Act → Gx → Prop} {Q' : Exit → Act → World → Prop} (hS : StableS p S)
    (hL : ∀ listed a F w, p.R w0 w → F.Holds w → L listed a F → wpAny P .any ops Q' g listed a w) :
    ∀ (f : Nat) (listed : Array Bool) (a : Act) (F : Gx) (w : World), p.R w0 w → F.Holds w → StableF p F → wpAnyC p P ops S fr w0 n L f listed a F → wpAny P .any ops Q' (f + g) listed a w
  | 0, listed, a, F, w, he, hF, _, h => by rw [Nat.zero_add]; exact hL _ _ _ _ he hF h
  | f + 1, listed, a, F, w, he, hF, hst, h => by
    rw [show f + 1 + g = (f + g) + 1 by omega]
    exact ⟨fun h0 => absurd h0 h.1, fun i hi => wpOp_of_cOp hS he hF hst (fun a' F' w' he' hF' hst' h' => wpAny_of_headC hS hL f _ a' F' w' he' hF' hst' h') (h.2 i hi).2⟩

theorem wpAnyC_first {n i : Nat} {oi : Oper} {L : Array Bool → Act → Gx → Prop} (hS : StableS p S) (hi : ops[i]? = some oi) (hsel : ∀ (j : Nat) (o : Oper) cs b, ops[j]? = some o → o.op ≠ .select cs b)
    (htail : ∀ listed, HeadInv .any ops n listed → ∀ i, i < n → listed.getD i true = false → ∀ t, n ≤ t → t ∉ Region.ready .any ops listed) (hin : i < n)
    (hdone : ∀ listed a F, L listed a F → ∀ j ∈ Region.ready .any ops listed, n ≤ j) :
    ∀ (f : Nat) (listed : Array Bool) (a : Act) (F : Gx), HeadInv .any ops n listed →
      (∀ j oj, ops[j]? = some oj → j ≠ i → listed.getD j true = false → (∀ e ∈ oj.after, Region.binds .any e = true → e.on ≠ i) → oi.apart ops oj = true) →
      i ∈ Region.ready .any ops listed → Sat p w0 F → StableF p F → YC p P ops S fr w0 i oi a F →
      Cont p P ops S fr w0 i oi a F (wpAnyC p P ops S fr w0 n L f (listed.setIfInBounds i true)) → wpAnyC p P ops S fr w0 n L (f + 1) listed a F := by
  intro f
  induction f with
  | zero =>
    intro listed a F inv _ hr hsat hst hy H
    have hun := (mem_ready.1 hr).1
    refine ⟨fun h => (by rw [h] at hr; cases hr), fun j hj => ?_⟩
    have hjn : j < n := by
      rcases Nat.lt_or_ge j n with h | h
      · exact h
      · exact absurd hj (htail listed inv i hin hun j h)
    refine ⟨hjn, ?_⟩
    by_cases hji : j = i
    · subst hji; exact ⟨oi, hi, hy, H⟩
    · exfalso
      have hL : ∃ a' F', L (listed.setIfInBounds i true) a' F' := by
        cases hw : Region.wanted oi (yielded ops a.tmps) with
        | true =>
          obtain ⟨w, he, hF⟩ := hsat
          obtain ⟨v, w', hx, hrel, hnew⟩ := exists_of_calm (fr := fr) (fj := facts ops F.F i) he (fun k _ => hF.1 k) (hy hw w he (fun k _ => hF.1 k))
          exact ⟨_, _, H.1 hw v (fun e => Far.of_new hF.2 (hnew e)) ⟨w', p.trans he hx, Gx.Holds.put hst hF hx hrel hnew⟩⟩
        | false => exact ⟨_, _, H.2 hw⟩
      obtain ⟨a', F', hl⟩ := hL
      have := hdone _ _ _ hl j (ready_mono hj hji)
      omega
  | succ f ih =>
    intro listed a F inv hfree hr hsat hst hy H
    have hun := (mem_ready.1 hr).1
    refine ⟨fun h => (by rw [h] at hr; cases hr), fun j hj => ?_⟩
    have hjn : j < n := by
      rcases Nat.lt_or_ge j n with h | h
      · exact h
      · exact absurd hj (htail listed inv i hin hun j h)
    refine ⟨hjn, ?_⟩
    by_cases hji : j = i
    · subst hji; exact ⟨oi, hi, hy, H⟩
    · obtain ⟨hjun, oj, hoj, hall⟩ := mem_ready.1 hj
      have hnot : ∀ e ∈ oj.after, Region.binds .any e = true → e.on ≠ i := fun e he hb heq => by
        have h1 := hall e he hb
        rw [heq, getD_both hun] at h1
        cases h1
      obtain ⟨p1, p2, p3⟩ := Oper.apart_spec (hfree j oj hoj hji hjun hnot)
      have hsi := fun cs b => hsel i oi cs b hi
      have hsj := fun cs b => hsel j oj cs b hoj
      have bji : befB ops 3 j i = false := not_bef inv hj hun
      have bij : befB ops 3 i j = false := not_bef inv hr hjun
      -- what the head's continuation says of operation j behind operation i, at whatever value
      have after_i : ∀ a' F', wpAnyC p P ops S fr w0 n L (f + 1) (listed.setIfInBounds i true) a' F' → YC p P ops S fr w0 j oj a' F' ∧ Cont p P ops S fr w0 j oj a' F' (wpAnyC p P ops S fr w0 n L f ((listed.setIfInBounds i true).setIfInBounds j true)) := by
        intro a' F' h
        obtain ⟨_, o, ho, h1, h2⟩ := h.2 j (ready_mono hj hji)
        have : o = oj := Option.some.inj (ho.symm.trans hoj)
        subst this
        exact ⟨h1, h2⟩
      have wj : ∀ u, Region.wanted oj (yielded ops (a.put oi.dst u).tmps) = Region.wanted oj (yielded ops a.tmps) := fun u => wanted_put oj a oi.dst u p1
      have xj : ∀ u, execOp (a.put oi.dst u).eval oj = execOp a.eval oj := fun u => execOp_put oj hsj a oi.dst u p1
      have wi : ∀ u, Region.wanted oi (yielded ops (a.put oj.dst u).tmps) = Region.wanted oi (yielded ops a.tmps) := fun u => wanted_put oi a oj.dst u p3
      have xi : ∀ u, execOp (a.put oj.dst u).eval oi = execOp a.eval oi := fun u => execOp_put oi hsi a oj.dst u p3
      -- operation j yields now, too
      have yj : YC p P ops S fr w0 j oj a F := by
        intro hwj
        cases hw : Region.wanted oi (yielded ops a.tmps) with
        | true =>
          obtain ⟨w, he, hF⟩ := hsat
          obtain ⟨v, w', hx, hrel, hnew⟩ := exists_of_calm (fr := fr) (fj := facts ops F.F i) he (fun k _ => hF.1 k) (hy hw w he (fun k _ => hF.1 k))
          have h1 := (after_i _ _ (H.1 hw v (fun e => Far.of_new hF.2 (hnew e)) ⟨w', p.trans he hx, Gx.Holds.put hst hF hx hrel hnew⟩)).1
          unfold YC Gx.put at h1
          rw [wj, xj, facts_put bji] at h1
          exact h1 hwj
        | false =>
          have h1 := (after_i _ _ (H.2 hw)).1
          unfold YC at h1
          rw [wj, xj] at h1
          exact h1 hwj
      have hfree' : ∀ k ok, ops[k]? = some ok → k ≠ i → (listed.setIfInBounds j true).getD k true = false →
          (∀ e ∈ ok.after, Region.binds .any e = true → e.on ≠ i) → oi.apart ops ok = true := fun k ok hk hki hun' hno => by
        refine hfree k ok hk hki ?_ hno
        by_cases hjk : j = k
        · subst hjk; exact hjun
        · rw [getD_set_ne true hjk] at hun'; exact hun'
      refine ⟨oj, hoj, yj, fun hwj u hfu hsu => ?_, fun hwj => ?_⟩
      · -- operation j is taken, with u
        generalize hFj : F.put fr j (Rel p P w0 (execOp a.eval oj) (facts ops F.F j) (S j) u) u = Fj at *
        have hfi : facts ops Fj.F i = facts ops F.F i := by rw [← hFj]; exact facts_put bij
        have hstj : StableF p Fj := by rw [← hFj]; exact hst.put (rel_stable hS)
        refine ih (listed.setIfInBounds j true) (a.put oj.dst u) Fj (inv.set hj hjn) hfree' (ready_mono hr (Ne.symm hji)) hsu hstj ?_ ⟨fun hwi v hfv hsv => ?_, fun hwi => ?_⟩
        · unfold YC
          rw [wi, xi, hfi]
          exact hy
        · rw [wi] at hwi
          rw [xi, hfi] at hsv ⊢
          obtain ⟨w, he, hw⟩ := hsv
          have hfv1 : fr i = true → Far F.V v := fun e x hx => hfv e x (by rw [← hFj]; exact .inl hx)
          have hwF : ∀ k, F.F k w := fun k => by have := (hw.1 k).1; rw [← hFj] at this; exact this.1
          have hwj' : Rel p P w0 (execOp a.eval oj) (facts ops F.F j) (S j) u w := by have := (hw.1 j).1; rw [← hFj] at this; exact this.2 rfl
          have hwi' : Rel p P w0 (execOp a.eval oi) (facts ops F.F i) (S i) v w := (hw.1 i).2 rfl
          have hin : InW ((F.V.put fr j u).put fr i v) w := by have := hw.2; rw [← hFj] at this; exact this
          have hsi : Sat p w0 (F.put fr i (Rel p P w0 (execOp a.eval oi) (facts ops F.F i) (S i) v) v) := by
            refine ⟨w, he, fun k => ⟨hwF k, fun _ => hwi'⟩, fun x hx => hin x ?_⟩
            rcases hx with hx | hx
            · exact .inl (.inl hx)
            · exact .inr hx
          have h2 := (after_i _ _ (H.1 hwi v hfv1 hsi)).2.1
          have hff : facts ops (F.put fr i (Rel p P w0 (execOp a.eval oi) (facts ops F.F i) (S i) v) v).F j = facts ops F.F j := facts_put bji
          rw [wj, xj, hff] at h2
          have hcomm : ((F.put fr i (Rel p P w0 (execOp a.eval oi) (facts ops F.F i) (S i) v) v).put fr j (Rel p P w0 (execOp a.eval oj) (facts ops F.F j) (S j) u) u) = Fj.put fr i (Rel p P w0 (execOp a.eval oi) (facts ops F.F i) (S i) v) v := by
            rw [Gx.put_comm, hFj]
          have h3 := h2 hwj u (fun e => Far.put (hfu e) (fun ei hev => hfv ei u (by rw [← hFj]; exact .inr ⟨e, rfl⟩) hev.symm)) (by rw [hcomm]; exact ⟨w, he, hw⟩)
          rw [hcomm] at h3
          rw [Array.setIfInBounds_comm _ _ hji, Act.put_comm a u v (fun d hd hd' => p2 d hd' hd)]
          exact h3
        · rw [wi] at hwi
          have h2 := (after_i _ _ (H.2 hwi)).2.1
          rw [wj, xj] at h2
          have h3 := h2 hwj u hfu (by rw [hFj]; exact hsu)
          rw [hFj] at h3
          rw [Array.setIfInBounds_comm _ _ hji, Act.put_comm a u undef (fun d hd hd' => p2 d hd' hd)]
          exact h3
      · refine ih (listed.setIfInBounds j true) (a.put oj.dst undef) F (inv.set hj hjn) hfree' (ready_mono hr (Ne.symm hji)) hsat hst ?_ ⟨fun hwi v hfv hsv => ?_, fun hwi => ?_⟩
        · unfold YC
          rw [wi, xi]
          exact hy
        · rw [wi] at hwi
          rw [xi] at hsv ⊢
          have h2 := (after_i _ _ (H.1 hwi v hfv hsv)).2.2
          rw [wj] at h2
          have h3 := h2 hwj
          rw [Array.setIfInBounds_comm _ _ hji, Act.put_comm a undef v (fun d hd hd' => p2 d hd' hd)]
          exact h3
        · rw [wi] at hwi
          have h2 := (after_i _ _ (H.2 hwi)).2.2
          rw [wj] at h2
          have h3 := h2 hwj
          rw [Array.setIfInBounds_comm _ _ hji, Act.put_comm a undef undef (fun d hd hd' => p2 d hd' hd)]
          exact h3
end

/-! ### The order of the text, and a tail that is forced -/

section
variable {p : Pre} {P : Program} {ops : Array Oper} {S : Spec} {fr : Nat → Bool} {w0 : World}

theorem Cont.sat {K K' : Act → Gx → Prop} {j : Nat} {o : Oper} {a : Act} {F : Gx} (hS : StableS p S) (hst : StableF p F) (h : ∀ a F, Sat p w0 F → StableF p F → K a F → K' a F) (hs : Sat p w0 F) (hc : Cont p P ops S fr w0 j o a F K) : Cont p P ops S fr w0 j o a F K' :=
  ⟨fun hw v hf hv => h _ _ hv (hst.put (rel_stable hS)) (hc.1 hw v hf hv), fun hw => h _ _ hs hst (hc.2 hw)⟩

theorem wpAnyC_lex {n g : Nat} {Lq : Act → Gx → Prop} (hS : StableS p S) (hsel : Region.noSelect ops = true)
    (htail : ∀ listed, HeadInv .any ops n listed → ∀ i, i < n → listed.getD i true = false → ∀ t, n ≤ t → t ∉ Region.ready .any ops listed) :
    ∀ (l : List Oper) (k : Nat) (listed : Array Bool) (a : Act) (F : Gx), (∀ j, j < l.length → l[j]? = ops[k + j]?) → k + l.length = n → HeadInv .any ops n listed →
    Region.lexHead .any ops g l.length k listed = true → Sat p w0 F → StableF p F → wpCalm p P ops S fr w0 Lq l k a F →
    wpAnyC p P ops S fr w0 n (fun listed' a' F' => Region.seqB .any ops g n listed' = true ∧ Lq a' F') l.length listed a F
  | [], k, listed, a, F, _, hk, _, hB, _, _, h => by
    have : k = n := by simpa using hk
    subst this
    exact ⟨by simpa [Region.lexHead] using hB, h⟩
  | o :: l, k, listed, a, F, hl, hk, inv, hB, hs, hst, h => by
    have h0 : ops[k]? = some o := by simpa using (hl 0 (by simp)).symm
    simp only [List.length_cons, Region.lexHead, Bool.and_eq_true] at hB
    obtain ⟨⟨hr, hf⟩, hB'⟩ := hB
    have hkn : k < n := by simp only [List.length_cons] at hk; omega
    have hr' : k ∈ Region.ready .any ops listed := by simpa using hr
    refine wpAnyC_first hS h0 (Region.noSelect_spec hsel) htail hkn (fun listed' a' F' hL => seqB_ready hL.1) l.length listed a F inv (Region.free_spec h0 hf) hr' hs hst h.1 ?_
    exact Cont.sat hS hst (fun a' F' hs' hst' hK => wpAnyC_lex hS hsel htail l (k + 1) _ a' F' (fun j hj => by have := hl (j + 1) (by simp; omega); simpa [Nat.add_assoc, Nat.add_comm 1 j] using this)
      (by simp only [List.length_cons] at hk; omega) (inv.set hr' hkn) hB' hs' hst' hK) hs h.2

theorem wp_region_calm {id : Nat} {Q : Exit → Act → World → Prop} {a : Act} {w : World} {l : List Oper} (n : Nat) (S : Spec) (hS : StableS p S) (hm : P.follows .mixedOrders = true) (hB : calmB l.toArray n = true)
    (h : wpCalm p P l.toArray S fr w (fun a' F => ∀ w', p.R w w' → F.Holds w' → wpList P l.toArray Q (l.drop n) a' w') (l.take n) 0 a ⟨fun _ _ => True, fun _ => False⟩) : (Code.region id l.toArray true).wp P Q a w := by
  simp only [calmB, Bool.and_eq_true, Bool.or_eq_true, decide_eq_true_eq] at hB
  obtain ⟨⟨hsel, hn⟩, hlex⟩ := hB
  have hn' : n ≤ l.length := by
    rcases hn with h1 | h1
    · rw [h1]; simp
    · have := h1.1.1; simp at this; omega
  have htl : (l.take n).length = n := by simp; omega
  have hdl : (l.drop n).length = l.toArray.size - n := by simp
  have htail := calm_tail (ops := l.toArray) (n := n) (by rcases hn with h1 | h1; exact .inl h1; exact .inr ⟨h1.1.1, h1.1.2, h1.2⟩)
  have inv0 : HeadInv .any l.toArray n (Array.replicate l.toArray.size false) :=
    ⟨by simp, fun j oj _ hl => (by rw [getD_replicate_false] at hl; cases hl), fun t _ ht => getD_in (by simpa using ht) (getD_replicate_false _ _)⟩
  have H := wpAnyC_lex (g := l.toArray.size - n) hS hsel htail (l.take n) 0 _ a ⟨fun _ _ => True, fun _ => False⟩ (fun j hj => by
    have hj' : j < n := by rw [htl] at hj; exact hj
    simp [hj']) (by simpa using htl) inv0 (by rw [htl]; exact hlex) ⟨w, p.refl _, fun _ => trivial, fun _ hx => hx.elim⟩ (show StableF p ⟨fun _ _ => True, fun _ => False⟩ from fun _ _ _ _ h => h) h
  refine wp_region_any hm ?_
  have := wpAny_of_headC (P := P) (ops := l.toArray) (S := S) (fr := fr) (w0 := w) (n := n) (Q' := Q) (g := l.toArray.size - n) hS (fun listed a' F w1 he hF hL => by
    have := wpAny_of_seq (md := .any) (Q' := Q) (l.drop n) n listed a' w1 (fun j => by simp [List.getElem?_drop]) (by rw [hdl]; exact hL.1) (hL.2 w1 he hF)
    rwa [hdl] at this) (l.take n).length (Array.replicate l.toArray.size false) a ⟨fun _ _ => True, fun _ => False⟩ { w with drawn := w.drawn + 1 } (p.drawn (p.refl w) _) ⟨fun _ => trivial, fun _ hx => hx.elim⟩ (show StableF p ⟨fun _ _ => True, fun _ => False⟩ from fun _ _ _ _ h => h) H
  rw [htl, show n + (l.toArray.size - n) = l.toArray.size by omega] at this
  exact this

/-! ### Steps -/

/-- More is known. -/
structure Le (F F' : Gx) : Prop where
  ff : ∀ k w, F'.F k w → F.F k w
  vv : ∀ u, F.V u → F'.V u
def MonoQ (Q : Act → Gx → Prop) : Prop := ∀ a F F', Le F F' → Q a F → Q a F'
theorem Le.holds {F F' : Gx} (h : Le F F') {w : World} (hw : F'.Holds w) : F.Holds w := ⟨fun k => h.ff _ _ (hw.1 k), fun u hu => hw.2 u (h.vv u hu)⟩
theorem Le.far {F F' : Gx} (h : Le F F') {v : Value} (hv : Far F'.V v) : Far F.V v := fun u hu => hv u (h.vv u hu)
theorem Le.put_self (F : Gx) (k : Nat) (T : World → Prop) (v : Value) : Le F (F.put fr k T v) := ⟨fun _ _ h => h.1, fun _ h => .inl h⟩

theorem wpCalm_mono {Q : Act → Gx → Prop} (hQ : MonoQ Q) : ∀ (l : List Oper) (k : Nat) (a : Act) (F F' : Gx), Le F F' → wpCalm p P ops S fr w0 Q l k a F → wpCalm p P ops S fr w0 Q l k a F'
  | [], _, a, F, F', h, hh => hQ a F F' h hh
  | o :: l, k, a, F, F', h, ⟨hy, hn⟩ => by
    have hf : ∀ w, facts ops F'.F k w → facts ops F.F k w := fun w hf i hi => h.ff _ _ (hf i hi)
    have hr : ∀ v w, Rel p P w0 (execOp a.eval o) (facts ops F'.F k) (S k) v w → Rel p P w0 (execOp a.eval o) (facts ops F.F k) (S k) v w := fun v w ⟨w1, h1, h2, h3⟩ => ⟨w1, h1, hf _ h2, h3⟩
    have hp : ∀ v, Le (F.put fr k (Rel p P w0 (execOp a.eval o) (facts ops F.F k) (S k) v) v) (F'.put fr k (Rel p P w0 (execOp a.eval o) (facts ops F'.F k) (S k) v) v) :=
      fun v => ⟨fun i w hh => ⟨h.ff _ _ hh.1, fun e => hr _ _ (hh.2 e)⟩, fun u hu => hu.elim (fun x => .inl (h.vv u x)) .inr⟩
    exact ⟨fun hw w he hf' => hy hw w he (hf w hf'), fun hw v hfar ⟨w, he, hs⟩ => wpCalm_mono hQ l (k + 1) _ _ _ (hp v) (hn.1 hw v (fun e => h.far (hfar e)) ⟨w, he, (hp v).holds hs⟩), fun hw => wpCalm_mono hQ l (k + 1) _ _ _ h (hn.2 hw)⟩

theorem calm_mono_final {Q : Act → World → Prop} : MonoQ (fun a F => ∀ w', p.R w0 w' → F.Holds w' → Q a w') := fun _ _ _ h hq w' he hF => hq w' he (h.holds hF)

def quietAll (fr : Nat → Bool) : List Oper → Nat → Bool
  | [], _ => true
  | o :: l, k => quietKind o && !fr k && quietAll fr l (k + 1)

/-- Operations that leave the world alone: by the quiet walk, in the class of all worlds that hold what b holds. -/
theorem calm_chunk {Q : Act → Gx → Prop} (hQ : MonoQ Q) (b : World) (hb : ∀ w, p.R w0 w → Ext b w) : ∀ (l l2 : List Oper) (k : Nat) (a : Act) (F : Gx), quietAll fr l k = true →
    wpQuiet P ops (fun w => ∃ x : Later b, w = x.w) (fun a' => wpCalm p P ops S fr w0 Q l2 (k + l.length) a' F) l a → wpCalm p P ops S fr w0 Q (l ++ l2) k a F := by
  intro l
  induction l with
  | nil => intro l2 k a F _ h; exact h
  | cons o l ih =>
    intro l2 k a F hk h
    simp only [quietAll, Bool.and_eq_true, Bool.not_eq_true'] at hk
    obtain ⟨⟨hk1, hk2⟩, hk3⟩ := hk
    unfold wpQuiet at h
    have hlen : k + (o :: l).length = (k + 1) + l.length := by simp only [List.length_cons]; omega
    rw [hlen] at h
    cases hw : Region.wanted o (yielded ops a.tmps) with
    | true =>
      rw [hw, if_pos rfl] at h
      obtain ⟨v, h1, h2⟩ := h
      refine ⟨fun _ w he _ => ?_, fun _ u _ hu => ?_, fun hf => by rw [hw] at hf; cases hf⟩
      · have h3 := h1 w ⟨⟨w, hb w he⟩, rfl⟩
        have hne := noEnter_of_quietKind (P := P) hk1 a.eval w
        unfold Oper.quietAt at h3
        generalize (execOp a.eval o).run P w = r at *
        cases r with
        | ok n w' =>
          cases n <;> simp only [Oper.quietUpon] at h3 <;> simp only [calmUpon]
          case value x => obtain ⟨e, _⟩ := h3; rw [e]; exact ⟨p.refl _, fun e => by rw [hk2] at e; cases e⟩
          case skip => obtain ⟨e, _⟩ := h3; rw [e]; exact ⟨p.refl _, hk2⟩
          case enter f args => exact hne.elim
        | halt x w' => simp only [Oper.quietUpon] at h3
      · obtain ⟨w, he, hs⟩ := hu
        obtain ⟨w1, he1, _, hg⟩ := (hs.1 k).2 rfl
        have h3 := h1 w1 ⟨⟨w1, hb w1 he1⟩, rfl⟩
        have hne := noEnter_of_quietKind (P := P) hk1 a.eval w1
        have huv : u = v := by
          unfold Oper.quietAt at h3
          generalize (execOp a.eval o).run P w1 = r at *
          cases r with
          | ok n w' =>
            cases n <;> simp only [Oper.quietUpon] at h3 <;> simp only [gives] at hg
            case value x => rw [hg.1, h3.2]
            case skip => rw [hg.1, h3.2]
            case enter f args => exact hne.elim
          | halt x w' => simp only [Oper.quietUpon] at h3
        subst huv
        exact wpCalm_mono hQ _ _ _ F _ (Le.put_self F k _ _) (ih l2 (k + 1) _ F hk3 h2)
    | false =>
      rw [hw] at h
      exact ⟨fun hf => (by rw [hw] at hf; cases hf), fun hf => (by rw [hw] at hf; cases hf), fun _ => ih l2 (k + 1) _ F hk3 h⟩

theorem calm_nil {Q : Act → Gx → Prop} {k : Nat} {a : Act} {F : Gx} (h : Q a F) : wpCalm p P ops S fr w0 Q [] k a F := h

/-- A call of a Go function: its result is any value that S lets by. -/
theorem calm_call {Q : Act → Gx → Prop} {o : Oper} {l : List Oper} {k : Nat} {a : Act} {F : Gx} (hQ : MonoQ Q) (f : FuncId) (args : Array Value) (hw : Region.wanted o (yielded ops a.tmps) = true)
    (hrun : ∀ w, (execOp a.eval o).run P w = .ok (.enter f args) w)
    (hcall : ∀ w, p.R w0 w → facts ops F.F k w → Calls P f args w (fun e w'' => ∃ v, e = .returned v ∧ p.R w w'' ∧ S k args v w'' ∧ (fr k = true → New v w w'')))
    (hn : ∀ v w', p.R w0 w' → S k args v w' → (fr k = true → Far F.V v) → wpCalm p P ops S fr w0 Q l (k + 1) (a.put o.dst v) (F.put fr k (S k args v) v)) : wpCalm p P ops S fr w0 Q (o :: l) k a F := by
  refine ⟨fun _ w he hf => ?_, fun _ v hfar hv => ?_, fun hf => by rw [hw] at hf; cases hf⟩
  · rw [hrun]; exact hcall w he hf
  · have hS : ∀ w', Rel p P w0 (execOp a.eval o) (facts ops F.F k) (S k) v w' → S k args v w' := fun w' ⟨w1, _, _, h⟩ => by rw [hrun] at h; exact h
    obtain ⟨w', he, hs⟩ := hv
    exact wpCalm_mono hQ _ _ _ (F.put fr k (S k args v) v) _ ⟨fun i w h => ⟨h.1, fun e => hS _ (h.2 e)⟩, fun u h => h⟩ (hn v w' he (hS _ ((hs.1 k).2 rfl)) hfar)

/-- An operation that makes a value, and may make memory: T is what is said of it. -/
theorem calm_value {Q : Act → Gx → Prop} {o : Oper} {l : List Oper} {k : Nat} {a : Act} {F : Gx} (hQ : MonoQ Q) (T : Value → World → Prop) (hT : ∀ v w w', p.R w w' → T v w → T v w') (hw : Region.wanted o (yielded ops a.tmps) = true)
    (hrun : ∀ w, p.R w0 w → facts ops F.F k w → ∃ v w', (execOp a.eval o).run P w = .ok (.value v) w' ∧ p.R w w' ∧ T v w' ∧ (fr k = true → New v w w'))
    (hn : ∀ v w', p.R w0 w' → T v w' → (fr k = true → Far F.V v) → wpCalm p P ops S fr w0 Q l (k + 1) (a.put o.dst v) (F.put fr k (T v) v)) : wpCalm p P ops S fr w0 Q (o :: l) k a F := by
  refine ⟨fun _ w he hf => ?_, fun _ v hfar hv => ?_, fun hf => by rw [hw] at hf; cases hf⟩
  · obtain ⟨u, w', hr, hR, _, hnew⟩ := hrun w he hf
    rw [hr]
    exact ⟨hR, hnew⟩
  · have hS : ∀ w', Rel p P w0 (execOp a.eval o) (facts ops F.F k) (S k) v w' → T v w' := fun w' ⟨w1, h1, h2, h⟩ => by
      obtain ⟨u, w2, hr, _, ht, _⟩ := hrun w1 h1 h2
      rw [hr] at h
      obtain ⟨rfl, hx⟩ := h
      exact hT _ _ _ hx ht
    obtain ⟨w', he, hs⟩ := hv
    exact wpCalm_mono hQ _ _ _ (F.put fr k (T v) v) _ ⟨fun i w h => ⟨h.1, fun e => hS _ (h.2 e)⟩, fun u h => h⟩ (hn v w' he (hS _ ((hs.1 k).2 rfl)) hfar)

/-- The chunk, with its number of operations. -/
theorem calm_quiet {Q : Act → Gx → Prop} (hQ : MonoQ Q) (b : World) (hb : ∀ w, p.R w0 w → Ext b w) (m : Nat) {l : List Oper} {k : Nat} {a : Act} {F : Gx} (hk : quietAll fr (l.take m) k = true)
    (h : wpQuiet P ops (fun w => ∃ x : Later b, w = x.w) (fun a' => wpCalm p P ops S fr w0 Q (l.drop m) (k + (l.take m).length) a' F) (l.take m) a) : wpCalm p P ops S fr w0 Q l k a F := by
  rw [← List.take_append_drop m l]
  exact calm_chunk hQ b hb _ _ _ _ _ hk h
end

/-- The growth of worlds that hold all that was there. -/
def extPre : Pre := ⟨Ext, Ext.refl, Ext.trans, fun h n => h.drawn n, fun h => h.le⟩
end Cg
end Go.Proofs.Yteilglljigjefaa

/- A pose in lowest terms, and the next one. -/
namespace Go.Proofs.Yteilglljigjefaa
open Go.RowKit
theorem wrap_small {a b : Int} (h : a = b) (h1 : -1000000000 ≤ b) (h2 : b ≤ 1000000000) : IntKind.i64.wrap a = b := by rw [h, IntKind.wrap_i64]; omega
set_option maxRecDepth 100000 in
set_option maxHeartbeats 4000000 in
theorem lowest_any (p : Ps) (w : World) (hp : PoseOk p 3) : Calls Try.prog 106 #[p.val] w fun e w' => e = .returned (low p).val ∧ Ext w w' := by
  have h1 := psOk hp
  have h2 := psOk hp.low
  have hg := g5_le h1
  have hg0 := g5_pos hp.d0
  have ht := g5_tree p
  obtain ⟨e1, e2, e3, e4, e5⟩ := low_eq p
  have w1 := wrap_small (quo_low hg0 e1) (by have := h2.bp; omega) (by have := h2.bp; omega)
  have w2 := wrap_small (quo_low hg0 e2) (by have := h2.bq; omega) (by have := h2.bq; omega)
  have w3 := wrap_small (quo_low hg0 e3) (by have := h2.bx; omega) (by have := h2.bx; omega)
  have w4 := wrap_small (quo_low hg0 e4) (by have := h2.bz; omega) (by have := h2.bz; omega)
  have w5 := wrap_small (quo_low hg0 e5) (by have := h2.bd; omega) (by have := h2.bd; omega)
  clear e1 e2 e3 e4 e5 h2
  generalize low p = l at *
  generalize g5 p = G at *
  obtain ⟨P, Q, X, Y, D⟩ := p
  obtain ⟨lp, lq, lx, ly, ld⟩ := l
  obtain ⟨b1, b2, b3, b4, b5⟩ := h1
  simp only at *
  have k1 := gcd_bd P Q
  have k2 := gcd_bd X Y
  have k3 := gcd_bd (Int.gcd P Q : Int) (Int.gcd X Y : Int)
  have c1 := fun w' => gcd_any P Q w' (by omega) (by omega)
  have c2 := fun w' => gcd_any X Y w' (by omega) (by omega)
  have c3 := fun w' => gcd_any (Int.gcd P Q : Int) (Int.gcd X Y : Int) w' (by omega) (by omega)
  have c4 := fun w' => gcd_any (Int.gcd (Int.gcd P Q : Int) (Int.gcd X Y : Int) : Int) D w' (by omega) (by omega)
  rw [ht] at c4
  clear ht k1 k2 k3
  have C1 := Lib.hid c1
  have C2 := Lib.hid c2
  have C3 := Lib.hid c3
  have C4 := Lib.hid c4
  clear c1 c2 c3 c4 hp
  generalize Int.gcd (Int.gcd P Q : Int) (Int.gcd X Y : Int) = G3 at *
  generalize Int.gcd P Q = G1 at *
  generalize Int.gcd X Y = G2 at *
  have W1 := Lib.hid w1
  have W2 := Lib.hid w2
  have W3 := Lib.hid w3
  have W4 := Lib.hid w4
  have W5 := Lib.hid w5
  clear w1 w2 w3 w4 w5
  go_enter Try.func106, Try.ntmps106
  go_wp2
  have kb : Blk ((w.alloc (.cells #[vint P, vint Q, vint X, vint Y, vint D] 82)).alloc (.cells #[.int .i64 0, .int .i64 0, .int .i64 0, .int .i64 0, .int .i64 0] 82)) w.heap.size [vint P, vint Q, vint X, vint Y, vint D] := (Blk.new _ _).ext ((Ext.refl _).alloc _)
  have kr : Blk ((w.alloc (.cells #[vint P, vint Q, vint X, vint Y, vint D] 82)).alloc (.cells #[.int .i64 0, .int .i64 0, .int .i64 0, .int .i64 0, .int .i64 0] 82)) (w.heap.size + 1) [.int .i64 0, .int .i64 0, .int .i64 0, .int .i64 0, .int .i64 0] := Blk.new' (cs := #[.int .i64 0, .int .i64 0, .int .i64 0, .int .i64 0, .int .i64 0]) (by simp)
  have hx : Ext w ((w.alloc (.cells #[vint P, vint Q, vint X, vint Y, vint D] 82)).alloc (.cells #[.int .i64 0, .int .i64 0, .int .i64 0, .int .i64 0, .int .i64 0] 82)) := ((Ext.refl _).alloc _).alloc _
  have hs : w.heap.size ≤ w.heap.size + 1 := by omega
  generalize ((w.alloc (.cells #[vint P, vint Q, vint X, vint Y, vint D] 82)).alloc (.cells #[.int .i64 0, .int .i64 0, .int .i64 0, .int .i64 0, .int .i64 0] 82)) = W0 at *
  generalize w.heap.size + 1 = g1 at *
  have Hs := Lib.hid hs
  clear hs
  have q0 := kb.at_ 0 rfl
  have q1 := kb.at_ 1 rfl
  have q2 := kb.at_ 2 rfl
  have q3 := kb.at_ 3 rfl
  have q4 := kb.at_ 4 rfl
  refine wp_region_calm 15 (fun j _ v _ => bif j == 4 then v = .int .i64 G1 else bif j == 9 then v = .int .i64 G2 else bif j == 10 then v = .int .i64 G3 else v = .int .i64 G) (fun _ _ _ _ _ _ h => h) (by kernel_rfl) (by kernel_rfl) ?_
  simp only [List.take_succ_cons, List.take_zero, List.drop_succ_cons, List.drop_zero]
  refine calm_quiet calm_mono_final 4 (by kernel_rfl) ?_
  simp only [List.take_succ_cons, List.take_zero, List.drop_succ_cons, List.drop_zero]
  repeat (go_big_quiet_step (fail))
  refine wpQuiet_nil ?_
  refine calm_call calm_mono_final 85 #[.int .i64 P, .int .i64 Q] rfl (fun w => ?_) (fun w he hF => ?_) ?_
  · go_simp
  · exact (C1.out w).mono fun e w'' ⟨he', hx⟩ => ⟨_, he', hx, rfl⟩
  rintro _ _ _ rfl
  simp only [Act.put, List.setIfInBounds_toArray, List.set_cons_succ, List.set_cons_zero]
  refine calm_quiet calm_mono_final 4 (by kernel_rfl) ?_
  simp only [List.take_succ_cons, List.take_zero, List.drop_succ_cons, List.drop_zero]
  repeat (go_big_quiet_step (fail))
  refine wpQuiet_nil ?_
  refine calm_call calm_mono_final 85 #[.int .i64 X, .int .i64 Y] rfl (fun w => ?_) (fun w he hF => ?_) ?_
  · go_simp
  · exact (C2.out w).mono fun e w'' ⟨he', hx⟩ => ⟨_, he', hx, rfl⟩
  rintro _ _ _ rfl
  simp only [Act.put, List.setIfInBounds_toArray, List.set_cons_succ, List.set_cons_zero]
  refine calm_call calm_mono_final 85 #[.int .i64 G1, .int .i64 G2] rfl (fun w => ?_) (fun w he hF => ?_) ?_
  · go_simp
  · exact (C3.out w).mono fun e w'' ⟨he', hx⟩ => ⟨_, he', hx, rfl⟩
  rintro _ _ _ rfl
  simp only [Act.put, List.setIfInBounds_toArray, List.set_cons_succ, List.set_cons_zero]
  refine calm_quiet calm_mono_final 2 (by kernel_rfl) ?_
  simp only [List.take_succ_cons, List.take_zero, List.drop_succ_cons, List.drop_zero]
  repeat (go_big_quiet_step (fail))
  refine wpQuiet_nil ?_
  refine calm_call calm_mono_final 85 #[.int .i64 G3, .int .i64 D] rfl (fun w => ?_) (fun w he hF => ?_) ?_
  · go_simp
  · exact (C4.out w).mono fun e w'' ⟨he', hx⟩ => ⟨_, he', hx, rfl⟩
  rintro _ _ _ rfl
  simp only [Act.put, List.setIfInBounds_toArray, List.set_cons_succ, List.set_cons_zero]
  refine calm_quiet calm_mono_final 1 (by kernel_rfl) ?_
  simp only [List.take_succ_cons, List.take_zero, List.drop_succ_cons, List.drop_zero]
  repeat (go_big_quiet_step (fail))
  refine wpQuiet_nil ?_
  refine calm_nil fun w6 hx6 _ => ?_
  have q0 : ∀ w', Ext w6 w' → _ := fun w' he => q0 w' (hx6.trans he)
  have q1 : ∀ w', Ext w6 w' → _ := fun w' he => q1 w' (hx6.trans he)
  have q2 : ∀ w', Ext w6 w' → _ := fun w' he => q2 w' (hx6.trans he)
  have q3 : ∀ w', Ext w6 w' → _ := fun w' he => q3 w' (hx6.trans he)
  have q4 : ∀ w', Ext w6 w' → _ := fun w' he => q4 w' (hx6.trans he)
  have kr6 := kr.ext hx6
  have w1 := W1.out
  have w2 := W2.out
  have w3 := W3.out
  have w4 := W4.out
  have w5 := W5.out
  have z1 : ((G : Int) = 0) = False := by simp; omega
  go_wp2
  refine wp_region_calm 20 (fun _ _ _ _ => True) (fun _ _ _ _ _ _ h => h) (by kernel_rfl) (by kernel_rfl) ?_
  simp only [List.take_succ_cons, List.take_zero, List.drop_succ_cons, List.drop_zero]
  refine calm_quiet calm_mono_final 20 (by kernel_rfl) ?_
  simp only [List.take_succ_cons, List.take_zero, List.drop_succ_cons, List.drop_zero]
  repeat (go_big_quiet_step (fail))
  refine wpQuiet_nil ?_
  refine calm_nil fun w7 hx7 _ => ?_
  have kr7 := kr6.ext hx7
  have r0 := kr7.at_ 0 rfl
  have f0 := kr7.free 0
  have r1 := kr7.at_ 1 rfl
  have f1 := kr7.free 1
  have r2 := kr7.at_ 2 rfl
  have f2 := kr7.free 2
  have r3 := kr7.at_ 3 rfl
  have f3 := kr7.free 3
  have r4 := kr7.at_ 4 rfl
  have f4 := kr7.free 4
  clear w1 w2 w3 w4 w5 z1
  go_wp2
  (try simp only [Exit.inBlock, Exit.then])
  have kz := (((((kr7.set (j := 0) (by simp) (.int .i64 lp)).set (j := 1) (by simp) (.int .i64 lq)).set (j := 2) (by simp) (.int .i64 lx)).set (j := 3) (by simp) (.int .i64 ly)).set (j := 4) (by simp) (.int .i64 ld))
  refine bodyPost_ret (results_pose rfl _ _ rfl kz) rfl ⟨rfl, ?_⟩
  exact (((((((hx.trans hx6).trans hx7).setCell Hs.out _).setCell Hs.out _).setCell Hs.out _).setCell Hs.out _).setCell Hs.out _)
end Go.Proofs.Yteilglljigjefaa
