/- The angles: by the reference, without a search. -/
import Derived.Test.YteilglljigjefaaR03
import Derived.Test.YteilglljigjefaaR04
import Derived.Test.YteilglljigjefaaR05
import Derived.Test.YteilglljigjefaaR06
import Derived.Test.YteilglljigjefaaR02
namespace Go.Proofs.Yteilglljigjefaa
open Go.RowKit
theorem turn_any (n : Nat) (hn : n < 36) (w : World) : Calls Try.prog 105 #[.int .i64 n] w fun e w' => e = .returned (tval (trn n)) ∧ Ext w w' := by
  match n, hn with
  | 0, _ => exact turn_0 w
  | 1, _ => exact turn_1 w
  | 2, _ => exact turn_2 w
  | 3, _ => exact turn_3 w
  | 4, _ => exact turn_4 w
  | 5, _ => exact turn_5 w
  | 6, _ => exact turn_6 w
  | 7, _ => exact turn_7 w
  | 8, _ => exact turn_8 w
  | 9, _ => exact turn_9 w
  | 10, _ => exact turn_10 w
  | 11, _ => exact turn_11 w
  | 12, _ => exact turn_12 w
  | 13, _ => exact turn_13 w
  | 14, _ => exact turn_14 w
  | 15, _ => exact turn_15 w
  | 16, _ => exact turn_16 w
  | 17, _ => exact turn_17 w
  | 18, _ => exact turn_18 w
  | 19, _ => exact turn_19 w
  | 20, _ => exact turn_20 w
  | 21, _ => exact turn_21 w
  | 22, _ => exact turn_22 w
  | 23, _ => exact turn_23 w
  | 24, _ => exact turn_24 w
  | 25, _ => exact turn_25 w
  | 26, _ => exact turn_26 w
  | 27, _ => exact turn_27 w
  | 28, _ => exact turn_28 w
  | 29, _ => exact turn_29 w
  | 30, _ => exact turn_30 w
  | 31, _ => exact turn_31 w
  | 32, _ => exact turn_32 w
  | 33, _ => exact turn_33 w
  | 34, _ => exact turn_34 w
  | 35, _ => exact turn_35 w
  | n + 36, h => omega
end Go.Proofs.Yteilglljigjefaa

/- A pose in lowest terms: by the reference. -/
namespace Go.Proofs.Yteilglljigjefaa
open Go.RowKit
theorem g5_le {p : Ps} (h : PsOk p) : g5 p ≤ 15625 := by
  have h1 := h.bd
  have : g5 p ≤ p.d.natAbs := Nat.le_of_dvd (by omega) (Nat.gcd_dvd_right _ _)
  omega
theorem gcd_le3 {a b m : Nat} (ha : a ≤ m) (hb : b ≤ m) : Nat.gcd a b ≤ m := by
  rcases Nat.eq_zero_or_pos a with h | h
  · rw [h]; simpa using hb
  · exact Nat.le_trans (Nat.gcd_le_left b h) ha
theorem g5_tree (p : Ps) : Int.gcd (Int.gcd (Int.gcd p.p p.q : Int) (Int.gcd p.x p.y : Int) : Int) p.d = g5 p := by
  unfold g5 Int.gcd
  simp only [Int.natAbs_natCast, Nat.gcd_assoc]
theorem quo_low {a g b : Int} (hg : 0 < g) (h : a = g * b) : a.tdiv g = b := by rw [h]; exact Int.mul_tdiv_cancel_left b (by omega)
/-- A turn of a pose. -/
def trnP (p : Ps) (t : Int × Int × Int) : Ps := ⟨t.1 * p.p - t.2.1 * p.q, t.2.1 * p.p + t.1 * p.q, 0, 0, t.2.2 * p.d⟩
theorem trn_ok {p : Ps} {k : Nat} (h : PoseOk p k) {n : Nat} (hn : n < 36) : PoseOk (trnP p (trn n)) (k + 1) := by
  obtain ⟨t1, t2, t3⟩ := turns_ok n hn
  generalize trn n = t at *
  obtain ⟨ta, tb, tr⟩ := t
  simp only at t1 t2 t3
  unfold trnP
  simp only
  have hd : 0 < tr * p.d := Int.mul_pos (by omega) h.d0
  have hk : 0 ≤ 200 * ((k + 1 : Nat) : Int) * (tr * p.d) := Int.mul_nonneg (by omega) (by omega)
  refine ⟨hd, ?_, ?_, ?_, ?_, ?_, ?_⟩
  · have h1 := h.d1
    have h2 : (25 : Int) ^ (k + 1) = 25 * 25 ^ k := by rw [Int.pow_succ]; omega
    simp only
    rw [h2]
    exact Int.mul_le_mul t2 h1 (Int.le_of_lt h.d0) (by omega)
  · have := h.pq
    simp only
    have e : (ta * p.p - tb * p.q) * (ta * p.p - tb * p.q) + (tb * p.p + ta * p.q) * (tb * p.p + ta * p.q) = (ta * ta + tb * tb) * (p.p * p.p + p.q * p.q) := by grind
    rw [e, t3, this]
    grind
  all_goals simp only; omega
theorem raw_eq (p : Ps) (h : Hg) (t : Int × Int × Int) : raw p h t = ⟨(trnP p t).p, (trnP p t).q, t.2.2 * (plc p h.a).x - (plc (trnP p t) h.b).x, t.2.2 * (plc p h.a).y - (plc (trnP p t) h.b).y, (trnP p t).d⟩ := rfl
theorem trn_small : ∀ n : Nat, n < 36 → (-25 ≤ (trn n).1 ∧ (trn n).1 ≤ 25) ∧ (-25 ≤ (trn n).2.1 ∧ (trn n).2.1 ≤ 25) ∧ 1 ≤ (trn n).2.2 ∧ (trn n).2.2 ≤ 25 := by decide
end Go.Proofs.Yteilglljigjefaa

/- Angles and pairs in memory. -/
namespace Go.Proofs.Yteilglljigjefaa
open Go.RowKit
abbrev pval (t : Int × Int) : Value := .agg #[vint t.1, vint t.2]

def tcells (s : Int × Int × Int) : List Value := [vint s.1, vint s.2.1, vint s.2.2]
def TRow (w : World) (A : Option Addr) (l : List (Int × Int × Int)) : Prop := Row w A (l.map tcells).flatten
theorem TRow.ext {w w' : World} {A : Option Addr} {l : List (Int × Int × Int)} (h : TRow w A l) (he : Ext w w') : TRow w' A l := Row.ext h he
theorem TRow.nil (w : World) (A : Option Addr) : TRow w A [] := Row.nil w A
theorem tcells_len (l : List (Int × Int × Int)) : (l.map tcells).flatten.length = l.length * 3 := by
  rw [flatten_len 3 _ (fun r hr => by obtain ⟨x, _, rfl⟩ := List.mem_map.1 hr; rfl), List.length_map]
def tAt (l : List (Int × Int × Int)) (k : Nat) : Int × Int × Int := l.getD k (1, 0, 1)
theorem tAt_eq {l : List (Int × Int × Int)} {k : Nat} (h : k < l.length) : tAt l k = l[k] := by simp [tAt, List.getD, h]
theorem TRow.at_ {w : World} {A : Option Addr} {l : List (Int × Int × Int)} (h : TRow w A l) {k : Nat} (hk : k < l.length) :
    ∃ ad, A = some ad ∧ (∀ w', Ext w w' → w'.cell? (ad.add (k * 3)) = some (.int .i64 (tAt l k).1)) ∧
      (∀ w', Ext w w' → w'.cell? ⟨(ad.add (k * 3)).block, (ad.add (k * 3)).off + 1, none⟩ = some (.int .i64 (tAt l k).2.1)) ∧
      (∀ w', Ext w w' → w'.cell? ⟨(ad.add (k * 3)).block, (ad.add (k * 3)).off + 2, none⟩ = some (.int .i64 (tAt l k).2.2)) := by
  rw [tAt_eq hk]
  obtain ⟨ad, ha, hc⟩ := Row.struct (size := 3) h (fun r hr => by obtain ⟨x, _, rfl⟩ := List.mem_map.1 hr; rfl) (k := k) (by simpa using hk) (by omega)
  refine ⟨ad, ha, fun w' he => ?_, fun w' he => ?_, fun w' he => ?_⟩
  · have := hc 0 (by omega) w' he
    rw [add_zero_] at this
    simpa [tcells] using this
  · have := hc 1 (by omega) w' he
    rw [add_lit _ _ (by omega)] at this
    simpa [tcells] using this
  · have := hc 2 (by omega) w' he
    rw [add_lit _ _ (by omega)] at this
    simpa [tcells] using this

def pcells (s : Int × Int) : List Value := [vint s.1, vint s.2]
def QRow (w : World) (A : Option Addr) (l : List (Int × Int)) : Prop := Row w A (l.map pcells).flatten
theorem QRow.ext {w w' : World} {A : Option Addr} {l : List (Int × Int)} (h : QRow w A l) (he : Ext w w') : QRow w' A l := Row.ext h he
theorem QRow.nil (w : World) (A : Option Addr) : QRow w A [] := Row.nil w A
theorem pcells_len (l : List (Int × Int)) : (l.map pcells).flatten.length = l.length * 2 := by
  rw [flatten_len 2 _ (fun r hr => by obtain ⟨x, _, rfl⟩ := List.mem_map.1 hr; rfl), List.length_map]
def pAt (l : List (Int × Int)) (k : Nat) : Int × Int := l.getD k (0, 0)
theorem pAt_eq {l : List (Int × Int)} {k : Nat} (h : k < l.length) : pAt l k = l[k] := by simp [pAt, List.getD, h]
theorem QRow.at_ {w : World} {A : Option Addr} {l : List (Int × Int)} (h : QRow w A l) {k : Nat} (hk : k < l.length) :
    ∃ ad, A = some ad ∧ (∀ w', Ext w w' → w'.cell? (ad.add (k * 2)) = some (.int .i64 (pAt l k).1)) ∧
      (∀ w', Ext w w' → w'.cell? ⟨(ad.add (k * 2)).block, (ad.add (k * 2)).off + 1, none⟩ = some (.int .i64 (pAt l k).2)) := by
  rw [pAt_eq hk]
  obtain ⟨ad, ha, hc⟩ := Row.struct (size := 2) h (fun r hr => by obtain ⟨x, _, rfl⟩ := List.mem_map.1 hr; rfl) (k := k) (by simpa using hk) (by omega)
  refine ⟨ad, ha, fun w' he => ?_, fun w' he => ?_⟩
  · have := hc 0 (by omega) w' he
    rw [add_zero_] at this
    simpa [pcells] using this
  · have := hc 1 (by omega) w' he
    rw [add_lit _ _ (by omega)] at this
    simpa [pcells] using this
end Go.Proofs.Yteilglljigjefaa

/- Comparing lists of numbers; sorting angles that are sorted. -/
namespace Go.Proofs.Yteilglljigjefaa
open Go.RowKit

theorem nan_any (a : Int) (w : World) : Calls Try.prog 112 #[.int .i64 a] w fun e w' => e = .returned (.bool false) ∧ w = w' := by
  go_enter Try.func112, Try.ntmps112
  go_wp2
  go_ret
  exact ⟨by simp, rfl⟩
def cmpI (a b : Int) : Int := if a < b then -1 else if b < a then 1 else 0
theorem cmp_any (a b : Int) (w : World) : Calls Try.prog 96 #[.int .i64 a, .int .i64 b] w fun e w' => e = .returned (.int .i64 (cmpI a b)) ∧ w = w' := by
  have h1 : a < b → (-1 : Int) = cmpI a b := fun h => by unfold cmpI; rw [if_pos h]
  have h2 : b < a → (1 : Int) = cmpI a b := fun h => by unfold cmpI; rw [if_neg (by omega), if_pos h]
  have h3 : a = b → (0 : Int) = cmpI a b := fun h => by unfold cmpI; rw [if_neg (by omega), if_neg (by omega)]
  have H1 := Lib.hid h1
  have H2 := Lib.hid h2
  have H3 := Lib.hid h3
  clear h1 h2 h3
  generalize cmpI a b = c at *
  go_enter Try.func96, Try.ntmps96
  go_wp2_with (go_at_call 112; refine (nan_any _ _).mono ?_; rintro e w' ⟨rfl, rfl⟩)
  all_goals go_ret
  all_goals first | exact ⟨ret_i (H1.out (by omega)), rfl⟩ | exact ⟨ret_i (H2.out (by omega)), rfl⟩ | exact ⟨ret_i (H3.out (by omega)), rfl⟩
/-- The first place where two lists part. -/
def cmpL : List Int → List Int → Int
  | x :: xs, y :: ys => if cmpI x y = 0 then cmpL xs ys else cmpI x y
  | [], [] => 0
  | [], _ :: _ => -1
  | _ :: _, [] => 1
theorem cmpL_at : ∀ (xs ys : List Int) (k : Nat), xs.length = ys.length → k < xs.length → (∀ j, j < k → cmpI (getI xs j) (getI ys j) = 0) → ¬ cmpI (getI xs k) (getI ys k) = 0 → cmpI (getI xs k) (getI ys k) = cmpL xs ys
  | [], _, _, _, h, _, _ => absurd h (by simp)
  | _ :: _, [], _, h, _, _, _ => absurd h (by simp)
  | x :: xs, y :: ys, 0, _, _, _, hn => by
    have hn : ¬ cmpI x y = 0 := hn
    show cmpI x y = cmpL (x :: xs) (y :: ys)
    unfold cmpL
    rw [if_neg hn]
  | x :: xs, y :: ys, k + 1, hl, hk, hj, hn => by
    have h0 : cmpI x y = 0 := hj 0 (by omega)
    show _ = cmpL (x :: xs) (y :: ys)
    unfold cmpL
    rw [if_pos h0]
    exact cmpL_at xs ys k (by simpa using hl) (by simpa using hk) (fun j h => hj (j + 1) (by omega)) hn
theorem cmpL_same : ∀ (xs ys : List Int), xs.length = ys.length → (∀ j, j < xs.length → cmpI (getI xs j) (getI ys j) = 0) → 0 = cmpL xs ys
  | [], [], _, _ => rfl
  | [], _ :: _, h, _ => absurd h (by simp)
  | _ :: _, [], h, _ => absurd h (by simp)
  | x :: xs, y :: ys, hl, hj => by
    have h0 : cmpI x y = 0 := hj 0 (by simp)
    unfold cmpL
    rw [if_pos h0]
    exact cmpL_same xs ys (by simpa using hl) (fun j h => hj (j + 1) (by simpa using h))

set_option maxHeartbeats 800000 in
theorem compare_any (A B : Option Addr) (c d : Nat) (xs ys : List Int) (w : World) (hA : Ints w A xs) (hB : Ints w B ys) (hl : xs.length = ys.length) (hn : xs.length ≤ 1000) :
    Calls Try.prog 80 #[.slice A xs.length c, .slice B xs.length d] w fun e w' => e = .returned (.int .i64 (cmpL xs ys)) ∧ w = w' := by
  have ha := fun k (hk : k < xs.length) => hA.some_ (by omega : 0 < xs.length)
  have hb := fun k (hk : k < xs.length) => hB.some_ (by omega : 0 < ys.length)
  have hat := fun k (hk : k < xs.length) => cmpL_at xs ys k hl hk
  have hsa := cmpL_same xs ys hl
  rw [← hl] at hb
  have Ha := Lib.hid ha
  have Hb := Lib.hid hb
  have Hat := Lib.hid hat
  have Hsa := Lib.hid hsa
  clear ha hb hat hsa hA hB hl
  generalize cmpL xs ys = R at *
  generalize xs.length = n at *
  go_enter Try.func80, Try.ntmps80
  go_wp2
  go_loop [11] (fun i => ∃ k : Nat, k ≤ n ∧ i = .int .i64 k ∧ ∀ j, j < k → cmpI (getI xs j) (getI ys j) = 0) (fun i => n - (intOf i).toNat)
  case atStart => exact ⟨0, by omega, rfl, fun j h => absurd h (by omega)⟩
  case round =>
    obtain ⟨k, hk, rfl, hj⟩ := hrel
    by_cases hlt : k < n
    · obtain ⟨a1, rfl, g1⟩ := Ha.out k hlt
      obtain ⟨a2, rfl, g2⟩ := Hb.out k hlt
      have c1 := g1 k hlt w (Ext.refl w)
      have c2 := g2 k hlt w (Ext.refl w)
      clear g1 g2
      have hat := Hat.out k hlt hj
      have hnx : cmpI (getI xs k) (getI ys k) = 0 → ∀ j, j < k + 1 → cmpI (getI xs j) (getI ys j) = 0 := fun h j hj2 => by
        by_cases e : j = k
        · subst e; exact h
        · exact hj j (by omega)
      have Hat' := Lib.hid hat
      have Hnx := Lib.hid hnx
      clear hat hnx hj Hat Hsa Ha Hb
      generalize getI xs k = x at *
      generalize getI ys k = y at *
      go_wp2_with (go_at_call 96; refine (cmp_any _ _ _).mono ?_; rintro e w' ⟨rfl, rfl⟩)
      · go_ret
        have hne : ¬ cmpI x y = 0 := by simpa using ‹(cmpI x y != 0) = true›
        exact ⟨ret_i (Hat'.out hne), rfl⟩
      · go_round
        have he : cmpI x y = 0 := by simpa using ‹(cmpI x y != 0) = false›
        case rel => exact ⟨k + 1, by omega, by go_num, Hnx.out he⟩
        case measure => simp [intOf]; omega
    · obtain rfl : n = k := by omega
      go_wp2
      go_ret
      exact ⟨ret_i (Hsa.out hj), rfl⟩
end Go.Proofs.Yteilglljigjefaa

/- Sorting angles that are sorted. -/
namespace Go.Proofs.Yteilglljigjefaa
open Go.RowKit
theorem ints_three {w : World} {g : Nat} {x y z : Int} (hb : Blk w g [vint x, vint y, vint z]) : Ints w (some ⟨g, 0, none⟩) [x, y, z] := fun k hk => by
  refine ⟨_, rfl, ?_⟩
  rw [add_zero']
  rcases (by simp at hk; omega : k = 0 ∨ k = 1 ∨ k = 2) with rfl | rfl | rfl
  · exact hb.c 0 _ rfl
  · exact hb.c 1 _ rfl
  · exact hb.c 2 _ rfl
abbrev turnL (t : Int × Int × Int) : List Int := [t.1, t.2.1, t.2.2]
set_option maxHeartbeats 800000 in
theorem cmp_turns (s t : Int × Int × Int) (w : World) : Calls Try.prog 79 #[tval s, tval t] w fun e w' => e = .returned (.int .i64 (cmpL (turnL s) (turnL t))) ∧ Ext w w' := by
  obtain ⟨a, b, c⟩ := s
  obtain ⟨x, y, z⟩ := t
  have hk1 : Blk ((w.alloc (.cells #[vint a, vint b, vint c] 98)).alloc (.cells #[vint x, vint y, vint z] 98)) w.heap.size [vint a, vint b, vint c] := (Blk.new _ _).ext ((Ext.refl _).alloc _)
  have hk2 : Blk ((w.alloc (.cells #[vint a, vint b, vint c] 98)).alloc (.cells #[vint x, vint y, vint z] 98)) (w.heap.size + 1) [vint x, vint y, vint z] := Blk.new' (cs := #[vint x, vint y, vint z]) (by simp)
  have cc := fun (w' : World) (h : Ext ((w.alloc (.cells #[vint a, vint b, vint c] 98)).alloc (.cells #[vint x, vint y, vint z] 98)) w') => compare_any (some ⟨w.heap.size, 0, none⟩) (some ⟨w.heap.size + 1, 0, none⟩) 3 3 [a, b, c] [x, y, z] w' (ints_three (hk1.ext h)) (ints_three (hk2.ext h)) rfl (by simp)
  have Cc := Lib.hid cc
  clear cc hk1 hk2
  have s1 : ∀ (g : Nat) (w : World), (Instr.sliceAt 98 (.pointer (some ⟨g, 0, none⟩)) none none none).run Try.prog w = .ok (.slice (some ⟨g, 0, none⟩) 3 3) w := fun _ _ => by kernel_rfl
  go_enter Try.func79, Try.ntmps79
  go_wp2
  refine wp_region_calm 4 (fun _ _ v _ => v = .int .i64 (cmpL [a, b, c] [x, y, z])) (fun _ _ _ _ _ _ h => h) (by kernel_rfl) (by kernel_rfl) ?_
  simp only [List.take_succ_cons, List.take_zero, List.drop_succ_cons, List.drop_zero]
  refine calm_quiet calm_mono_final 2 (by kernel_rfl) ?_
  simp only [List.take_succ_cons, List.take_zero, List.drop_succ_cons, List.drop_zero]
  repeat (go_big_quiet_step (fail))
  refine wpQuiet_nil ?_
  refine calm_call calm_mono_final 80 #[.slice (some ⟨w.heap.size, 0, none⟩) 3 3, .slice (some ⟨w.heap.size + 1, 0, none⟩) 3 3] rfl (fun w => ?_) (fun w he hF => ?_) ?_
  · go_simp
  · exact (Cc.out w he).mono fun e w'' ⟨he', hx⟩ => ⟨_, he', by rw [hx]; exact Ext.refl _, rfl⟩
  rintro _ _ _ rfl
  simp only [Act.put, List.setIfInBounds_toArray, List.set_cons_succ, List.set_cons_zero]
  refine calm_quiet calm_mono_final 1 (by kernel_rfl) ?_
  simp only [List.take_succ_cons, List.take_zero, List.drop_succ_cons, List.drop_zero]
  repeat (go_big_quiet_step (fail))
  refine wpQuiet_nil ?_
  refine calm_nil fun w3 he3 _ => ?_
  go_wp2
  go_ret
  exact ⟨rfl, Ext.trans (by simp) he3⟩

/-- Angles that are in order. -/
def sortedT (l : List (Int × Int × Int)) : Prop := ∀ k, 0 < k → k < l.length → 0 ≤ cmpL (turnL (tAt l k)) (turnL (tAt l (k - 1)))
set_option maxHeartbeats 2000000 in
theorem insort_turns (A : Option Addr) (c : Nat) (l : List (Int × Int × Int)) (w : World) (hA : TRow w A l) (hl : l.length ≤ 12) (hs : sortedT l) :
    Calls Try.prog 113 #[.slice A l.length c, .int .i64 0, .int .i64 l.length, .func (.func 79) #[] #[]] w fun e w' => e = .returned (.tuple #[]) ∧ Ext w w' := by
  have ha := fun k (hk : k < l.length) => hA.at_ hk
  have hc := fun (s t : Int × Int × Int) (w' : World) => cmp_turns s t w'
  have Ha := Lib.hid ha
  have Hc := Lib.hid hc
  have Hs := Lib.hid hs
  clear ha hc hs hA
  obtain ⟨n, hn⟩ : ∃ n, n = l.length := ⟨_, rfl⟩
  unfold sortedT at Hs
  rw [← hn] at hl Ha Hs ⊢
  have Hn := Lib.hid hn
  clear hn
  go_enter Try.func113, Try.ntmps113
  go_wp2
  go_loopw [8] (fun i wr => ∃ k : Nat, 1 ≤ k ∧ (k ≤ n ∨ k = 1) ∧ i = .int .i64 k ∧ Ext w wr) (fun i _ => n + 1 - (intOf i).toNat)
  case atStart => exact ⟨1, by omega, .inr rfl, rfl, Ext.refl _⟩
  case round =>
    obtain ⟨k, hk1, hk2, rfl, hex⟩ := hrel
    by_cases hlt : k < n
    · obtain ⟨ad, rfl, c0, c1, c2⟩ := Ha.out k hlt
      obtain ⟨ad', had, d0, d1, d2⟩ := Ha.out (k - 1) (by omega)
      cases had
      have c0 : ∀ w', Ext wr w' → _ := fun w' he => c0 w' (hex.trans he)
      have c1 : ∀ w', Ext wr w' → _ := fun w' he => c1 w' (hex.trans he)
      have c2 : ∀ w', Ext wr w' → _ := fun w' he => c2 w' (hex.trans he)
      have d0 : ∀ w', Ext wr w' → _ := fun w' he => d0 w' (hex.trans he)
      have d1 : ∀ w', Ext wr w' → _ := fun w' he => d1 w' (hex.trans he)
      have d2 : ∀ w', Ext wr w' → _ := fun w' he => d2 w' (hex.trans he)
      have hcmp := Hs.out k (by omega) hlt
      have hcc := fun w' => Hc.out (tAt l k) (tAt l (k - 1)) w'
      have Hcc := Lib.hid hcc
      clear hcc Hc Hs Ha
      generalize tAt l k = s at *
      generalize tAt l (k - 1) = t at *
      generalize cmpL (turnL s) (turnL t) = cm at *
      obtain ⟨s0, s1, s2⟩ := s
      obtain ⟨t0, t1, t2⟩ := t
      have e1 : IntKind.i64.wrap ((k : Int) - 1) = ((k - 1 : Nat) : Int) := by rw [IntKind.wrap_i64]; omega
      have b1 : ((k - 1 : Nat) : Int) < (n : Int) := by omega
      have b2 : (k : Int) < (n : Int) := by omega
      have b3 : (0 : Int) < (k : Int) := by omega
      have b4 : ¬ cm < 0 := by omega
      have b5 : 0 < k := by omega
      go_wp2
      obtain ⟨wo, rfl⟩ : ∃ wo : World, wo = wr := ⟨_, rfl⟩
      go_loopw [9] (fun j wr => j = .int .i64 k ∧ Ext wo wr) (fun _ _ => 0)
      case atStart => exact ⟨rfl, Ext.refl _⟩
      case round =>
        obtain ⟨rfl, hex'⟩ := hrel
        have c0 : ∀ w', Ext wr w' → _ := fun w' he => c0 w' (hex'.trans he)
        have c1 : ∀ w', Ext wr w' → _ := fun w' he => c1 w' (hex'.trans he)
        have c2 : ∀ w', Ext wr w' → _ := fun w' he => c2 w' (hex'.trans he)
        have d0 : ∀ w', Ext wr w' → _ := fun w' he => d0 w' (hex'.trans he)
        have d1 : ∀ w', Ext wr w' → _ := fun w' he => d1 w' (hex'.trans he)
        have d2 : ∀ w', Ext wr w' → _ := fun w' he => d2 w' (hex'.trans he)
        go_wp2
        refine wp_region_calm 17 (fun _ _ v _ => v = .int .i64 cm) (fun _ _ _ _ _ _ h => h) (by kernel_rfl) (by kernel_rfl) ?_
        simp only [List.take_succ_cons, List.take_zero, List.drop_succ_cons, List.drop_zero]
        refine calm_quiet calm_mono_final 14 (by kernel_rfl) ?_
        simp only [List.take_succ_cons, List.take_zero, List.drop_succ_cons, List.drop_zero]
        repeat (go_big_quiet_step (fail))
        refine wpQuiet_nil ?_
        refine calm_call calm_mono_final 79 #[tval (s0, s1, s2), tval (t0, t1, t2)] rfl (fun w => ?_) (fun w he hF => ?_) ?_
        · go_simp
        · exact (Hcc.out w).mono fun e w'' ⟨he', hx⟩ => ⟨_, he', hx, rfl⟩
        rintro _ _ _ rfl
        simp only [Act.put, List.setIfInBounds_toArray, List.set_cons_succ, List.set_cons_zero]
        refine calm_quiet calm_mono_final 2 (by kernel_rfl) ?_
        simp only [List.take_succ_cons, List.take_zero, List.drop_succ_cons, List.drop_zero]
        repeat (go_big_quiet_step (fail))
        refine wpQuiet_nil ?_
        refine calm_nil fun w3 he3 _ => ?_
        go_wp2
        go_roundw
        case rel => exact ⟨k + 1, by omega, by omega, by go_num, hex.trans (hex'.trans he3)⟩
        case measure => simp [intOf]; omega
    · go_wp2
      go_end0
      exact ⟨rfl, hex⟩
end Go.Proofs.Yteilglljigjefaa

/- The number of bits of a small number. -/
namespace Go.Proofs.Yteilglljigjefaa
open Go.RowKit
set_option maxRecDepth 100000 in
set_option maxHeartbeats 4000000 in
theorem len64_small (x : Nat) (w : World) (hx : x ≤ 12) :
    Calls Try.prog 122 #[.int .u64 x] w fun e w' => ∃ L : Int, e = .returned (.int .i64 L) ∧ w = w' := by
  rcases (by omega : x = 0 ∨ x = 1 ∨ x = 2 ∨ x = 3 ∨ x = 4 ∨ x = 5 ∨ x = 6 ∨ x = 7 ∨ x = 8 ∨ x = 9 ∨ x = 10 ∨ x = 11 ∨ x = 12) with rfl | rfl | rfl | rfl | rfl | rfl | rfl | rfl | rfl | rfl | rfl | rfl | rfl
  all_goals
    go_enter Try.func122, Try.ntmps122
    go_wp2
    go_ret
    exact ⟨_, rfl, rfl⟩

set_option maxRecDepth 100000 in
theorem len_small (x : Nat) (w : World) (hx : x ≤ 12) : Calls Try.prog 104 #[.int .u64 x] w fun e w' => ∃ L : Int, e = .returned (.int .i64 L) ∧ w = w' := by
  have hc := fun w' => len64_small x w' hx
  have Hc := Lib.hid hc
  clear hc
  go_enter Try.func104, Try.ntmps104
  go_wp2_with (go_at_call 122; refine (Hc.out _).mono ?_; rintro e w' ⟨L, rfl, rfl⟩)
  go_ret
  exact ⟨_, rfl, rfl⟩
set_option maxRecDepth 100000 in
set_option maxHeartbeats 2000000 in
theorem pdq_turns (A : Option Addr) (c : Nat) (l : List (Int × Int × Int)) (L : Int) (w : World) (hA : TRow w A l) (hl : l.length ≤ 12) (hs : sortedT l) :
    Calls Try.prog 103 #[.slice A l.length c, .int .i64 0, .int .i64 l.length, .int .i64 L, .func (.func 79) #[] #[]] w fun e w' => e = .returned (.tuple #[]) ∧ Ext w w' := by
  have hc := insort_turns A c l w hA hl hs
  have Hc := Lib.hid hc
  clear hc hs hA
  generalize l.length = n at *
  go_enter Try.func103, Try.ntmps103
  go_wp2
  go_loopw [1, 2] (fun a b wr => a = .int .i64 0 ∧ b = .int .i64 n ∧ wr = w) (fun _ _ _ => 0)
  case atStart => exact ⟨rfl, rfl, rfl⟩
  case round =>
    obtain ⟨rfl, rfl, rfl⟩ := hrel
    go_wp2_with (go_at_call 113; refine Hc.out.mono ?_; rintro e w' ⟨rfl, hx⟩)
    (try simp only [Exit.inBlock, Exit.then])
    refine bodyPost_ret (results_none rfl _ _ _) rfl ?_
    exact ⟨rfl, hx⟩
set_option maxRecDepth 100000 in
set_option maxHeartbeats 2000000 in
theorem sort_turns (A : Option Addr) (c : Nat) (l : List (Int × Int × Int)) (w : World) (hA : TRow w A l) (hl : l.length ≤ 12) (hs : sortedT l) :
    Calls Try.prog 78 #[.slice A l.length c, .func (.func 79) #[] #[]] w fun e w' => e = .returned (.tuple #[]) ∧ Ext w w' := by
  have hc := fun L => pdq_turns A c l L w hA hl hs
  have hn := fun w' => len_small l.length w' hl
  have Hc := Lib.hid hc
  have Hn := Lib.hid hn
  clear hc hs hA hn
  generalize l.length = n at *
  go_enter Try.func78, Try.ntmps78
  go_wp2_with (first | (go_at_call 104; refine (Hn.out _).mono ?_; rintro e w' ⟨L, rfl, rfl⟩) | (go_at_call 103; refine (Hc.out _).mono ?_; rintro e w' ⟨rfl, hx⟩))
  go_end0
  exact ⟨rfl, hx⟩
end Go.Proofs.Yteilglljigjefaa
