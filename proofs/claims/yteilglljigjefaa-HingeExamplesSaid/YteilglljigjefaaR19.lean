/- Which proofs are right: the closures of the code. -/
import Derived.Test.YteilglljigjefaaR18
namespace Go.Proofs.Yteilglljigjefaa
open Go.RowKit
theorem cmpI_pos {a b : Int} : 0 < cmpI a b ↔ b < a := by unfold cmpI; split <;> (try split) <;> omega
theorem cmpI_neg {a b : Int} : cmpI a b < 0 ↔ a < b := by unfold cmpI; split <;> (try split) <;> omega
/-- The numbers of a line, in a block. -/
structure LineIn (w : World) (g : Nat) (rA rB rC rE : Int) : Prop where
  a : ∀ w', Ext w w' → w'.cell? ⟨g, 1, none⟩ = some (.int .i64 rA)
  b : ∀ w', Ext w w' → w'.cell? ⟨g, 2, none⟩ = some (.int .i64 rB)
  c : ∀ w', Ext w w' → w'.cell? ⟨g, 3, none⟩ = some (.int .i64 rC)
  e : ∀ w', Ext w w' → w'.cell? ⟨g, 4, none⟩ = some (.int .i64 rE)
  hA : -10000000 ≤ rA ∧ rA ≤ 10000000
  hB : -10000000 ≤ rB ∧ rB ≤ 10000000
  hC : -100000000000000 ≤ rC ∧ rC ≤ 100000000000000
  hE : 1 ≤ rE ∧ rE ≤ 20000
theorem LineIn.ext {w w' : World} {g : Nat} {rA rB rC rE : Int} (h : LineIn w g rA rB rC rE) (he : Ext w w') : LineIn w' g rA rB rC rE :=
  ⟨fun w2 h2 => h.a w2 (he.trans h2), fun w2 h2 => h.b w2 (he.trans h2), fun w2 h2 => h.c w2 (he.trans h2), fun w2 h2 => h.e w2 (he.trans h2), h.hA, h.hB, h.hC, h.hE⟩
def ovr (rA rB rC rE : Int) (c : Cn) : Int := cmpI (rE * (rA * c.at_.x + rB * c.at_.y)) (rC * c.d)
set_option maxRecDepth 100000 in
set_option maxHeartbeats 4000000 in
theorem right1_any (g : Nat) (rA rB rC rE : Int) (c : Cn) (w : World) (hl : LineIn w g rA rB rC rE) (hc : CnOk c) :
    Calls Try.prog 95 #[c.val, .pointer (some ⟨g, 0, none⟩)] w fun e w' => e = .returned (.int .i64 (ovr rA rB rC rE c)) ∧ Ext w w' := by
  obtain ⟨a, b, cc, ee, hA, hB, hC, hE⟩ := hl
  obtain ⟨f1, f2, f3, f4⟩ := line_fit hA hB hC hE hc.x hc.y hc.d
  have hcm := fun (w' : World) => cmp_any (rE * (rA * c.at_.x + rB * c.at_.y)) (rC * c.d) w'
  have ho : ovr rA rB rC rE c = cmpI (rE * (rA * c.at_.x + rB * c.at_.y)) (rC * c.d) := rfl
  rw [ho]
  have Hcm := Lib.hid hcm
  clear hcm ho hc hA hB hC hE
  obtain ⟨⟨x, y⟩, z⟩ := c
  simp only at f1 f2 f3 f4 Hcm ⊢
  generalize cmpI (rE * (rA * x + rB * y)) (rC * z) = R at *
  have hx0 : Ext w (w.alloc (.cells #[vint x, vint y, vint z] 114)) := (Ext.refl _).alloc _
  replace a : ∀ w', Ext (w.alloc (.cells #[vint x, vint y, vint z] 114)) w' → _ := fun w' he => a w' (hx0.trans he)
  replace b : ∀ w', Ext (w.alloc (.cells #[vint x, vint y, vint z] 114)) w' → _ := fun w' he => b w' (hx0.trans he)
  replace cc : ∀ w', Ext (w.alloc (.cells #[vint x, vint y, vint z] 114)) w' → _ := fun w' he => cc w' (hx0.trans he)
  replace ee : ∀ w', Ext (w.alloc (.cells #[vint x, vint y, vint z] 114)) w' → _ := fun w' he => ee w' (hx0.trans he)
  go_enter Try.func95, Try.ntmps95
  go_wp2_with (go_at_call 96; refine (Hcm.out _).mono ?_; rintro e w1 ⟨rfl, rfl⟩)
  go_ret
  exact ⟨rfl, hx0⟩
/-- The closure 'over' in a block. -/
structure OverIn (w : World) (g7 g : Nat) (rA rB rC rE : Int) : Prop where
  f : ∀ w', Ext w w' → w'.cell? ⟨g7, 0, none⟩ = some (.func (.func 95) #[] #[.pointer (some ⟨g, 0, none⟩)])
  l : LineIn w g rA rB rC rE
theorem OverIn.ext {w w' : World} {g7 g : Nat} {rA rB rC rE : Int} (h : OverIn w g7 g rA rB rC rE) (he : Ext w w') : OverIn w' g7 g rA rB rC rE := ⟨fun w2 h2 => h.f w2 (he.trans h2), h.l.ext he⟩
set_option maxRecDepth 100000 in
set_option maxHeartbeats 4000000 in
theorem right2_any (g7 g : Nat) (rA rB rC rE : Int) (c : Cn) (w : World) (hl : OverIn w g7 g rA rB rC rE) (hc : CnOk c) :
    Calls Try.prog 98 #[c.val, .pointer (some ⟨g7, 0, none⟩)] w fun e w' => e = .returned (.bool (decide (0 < ovr rA rB rC rE c))) ∧ Ext w w' := by
  have h1 := fun w' (he : Ext w w') => right1_any g rA rB rC rE c w' (hl.l.ext he) hc
  have hf := hl.f
  have H1 := Lib.hid h1
  clear h1 hl hc
  generalize ovr rA rB rC rE c = R at *
  obtain ⟨⟨x, y⟩, z⟩ := c
  have hx0 : Ext w (w.alloc (.cells #[vint x, vint y, vint z] 114)) := (Ext.refl _).alloc _
  replace hf : ∀ w', Ext (w.alloc (.cells #[vint x, vint y, vint z] 114)) w' → _ := fun w' he => hf w' (hx0.trans he)
  go_enter Try.func98, Try.ntmps98
  go_wp2_with (go_at_call 95; refine (H1.out _ hx0).mono ?_; rintro e w1 ⟨rfl, hx1⟩)
  go_ret
  exact ⟨rfl, hx0.trans hx1⟩
set_option maxRecDepth 100000 in
set_option maxHeartbeats 4000000 in
theorem index2_any (g7 g : Nat) (rA rB rC rE : Int) (A : Option Addr) (ca : Nat) (l : List Cn) (w : World) (hl : OverIn w g7 g rA rB rC rE) (hA : CRow w A l) (hc : CnsOk l) :
    Calls Try.prog 110 #[.slice A l.length ca, .func (.func 98) #[] #[.pointer (some ⟨g7, 0, none⟩)]] w fun e w' => ∃ i : Int, e = .returned (.int .i64 i) ∧ (0 ≤ i ↔ ∃ k, k < l.length ∧ 0 < ovr rA rB rC rE (cAt l k)) ∧ Ext w w' := by
  have hat := fun k (hk : k < l.length) => hA.at_ hk
  have hcl := fun k (hk : k < l.length) w' (he : Ext w w') => right2_any g7 g rA rB rC rE (cAt l k) w' (hl.ext he) (hc.at_ hk)
  have hn8 := hc.len.2
  have Hat := Lib.hid hat
  have Hcl := Lib.hid hcl
  clear hat hcl hl hA hc
  generalize l.length = n at *
  go_enter Try.func110, Try.ntmps110
  go_wp2
  go_loopw [8] (fun i' wr => ∃ k : Nat, k ≤ n ∧ i' = .int .i64 k ∧ Ext w wr ∧ ∀ j, j < k → ovr rA rB rC rE (cAt l j) ≤ 0) (fun i' _ => n - (intOf i').toNat)
  case atStart => exact ⟨0, by omega, rfl, Ext.refl _, fun j h => absurd h (by omega)⟩
  case round =>
    obtain ⟨k, hk, rfl, hex, hall⟩ := hrel
    have Hall := Lib.hid hall
    clear hall
    by_cases hlt : k < n
    · obtain ⟨ad, rfl, r0, r1, r2⟩ := Hat.out k hlt
      have c0 : ∀ w', Ext wr w' → _ := fun w' he => r0 w' (hex.trans he)
      have c1 : ∀ w', Ext wr w' → _ := fun w' he => r1 w' (hex.trans he)
      have c2 : ∀ w', Ext wr w' → _ := fun w' he => r2 w' (hex.trans he)
      have hcc := fun w' (he : Ext wr w') => Hcl.out k hlt w' (hex.trans he)
      have hnx : ovr rA rB rC rE (cAt l k) ≤ 0 → ∀ j, j < k + 1 → ovr rA rB rC rE (cAt l j) ≤ 0 := fun h j hj => by
        by_cases e : j = k
        · subst e; exact h
        · exact Hall.out j (by omega)
      have hy : 0 < ovr rA rB rC rE (cAt l k) → ∃ k, k < n ∧ 0 < ovr rA rB rC rE (cAt l k) := fun h => ⟨k, hlt, h⟩
      have Hnx := Lib.hid hnx
      have Hy := Lib.hid hy
      clear r0 r1 r2 Hat Hcl hnx hy Hall
      by_cases hp : 0 < ovr rA rB rC rE (cAt l k)
      · have hq := Hy.out hp
        have Hq := Lib.hid hq
        rw [decide_eq_true hp] at hcc
        have Hcc := Lib.hid hcc
        clear hq hcc hp Hnx Hy
        generalize cAt l k = o at c0 c1 c2 Hcc
        go_wp2_with (go_at_call 98; refine (Hcc.out _ (Ext.refl _)).mono ?_; rintro e w5 ⟨rfl, hx5⟩)
        go_ret
        exact ⟨k, rfl, ⟨fun _ => Hq.out, fun _ => by omega⟩, hex.trans hx5⟩
      · have hq := Hnx.out (by omega)
        have Hq := Lib.hid hq
        rw [decide_eq_false hp] at hcc
        have Hcc := Lib.hid hcc
        clear hq hcc hp Hnx Hy
        generalize cAt l k = o at c0 c1 c2 Hcc
        go_wp2_with (go_at_call 98; refine (Hcc.out _ (Ext.refl _)).mono ?_; rintro e w5 ⟨rfl, hx5⟩)
        go_roundw
        case rel => exact ⟨k + 1, by omega, by go_num, hex.trans hx5, Hq.out⟩
        case measure => simp [intOf]; omega
    · obtain rfl : n = k := by omega
      go_wp2
      go_ret
      exact ⟨-1, rfl, ⟨fun h => absurd h (by omega), fun ⟨j, h1, h2⟩ => by have := Hall.out j h1; omega⟩, hex⟩
set_option maxHeartbeats 4000000 in
theorem contains2_any (g7 g : Nat) (rA rB rC rE : Int) (A : Option Addr) (ca : Nat) (l : List Cn) (w : World) (hl : OverIn w g7 g rA rB rC rE) (hA : CRow w A l) (hc : CnsOk l) :
    ∃ S : Bool, (S = true ↔ ∃ k, k < l.length ∧ 0 < ovr rA rB rC rE (cAt l k)) ∧ ∀ w', Ext w w' → Calls Try.prog 97 #[.slice A l.length ca, .func (.func 98) #[] #[.pointer (some ⟨g7, 0, none⟩)]] w' fun e w'' => e = .returned (.bool S) ∧ Ext w' w'' := by
  refine ⟨@decide (∃ k, k < l.length ∧ 0 < ovr rA rB rC rE (cAt l k)) (Classical.propDecidable _), by simp, fun w' he => ?_⟩
  have hix := index2_any g7 g rA rB rC rE A ca l w' (hl.ext he) (hA.ext he) hc
  have hd : ∀ i : Int, (0 ≤ i ↔ ∃ k, k < l.length ∧ 0 < ovr rA rB rC rE (cAt l k)) → decide (0 ≤ i) = @decide (∃ k, k < l.length ∧ 0 < ovr rA rB rC rE (cAt l k)) (Classical.propDecidable _) := fun i h => by
    by_cases hi : 0 ≤ i
    · rw [decide_eq_true hi]; exact (@decide_eq_true _ (Classical.propDecidable _) (h.1 hi)).symm
    · rw [decide_eq_false hi]; exact (@decide_eq_false _ (Classical.propDecidable _) (fun h' => hi (h.2 h'))).symm
  have Hix := Lib.hid hix
  have Hd := Lib.hid hd
  clear hix hd hl hA hc
  generalize @decide (∃ k, k < l.length ∧ 0 < ovr rA rB rC rE (cAt l k)) (Classical.propDecidable _) = S at *
  generalize l.length = n at *
  go_enter Try.func97, Try.ntmps97
  go_wp2_with (go_at_call 110; refine Hix.out.mono ?_; rintro e w1 ⟨i, rfl, hi, h1⟩; have Hi := Lib.hid hi; clear hi)
  go_ret
  exact ⟨ret_b (Hd.out _ Hi.out), h1⟩
set_option maxRecDepth 100000 in
set_option maxHeartbeats 4000000 in
theorem right3_any (g7 g : Nat) (rA rB rC rE : Int) (c : Cn) (w : World) (hl : OverIn w g7 g rA rB rC rE) (hc : CnOk c) :
    Calls Try.prog 99 #[c.val, .pointer (some ⟨g7, 0, none⟩)] w fun e w' => e = .returned (.bool (decide (ovr rA rB rC rE c < 0))) ∧ Ext w w' := by
  have h1 := fun w' (he : Ext w w') => right1_any g rA rB rC rE c w' (hl.l.ext he) hc
  have hf := hl.f
  have H1 := Lib.hid h1
  clear h1 hl hc
  generalize ovr rA rB rC rE c = R at *
  obtain ⟨⟨x, y⟩, z⟩ := c
  have hx0 : Ext w (w.alloc (.cells #[vint x, vint y, vint z] 114)) := (Ext.refl _).alloc _
  replace hf : ∀ w', Ext (w.alloc (.cells #[vint x, vint y, vint z] 114)) w' → _ := fun w' he => hf w' (hx0.trans he)
  go_enter Try.func99, Try.ntmps99
  go_wp2_with (go_at_call 95; refine (H1.out _ hx0).mono ?_; rintro e w1 ⟨rfl, hx1⟩)
  go_ret
  exact ⟨rfl, hx0.trans hx1⟩
set_option maxRecDepth 100000 in
set_option maxHeartbeats 4000000 in
theorem index3_any (g7 g : Nat) (rA rB rC rE : Int) (A : Option Addr) (ca : Nat) (l : List Cn) (w : World) (hl : OverIn w g7 g rA rB rC rE) (hA : CRow w A l) (hc : CnsOk l) :
    Calls Try.prog 110 #[.slice A l.length ca, .func (.func 99) #[] #[.pointer (some ⟨g7, 0, none⟩)]] w fun e w' => ∃ i : Int, e = .returned (.int .i64 i) ∧ (0 ≤ i ↔ ∃ k, k < l.length ∧ ovr rA rB rC rE (cAt l k) < 0) ∧ Ext w w' := by
  have hat := fun k (hk : k < l.length) => hA.at_ hk
  have hcl := fun k (hk : k < l.length) w' (he : Ext w w') => right3_any g7 g rA rB rC rE (cAt l k) w' (hl.ext he) (hc.at_ hk)
  have hn8 := hc.len.2
  have Hat := Lib.hid hat
  have Hcl := Lib.hid hcl
  clear hat hcl hl hA hc
  generalize l.length = n at *
  go_enter Try.func110, Try.ntmps110
  go_wp2
  go_loopw [8] (fun i' wr => ∃ k : Nat, k ≤ n ∧ i' = .int .i64 k ∧ Ext w wr ∧ ∀ j, j < k → 0 ≤ ovr rA rB rC rE (cAt l j)) (fun i' _ => n - (intOf i').toNat)
  case atStart => exact ⟨0, by omega, rfl, Ext.refl _, fun j h => absurd h (by omega)⟩
  case round =>
    obtain ⟨k, hk, rfl, hex, hall⟩ := hrel
    have Hall := Lib.hid hall
    clear hall
    by_cases hlt : k < n
    · obtain ⟨ad, rfl, r0, r1, r2⟩ := Hat.out k hlt
      have c0 : ∀ w', Ext wr w' → _ := fun w' he => r0 w' (hex.trans he)
      have c1 : ∀ w', Ext wr w' → _ := fun w' he => r1 w' (hex.trans he)
      have c2 : ∀ w', Ext wr w' → _ := fun w' he => r2 w' (hex.trans he)
      have hcc := fun w' (he : Ext wr w') => Hcl.out k hlt w' (hex.trans he)
      have hnx : 0 ≤ ovr rA rB rC rE (cAt l k) → ∀ j, j < k + 1 → 0 ≤ ovr rA rB rC rE (cAt l j) := fun h j hj => by
        by_cases e : j = k
        · subst e; exact h
        · exact Hall.out j (by omega)
      have hy : ovr rA rB rC rE (cAt l k) < 0 → ∃ k, k < n ∧ ovr rA rB rC rE (cAt l k) < 0 := fun h => ⟨k, hlt, h⟩
      have Hnx := Lib.hid hnx
      have Hy := Lib.hid hy
      clear r0 r1 r2 Hat Hcl hnx hy Hall
      by_cases hp : ovr rA rB rC rE (cAt l k) < 0
      · have hq := Hy.out hp
        have Hq := Lib.hid hq
        rw [decide_eq_true hp] at hcc
        have Hcc := Lib.hid hcc
        clear hq hcc hp Hnx Hy
        generalize cAt l k = o at c0 c1 c2 Hcc
        go_wp2_with (go_at_call 99; refine (Hcc.out _ (Ext.refl _)).mono ?_; rintro e w5 ⟨rfl, hx5⟩)
        go_ret
        exact ⟨k, rfl, ⟨fun _ => Hq.out, fun _ => by omega⟩, hex.trans hx5⟩
      · have hq := Hnx.out (by omega)
        have Hq := Lib.hid hq
        rw [decide_eq_false hp] at hcc
        have Hcc := Lib.hid hcc
        clear hq hcc hp Hnx Hy
        generalize cAt l k = o at c0 c1 c2 Hcc
        go_wp2_with (go_at_call 99; refine (Hcc.out _ (Ext.refl _)).mono ?_; rintro e w5 ⟨rfl, hx5⟩)
        go_roundw
        case rel => exact ⟨k + 1, by omega, by go_num, hex.trans hx5, Hq.out⟩
        case measure => simp [intOf]; omega
    · obtain rfl : n = k := by omega
      go_wp2
      go_ret
      exact ⟨-1, rfl, ⟨fun h => absurd h (by omega), fun ⟨j, h1, h2⟩ => by have := Hall.out j h1; omega⟩, hex⟩
set_option maxHeartbeats 4000000 in
theorem contains3_any (g7 g : Nat) (rA rB rC rE : Int) (A : Option Addr) (ca : Nat) (l : List Cn) (w : World) (hl : OverIn w g7 g rA rB rC rE) (hA : CRow w A l) (hc : CnsOk l) :
    ∃ S : Bool, (S = true ↔ ∃ k, k < l.length ∧ ovr rA rB rC rE (cAt l k) < 0) ∧ ∀ w', Ext w w' → Calls Try.prog 97 #[.slice A l.length ca, .func (.func 99) #[] #[.pointer (some ⟨g7, 0, none⟩)]] w' fun e w'' => e = .returned (.bool S) ∧ Ext w' w'' := by
  refine ⟨@decide (∃ k, k < l.length ∧ ovr rA rB rC rE (cAt l k) < 0) (Classical.propDecidable _), by simp, fun w' he => ?_⟩
  have hix := index3_any g7 g rA rB rC rE A ca l w' (hl.ext he) (hA.ext he) hc
  have hd : ∀ i : Int, (0 ≤ i ↔ ∃ k, k < l.length ∧ ovr rA rB rC rE (cAt l k) < 0) → decide (0 ≤ i) = @decide (∃ k, k < l.length ∧ ovr rA rB rC rE (cAt l k) < 0) (Classical.propDecidable _) := fun i h => by
    by_cases hi : 0 ≤ i
    · rw [decide_eq_true hi]; exact (@decide_eq_true _ (Classical.propDecidable _) (h.1 hi)).symm
    · rw [decide_eq_false hi]; exact (@decide_eq_false _ (Classical.propDecidable _) (fun h' => hi (h.2 h'))).symm
  have Hix := Lib.hid hix
  have Hd := Lib.hid hd
  clear hix hd hl hA hc
  generalize @decide (∃ k, k < l.length ∧ ovr rA rB rC rE (cAt l k) < 0) (Classical.propDecidable _) = S at *
  generalize l.length = n at *
  go_enter Try.func97, Try.ntmps97
  go_wp2_with (go_at_call 110; refine Hix.out.mono ?_; rintro e w1 ⟨i, rfl, hi, h1⟩; have Hi := Lib.hid hi; clear hi)
  go_ret
  exact ⟨ret_b (Hd.out _ Hi.out), h1⟩
def leftP (c other : List Cn) (all : List Int) : Prop := ∀ j, j < all.length → inAt c other j (getI all j)
instance (c other : List Cn) (all : List Int) : Decidable (leftP c other all) := by unfold leftP; infer_instance
def leftB (c other : List Cn) (all : List Int) : Bool := decide (leftP c other all)
theorem leftB_yes {c other : List Cn} {all : List Int} (h : leftP c other all) : true = leftB c other all := (decide_eq_true h).symm
theorem leftB_no {c other : List Cn} {all : List Int} (h : ¬ leftP c other all) : false = leftB c other all := (decide_eq_false h).symm
set_option maxRecDepth 100000 in
set_option maxHeartbeats 8000000 in
theorem left4_any (A : Option Addr) (ca : Nat) (c : List Cn) (B : Option Addr) (cb : Nat) (other : List Cn) (I : Option Addr) (ic : Nat) (all : List Int) (w : World) (hA : CRow w A c) (hB : CRow w B other) (hI : Ints w I all) (hc : CnsOk c) (ho : CnsOk other) (hq : all.length ≤ c.length) :
    Calls Try.prog 100 #[.slice A c.length ca, .slice B other.length cb, .slice I all.length ic] w fun e w' => e = .returned (.bool (leftB c other all)) ∧ Ext w w' := by
  have hat := fun k (hk : k < c.length) => hA.at_ hk
  have hbt := fun k (hk : k < other.length) => hB.at_ hk
  have hit := fun k (hk : k < all.length) => intsAt hI hk
  have hsd : ∀ i, i < c.length → ∀ j, j < other.length → ∀ w' : World, Calls Try.prog 62 #[(cAt c i).val, (cAt c ((i + 1) % c.length)).val, (cAt other j).val] w' fun e w'' => e = .returned (.int .i64 (eside c i (cAt other j))) ∧ Ext w' w'' := fun i hi j hj w' => side_any _ _ _ w' (hc.edge hi) (ho.at_ hj)
  have hyes : (∀ j, j < all.length → inAt c other j (getI all j)) → true = leftB c other all := fun h => leftB_yes h
  have hno : ∀ j, j < all.length → ¬ inAt c other j (getI all j) → false = leftB c other all := fun j hj h => leftB_no fun h' => h (h' j hj)
  have hin : ∀ j x, inAt c other j x ↔ (0 ≤ x ∧ x < other.length ∧ 0 < eside c j (cAt other x.toNat)) := fun _ _ => Iff.rfl
  have hn8 := hc.len
  have hm8 := ho.len
  have Hat := Lib.hid hat
  have Hbt := Lib.hid hbt
  have Hit := Lib.hid hit
  have Hsd := Lib.hid hsd
  have Hyes := Lib.hid hyes
  have Hno := Lib.hid hno
  have Hin := Lib.hid hin
  clear hat hbt hit hsd hyes hno hin hA hB hI hc ho
  generalize leftB c other all = R at *
  generalize c.length = n at *
  generalize other.length = m at *
  generalize all.length = q at *
  go_enter Try.func100, Try.ntmps100
  go_wp2
  go_loopw [11] (fun i wr => ∃ k : Nat, k ≤ q ∧ i = .int .i64 k ∧ Ext w wr ∧ ∀ j, j < k → inAt c other j (getI all j)) (fun i _ => q - (intOf i).toNat)
  case atStart => exact ⟨0, by omega, rfl, Ext.refl _, fun j h => absurd h (by omega)⟩
  case round =>
    obtain ⟨k, hk, rfl, hex, hall⟩ := hrel
    have Hall := Lib.hid hall
    clear hall
    by_cases hlt : k < q
    · obtain ⟨id, rfl, p0⟩ := Hit.out k hlt
      have u0 : ∀ w', Ext wr w' → _ := fun w' he => p0 w' (hex.trans he)
      have hnx : inAt c other k (getI all k) → ∀ j, j < k + 1 → inAt c other j (getI all j) := fun h j hj => by
        by_cases e : j = k
        · subst e; exact h
        · exact Hall.out j (by omega)
      have hno := Hno.out k hlt
      have hin := Hin.out k (getI all k)
      have Hnx := Lib.hid hnx
      have Hno' := Lib.hid hno
      have Hin' := Lib.hid hin
      have hkq : (k : Int) < (q : Int) := by omega
      clear p0 hnx hno hin Hall Hno Hin Hyes Hit
      have hkn : k < n := by omega
      generalize getI all k = x at *
      by_cases h1 : x < 0
      · have hq' := Hno'.out (fun h => by have := (Hin'.out.1 h).1; omega)
        have Hq := Lib.hid hq'
        have d1 : decide (x < 0) = true := by simpa using h1
        clear hq' Hnx Hno' Hin' Hat Hbt Hsd h1
        go_wp2
        refine wp_region_calm 28 (fun _ _ _ _ => True) (fun _ _ _ _ _ _ h => h) (by kernel_rfl) (by kernel_rfl) ?_
        simp only [List.take_succ_cons, List.take_zero, List.drop_succ_cons, List.drop_zero]
        refine calm_quiet calm_mono_final 25 (by kernel_rfl) ?_
        simp only [List.take_succ_cons, List.take_zero, List.drop_succ_cons, List.drop_zero]
        repeat (go_big_quiet_step (fail))
        refine wpQuiet_nil ?_
        refine calm_skip (by kernel_rfl) ?_
        simp only [Act.put, List.setIfInBounds_toArray, List.set_cons_succ, List.set_cons_zero]
        refine calm_quiet calm_mono_final 2 (by kernel_rfl) ?_
        simp only [List.take_succ_cons, List.take_zero, List.drop_succ_cons, List.drop_zero]
        repeat (go_big_quiet_step (fail))
        refine wpQuiet_nil ?_
        refine calm_nil fun w3 he3 _ => ?_
        go_wp2
        go_ret
        exact ⟨ret_b Hq.out, hex.trans he3⟩
      · have d1 : decide (x < 0) = false := by simpa using h1
        by_cases h2 : (m : Int) ≤ x
        · have hq' := Hno'.out (fun h => by have := (Hin'.out.1 h).2.1; omega)
          have Hq := Lib.hid hq'
          have d2 : decide ((m : Int) ≤ x) = true := by simpa using h2
          clear hq' Hnx Hno' Hin' Hat Hbt Hsd h1 h2
          go_wp2
          refine wp_region_calm 28 (fun _ _ _ _ => True) (fun _ _ _ _ _ _ h => h) (by kernel_rfl) (by kernel_rfl) ?_
          simp only [List.take_succ_cons, List.take_zero, List.drop_succ_cons, List.drop_zero]
          refine calm_quiet calm_mono_final 25 (by kernel_rfl) ?_
          simp only [List.take_succ_cons, List.take_zero, List.drop_succ_cons, List.drop_zero]
          repeat (go_big_quiet_step (fail))
          refine wpQuiet_nil ?_
          refine calm_skip (by kernel_rfl) ?_
          simp only [Act.put, List.setIfInBounds_toArray, List.set_cons_succ, List.set_cons_zero]
          refine calm_quiet calm_mono_final 2 (by kernel_rfl) ?_
          simp only [List.take_succ_cons, List.take_zero, List.drop_succ_cons, List.drop_zero]
          repeat (go_big_quiet_step (fail))
          refine wpQuiet_nil ?_
          refine calm_nil fun w3 he3 _ => ?_
          go_wp2
          go_ret
          exact ⟨ret_b Hq.out, hex.trans he3⟩
        · have d2 : decide ((m : Int) ≤ x) = false := by simpa using h2
          obtain ⟨j, rfl⟩ := Int.eq_ofNat_of_zero_le (show 0 ≤ x by omega)
          have hjm : j < m := by omega
          have d2' : decide (m ≤ j) = false := by simp; omega
          have e2 : ((k : Int) + 1).tmod (n : Int) = (((k + 1) % n : Nat) : Int) := by
            rw [Int.tmod_eq_emod_of_nonneg (by omega)]; exact (by push_cast; rfl)
          have e3 : ((n : Int) = 0) = False := by simp; omega
          have hk1 := Nat.mod_lt (k + 1) (show 0 < n by omega)
          obtain ⟨ad, rfl, a0, a1, a2⟩ := Hat.out k hkn
          obtain ⟨_, ee, b0, b1, b2⟩ := Hat.out _ hk1
          cases ee
          obtain ⟨bd, rfl, z0, z1, z2⟩ := Hbt.out j hjm
          replace a0 : ∀ w', Ext wr w' → _ := fun w' he => a0 w' (hex.trans he)
          replace a1 : ∀ w', Ext wr w' → _ := fun w' he => a1 w' (hex.trans he)
          replace a2 : ∀ w', Ext wr w' → _ := fun w' he => a2 w' (hex.trans he)
          replace b0 : ∀ w', Ext wr w' → _ := fun w' he => b0 w' (hex.trans he)
          replace b1 : ∀ w', Ext wr w' → _ := fun w' he => b1 w' (hex.trans he)
          replace b2 : ∀ w', Ext wr w' → _ := fun w' he => b2 w' (hex.trans he)
          replace z0 : ∀ w', Ext wr w' → _ := fun w' he => z0 w' (hex.trans he)
          replace z1 : ∀ w', Ext wr w' → _ := fun w' he => z1 w' (hex.trans he)
          replace z2 : ∀ w', Ext wr w' → _ := fun w' he => z2 w' (hex.trans he)
          have hs := Hsd.out k hkn j hjm
          have hin := Hin'.out
          simp only [Int.toNat_natCast] at hin
          have Hs := Lib.hid hs
          have Hin := Lib.hid hin
          clear hs hin Hin' Hat Hbt Hsd h1 h2
          generalize (k + 1) % n = k1 at *
          generalize eside c k (cAt other j) = D at *
          generalize cAt c k = a at *
          generalize cAt c k1 = b at *
          generalize cAt other j = z at *
          have hk1n : (k1 : Int) < (n : Int) := by omega
          have hkn' : (k : Int) < (n : Int) := by omega
          have hjm' : (j : Int) < (m : Int) := by omega
          by_cases hD : D ≤ 0
          · have hq' := Hno'.out (fun h => by have := (Hin.out.1 h).2.2; omega)
            have Hq := Lib.hid hq'
            have d5 : decide (D ≤ 0) = true := by simpa using hD
            clear hq' Hnx Hno' Hin hD
            go_wp2
            refine wp_region_calm 28 (fun j _ v _ => j = 25 → v = .int .i64 D) (fun _ _ _ _ _ _ h => h) (by kernel_rfl) (by kernel_rfl) ?_
            simp only [List.take_succ_cons, List.take_zero, List.drop_succ_cons, List.drop_zero]
            refine calm_quiet calm_mono_final 25 (by kernel_rfl) ?_
            simp only [List.take_succ_cons, List.take_zero, List.drop_succ_cons, List.drop_zero]
            repeat (go_big_quiet_step (fail))
            refine wpQuiet_nil ?_
            refine calm_call calm_mono_final 62 #[a.val, b.val, z.val] rfl (fun w => ?_) (fun w he hF => ?_) ?_
            · go_simp
            · exact (Hs.out w).mono fun e w'' ⟨he', hx⟩ => ⟨_, he', hx, fun _ => rfl⟩
            rintro _ _ _ h
            cases h rfl
            simp only [Act.put, List.setIfInBounds_toArray, List.set_cons_succ, List.set_cons_zero]
            refine calm_quiet calm_mono_final 2 (by kernel_rfl) ?_
            simp only [List.take_succ_cons, List.take_zero, List.drop_succ_cons, List.drop_zero]
            repeat (go_big_quiet_step (fail))
            refine wpQuiet_nil ?_
            refine calm_nil fun w3 he3 _ => ?_
            go_wp2
            go_ret
            exact ⟨ret_b Hq.out, hex.trans he3⟩
          · have hq' := Hnx.out (Hin.out.2 ⟨by omega, by omega, by omega⟩)
            have Hq := Lib.hid hq'
            have d5 : decide (D ≤ 0) = false := by simpa using hD
            clear hq' Hnx Hno' Hin hD
            go_wp2
            refine wp_region_calm 28 (fun j _ v _ => j = 25 → v = .int .i64 D) (fun _ _ _ _ _ _ h => h) (by kernel_rfl) (by kernel_rfl) ?_
            simp only [List.take_succ_cons, List.take_zero, List.drop_succ_cons, List.drop_zero]
            refine calm_quiet calm_mono_final 25 (by kernel_rfl) ?_
            simp only [List.take_succ_cons, List.take_zero, List.drop_succ_cons, List.drop_zero]
            repeat (go_big_quiet_step (fail))
            refine wpQuiet_nil ?_
            refine calm_call calm_mono_final 62 #[a.val, b.val, z.val] rfl (fun w => ?_) (fun w he hF => ?_) ?_
            · go_simp
            · exact (Hs.out w).mono fun e w'' ⟨he', hx⟩ => ⟨_, he', hx, fun _ => rfl⟩
            rintro _ _ _ h
            cases h rfl
            simp only [Act.put, List.setIfInBounds_toArray, List.set_cons_succ, List.set_cons_zero]
            refine calm_quiet calm_mono_final 2 (by kernel_rfl) ?_
            simp only [List.take_succ_cons, List.take_zero, List.drop_succ_cons, List.drop_zero]
            repeat (go_big_quiet_step (fail))
            refine wpQuiet_nil ?_
            refine calm_nil fun w3 he3 _ => ?_
            go_wp2
            go_roundw
            case rel => exact ⟨k + 1, by omega, by go_num, hex.trans he3, Hq.out⟩
            case measure => simp [intOf]; omega
    · obtain rfl : q = k := by omega
      have hy := Hyes.out Hall.out
      have Hy := Lib.hid hy
      clear hy Hyes Hno Hin Hall Hat Hbt Hit Hsd
      go_wp2
      go_ret
      exact ⟨ret_b Hy.out, hex⟩
end Go.Proofs.Yteilglljigjefaa
