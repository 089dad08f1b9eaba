/- Pairs, sorted: by the code. -/
import Derived.Test.YteilglljigjefaaHc02
namespace Go.Proofs.Yteilglljigjefaa
open Go.RowKit
theorem ints_two {w : World} {g : Nat} {x y : Int} (hb : Blk w g [vint x, vint y]) : Ints w (some ⟨g, 0, none⟩) [x, y] := fun k hk => by
  refine ⟨_, rfl, ?_⟩
  rw [add_zero']
  rcases (by simp at hk; omega : k = 0 ∨ k = 1) with rfl | rfl
  · exact hb.c 0 _ rfl
  · exact hb.c 1 _ rfl
abbrev pairL (t : Int × Int) : List Int := [t.1, t.2]
theorem eql_pair (a b c d : Int) (w : World) : (binOp .eql 91 (.agg #[.int .i64 a, .int .i64 b]) (.agg #[.int .i64 c, .int .i64 d])).run Try.prog w = .ok (.bool (a == c && b == d)) w := by
  rw [run_eql_struct, eq_pair]
  simp [Result.andThen]
set_option maxHeartbeats 800000 in
theorem cmp_pairs (s t : Int × Int) (w : World) : Calls Try.prog 90 #[pval s, pval t] w fun e w' => e = .returned (.int .i64 (cmpL (pairL s) (pairL t))) ∧ Ext w w' := by
  obtain ⟨a, b⟩ := s
  obtain ⟨x, y⟩ := t
  have hk1 : Blk ((w.alloc (.cells #[vint a, vint b] 91)).alloc (.cells #[vint x, vint y] 91)) w.heap.size [vint a, vint b] := (Blk.new _ _).ext ((Ext.refl _).alloc _)
  have hk2 : Blk ((w.alloc (.cells #[vint a, vint b] 91)).alloc (.cells #[vint x, vint y] 91)) (w.heap.size + 1) [vint x, vint y] := Blk.new' (cs := #[vint x, vint y]) (by simp)
  have cc := fun (w' : World) (h : Ext ((w.alloc (.cells #[vint a, vint b] 91)).alloc (.cells #[vint x, vint y] 91)) w') => compare_any (some ⟨w.heap.size, 0, none⟩) (some ⟨w.heap.size + 1, 0, none⟩) 2 2 [a, b] [x, y] w' (ints_two (hk1.ext h)) (ints_two (hk2.ext h)) rfl (by simp)
  have hsame : a = x → b = y → (0 : Int) = cmpL [a, b] [x, y] := fun h1 h2 => by subst h1 h2; simp [cmpL, cmpI]
  have Cc := Lib.hid cc
  have Hs := Lib.hid hsame
  clear cc hk1 hk2 hsame
  have s1 : ∀ (g : Nat) (w : World), (Instr.sliceAt 91 (.pointer (some ⟨g, 0, none⟩)) none none none).run Try.prog w = .ok (.slice (some ⟨g, 0, none⟩) 2 2) w := fun _ _ => by kernel_rfl
  have he := eql_pair a b x y
  have hx0 : Ext w ((w.alloc (.cells #[vint a, vint b] 91)).alloc (.cells #[vint x, vint y] 91)) := ((Ext.refl _).alloc _).alloc _
  by_cases h : a = x ∧ b = y
  · have hz := Hs.out h.1 h.2
    have Hz := Lib.hid hz
    have d1 : (a == x && b == y) = true := by simp [h.1, h.2]
    rw [d1] at he
    clear h hz d1 Cc Hs
    go_enter Try.func90, Try.ntmps90
    go_wp2
    go_ret
    exact ⟨ret_i Hz.out, hx0⟩
  · have d1 : (a == x && b == y) = false := by
      cases e : (a == x && b == y)
      · rfl
      · simp at e; exact absurd e h
    rw [d1] at he
    clear h d1 Hs
    go_enter Try.func90, Try.ntmps90
    go_wp2
    refine wp_region_calm 4 (fun _ _ v _ => v = .int .i64 (cmpL [a, b] [x, y])) (fun _ _ _ _ _ _ h => h) (by kernel_rfl) (by kernel_rfl) ?_
    simp only [List.take_succ_cons, List.take_zero, List.drop_succ_cons, List.drop_zero]
    refine calm_quiet calm_mono_final 2 (by kernel_rfl) ?_
    simp only [List.take_succ_cons, List.take_zero, List.drop_succ_cons, List.drop_zero]
    repeat (go_big_quiet_step (fail))
    refine wpQuiet_nil ?_
    refine calm_call calm_mono_final 80 #[.slice (some ⟨w.heap.size, 0, none⟩) 2 2, .slice (some ⟨w.heap.size + 1, 0, none⟩) 2 2] rfl (fun w => ?_) (fun w he hF => ?_) ?_
    · go_simp
    · exact (Cc.out w he).mono fun e w'' ⟨he', hx⟩ => ⟨_, he', by rw [hx]; exact Ext.refl _, rfl⟩
    rintro _ _ _ rfl
    simp only [Act.put, List.setIfInBounds_toArray, List.set_cons_succ, List.set_cons_zero]
    refine calm_quiet calm_mono_final 1 (by kernel_rfl) ?_
    simp only [List.take_succ_cons, List.take_zero, List.drop_succ_cons, List.drop_zero]
    repeat (go_big_quiet_step (fail))
    refine wpQuiet_nil ?_
    refine calm_nil fun w3 he3 _ => ?_
    go_wp2
    go_ret
    exact ⟨rfl, hx0.trans he3⟩
/-! ### The sort, plain -/
def pLess (p q : Int × Int) : Bool := decide (cmpL (pairL p) (pairL q) < 0)
/-- Two entries exchanged: j + 1 and j. -/
def swp (l : List (Int × Int)) (j : Nat) : List (Int × Int) := (l.set (j + 1) (pAt l j)).set j (pAt l (j + 1))
def bub (l : List (Int × Int)) : Nat → List (Int × Int)
  | 0 => l
  | j + 1 => bif pLess (pAt l (j + 1)) (pAt l j) then bub (swp l j) j else l
def insr (l : List (Int × Int)) : Nat → List (Int × Int)
  | 0 => l
  | k + 1 => bub (insr l k) (k + 1)
theorem swp_len (l : List (Int × Int)) (j : Nat) : (swp l j).length = l.length := by simp [swp]
theorem bub_len : ∀ (j : Nat) (l : List (Int × Int)), (bub l j).length = l.length
  | 0, l => rfl
  | j + 1, l => by
    unfold bub
    cases pLess (pAt l (j + 1)) (pAt l j)
    · rfl
    · show (bub (swp l j) j).length = _
      rw [bub_len j, swp_len]
theorem insr_len (l : List (Int × Int)) : ∀ k, (insr l k).length = l.length
  | 0 => rfl
  | k + 1 => by rw [insr, bub_len, insr_len l k]
theorem pcells_set : ∀ (l : List (Int × Int)) (k : Nat) (p : Int × Int), k < l.length → (((l.map pcells).flatten.set (k * 2) (vint p.1)).set (k * 2 + 1) (vint p.2)) = ((l.set k p).map pcells).flatten
  | [], k, p, h => by simp at h
  | q :: t, 0, p, _ => by simp [pcells]
  | q :: t, k + 1, p, h => by
    have ih := pcells_set t k p (by simpa using h)
    have e1 : (k + 1) * 2 = k * 2 + 1 + 1 := by omega
    simp only [List.map_cons, List.flatten_cons, pcells, List.cons_append, List.nil_append, List.set_cons_succ, e1] at ih ⊢
    rw [ih]
theorem pcells_swp (l : List (Int × Int)) (j : Nat) (h : j + 1 < l.length) : (((((l.map pcells).flatten.set ((j + 1) * 2) (vint (pAt l j).1)).set ((j + 1) * 2 + 1) (vint (pAt l j).2)).set (j * 2) (vint (pAt l (j + 1)).1)).set (j * 2 + 1) (vint (pAt l (j + 1)).2)) = ((swp l j).map pcells).flatten := by
  rw [pcells_set l (j + 1) _ h, pcells_set _ j _ (by simp; omega)]
  rfl
theorem pcells_get (l : List (Int × Int)) {k : Nat} (h : k < l.length) : ((l.map pcells).flatten)[k * 2]? = some (vint (pAt l k).1) ∧ ((l.map pcells).flatten)[k * 2 + 1]? = some (vint (pAt l k).2) := by
  have h0 := flatten_get 2 (l.map pcells) (fun r hr => by obtain ⟨x, _, rfl⟩ := List.mem_map.1 hr; rfl) k 0 (by omega) (by simpa using h)
  have h1 := flatten_get 2 (l.map pcells) (fun r hr => by obtain ⟨x, _, rfl⟩ := List.mem_map.1 hr; rfl) k 1 (by omega) (by simpa using h)
  rw [Nat.add_zero] at h0
  rw [h0, h1, pAt_eq h]
  simp [pcells]
abbrev OwnQ (w1 w : World) (v : Value) (xs : List (Int × Int)) : Prop := Own w1 w 91 2 v xs.length (xs.map pcells).flatten
set_option maxRecDepth 100000 in
set_option maxHeartbeats 8000000 in
theorem insort_pairs (w1 : World) (v : Value) (l : List (Int × Int)) (w : World) (hA : OwnQ w1 w v l) (hl : l.length ≤ 12) :
    Calls Try.prog 123 #[v, .int .i64 0, .int .i64 l.length, .func (.func 90) #[] #[]] w fun e w' => e = .returned (.tuple #[]) ∧ OwnQ w1 w' v (insr l (l.length - 1)) := by
  have hc := fun (s t : Int × Int) (w' : World) => cmp_pairs s t w'
  have Hc := Lib.hid hc
  clear hc
  obtain ⟨n, hn⟩ : ∃ n, n = l.length := ⟨_, rfl⟩
  have hfin : ∀ w' k, 1 ≤ k → (k = n ∨ (k = 1 ∧ n = 0)) → Own w1 w' 91 2 v n ((insr l (k - 1)).map pcells).flatten → OwnQ w1 w' v (insr l (n - 1)) := fun w' k h1 h2 h3 => by
    have e : k - 1 = n - 1 := by omega
    rw [e] at h3
    show Own w1 w' _ 2 v (insr l (n - 1)).length _
    rw [insr_len, ← hn]
    exact h3
  have hil := fun k => insr_len l k
  have hA : Own w1 w 91 2 v n ((insr l 0).map pcells).flatten := by rw [hn]; exact hA
  rw [← hn] at hl ⊢
  simp only [← hn] at hil
  have Hfin := Lib.hid hfin
  have Hil := Lib.hid hil
  clear hfin hil hn
  obtain ⟨A, c, rfl⟩ := hA.form
  go_enter Try.func123, Try.ntmps123
  go_wp2
  go_loopw [8] (fun i wr => ∃ k : Nat, 1 ≤ k ∧ (k ≤ n ∨ k = 1) ∧ i = .int .i64 k ∧ Own w1 wr 91 2 (.slice A n c) n ((insr l (k - 1)).map pcells).flatten) (fun i _ => n + 1 - (intOf i).toNat)
  case atStart => exact ⟨1, by omega, .inr rfl, rfl, hA⟩
  case round =>
    clear hA
    obtain ⟨k, hk1, hk2, rfl, hown⟩ := hrel
    by_cases hlt : k < n
    · obtain ⟨g, cg, ee, _, _⟩ := hown.at_ (by omega)
      cases ee
      have b2 : (k : Int) < (n : Int) := by omega
      go_wp2
      obtain ⟨wo, rfl⟩ : ∃ wo : World, wo = wr := ⟨_, rfl⟩
      go_loopw [9] (fun j wr => ∃ (i : Nat) (L : List (Int × Int)), i ≤ k ∧ j = .int .i64 i ∧ L.length = n ∧ Own w1 wr 91 2 (.slice (some ⟨g, 0, none⟩) n c) n (L.map pcells).flatten ∧ Hid (bub L i = insr l k)) (fun j _ => (intOf j).toNat)
      case atStart => exact ⟨k, insr l (k - 1), Nat.le_refl _, rfl, Hil.out _, hown, Lib.hid (by obtain ⟨m, rfl⟩ : ∃ m, k = m + 1 := ⟨k - 1, by omega⟩; rfl)⟩
      case round =>
        clear hown
        obtain ⟨i, L, hi, rfl, hLl, hown, Hb⟩ := hrel
        cases i with
        | zero =>
          have hb : L = insr l k := Hb.out
          have hown2 : Own w1 wr 91 2 (.slice (some ⟨g, 0, none⟩) n c) n ((insr l (k + 1 - 1)).map pcells).flatten := by
            rw [← show L = insr l (k + 1 - 1) from hb]; exact hown
          have Hown := Lib.hid hown2
          clear hown hown2 hb Hb Hc
          go_wp2
          refine wp_region_calm 17 (fun _ _ _ _ => True) (fun _ _ _ _ _ _ h => h) (by kernel_rfl) (by kernel_rfl) ?_
          simp only [List.take_succ_cons, List.take_zero, List.drop_succ_cons, List.drop_zero]
          refine calm_quiet calm_mono_final 14 (by kernel_rfl) ?_
          simp only [List.take_succ_cons, List.take_zero, List.drop_succ_cons, List.drop_zero]
          repeat (go_big_quiet_step (fail))
          refine wpQuiet_nil ?_
          refine calm_skip (by kernel_rfl) ?_
          simp only [Act.put, List.setIfInBounds_toArray, List.set_cons_succ, List.set_cons_zero]
          refine calm_quiet calm_mono_final 2 (by kernel_rfl) ?_
          simp only [List.take_succ_cons, List.take_zero, List.drop_succ_cons, List.drop_zero]
          repeat (go_big_quiet_step (fail))
          refine wpQuiet_nil ?_
          refine calm_nil fun w3 he3 _ => ?_
          go_wp2
          go_roundw
          case rel => exact ⟨k + 1, by omega, by omega, by go_num, Hown.out.later he3⟩
          case measure => simp [intOf]; omega
        | succ j =>
          have hj1 : j + 1 < L.length := by omega
          obtain ⟨g0, g1⟩ := pcells_get L hj1
          obtain ⟨f0, f1⟩ := pcells_get L (show j < L.length by omega)
          have hcl := pcells_len L
          have x0 : wr.cell? ⟨g, (j + 1) * 2, none⟩ = some (vint (pAt L (j + 1)).1) := (hown.cell (j := (j + 1) * 2) (by omega)).trans g0
          have x1 : wr.cell? ⟨g, (j + 1) * 2 + 1, none⟩ = some (vint (pAt L (j + 1)).2) := (hown.cell (j := (j + 1) * 2 + 1) (by omega)).trans g1
          have y0 : wr.cell? ⟨g, j * 2, none⟩ = some (vint (pAt L j).1) := (hown.cell (j := j * 2) (by omega)).trans f0
          have y1 : wr.cell? ⟨g, j * 2 + 1, none⟩ = some (vint (pAt L j).2) := (hown.cell (j := j * 2 + 1) (by omega)).trans f1
          have hf := hown.free
          have hcc := fun w' => Hc.out (pAt L (j + 1)) (pAt L j) w'
          have hsw := pcells_swp L j hj1
          have hbu : bub L (j + 1) = bif pLess (pAt L (j + 1)) (pAt L j) then bub (swp L j) j else L := rfl
          have hpl : pLess (pAt L (j + 1)) (pAt L j) = decide (cmpL (pairL (pAt L (j + 1))) (pairL (pAt L j)) < 0) := rfl
          rw [hpl] at hbu
          have Hcc := Lib.hid hcc
          have Hsw := Lib.hid hsw
          have Hbu := Lib.hid hbu
          have Hown := Lib.hid hown
          have Hsl := Lib.hid (swp_len L j)
          have X := Lib.hid (And.intro x0 (And.intro x1 (And.intro y0 y1)))
          have p0 := Ext.cells x0
          have p1 := Ext.cells x1
          have p2 := Ext.cells y0
          have p3 := Ext.cells y1
          clear g0 g1 f0 f1 hcc hsw hbu hpl hown hcl x0 x1 y0 y1 Hc
          generalize cmpL (pairL (pAt L (j + 1))) (pairL (pAt L j)) = cm at *
          generalize pAt L (j + 1) = s at *
          generalize pAt L j = t at *
          have e1 : IntKind.i64.wrap (((j + 1 : Nat) : Int) - 1) = (j : Int) := by rw [IntKind.wrap_i64]; omega
          have b3 : (0 : Int) < ((j + 1 : Nat) : Int) := by omega
          have b4 : ((j + 1 : Nat) : Int) < (n : Int) := by omega
          have b5 : (j : Int) < (n : Int) := by omega
          by_cases hcm : cm < 0
          · have hq : bub (swp L j) j = insr l k := by
              have h1 := Hbu.out
              rw [decide_eq_true hcm] at h1
              rw [← Hb.out, h1]
              rfl
            have Hq := Lib.hid hq
            have d1 : decide (cm < 0) = true := by simpa using hcm
            clear hq Hbu Hb
            go_wp2
            refine wp_region_calm 17 (fun _ _ v _ => v = .int .i64 cm) (fun _ _ _ _ _ _ h => h) (by kernel_rfl) (by kernel_rfl) ?_
            simp only [List.take_succ_cons, List.take_zero, List.drop_succ_cons, List.drop_zero]
            refine calm_quiet calm_mono_final 14 (by kernel_rfl) ?_
            simp only [List.take_succ_cons, List.take_zero, List.drop_succ_cons, List.drop_zero]
            repeat (go_big_quiet_step (fail))
            refine wpQuiet_nil ?_
            refine calm_call calm_mono_final 90 #[pval s, pval t] rfl (fun w => ?_) (fun w he hF => ?_) ?_
            · go_simp
            · exact (Hcc.out w).mono fun e w'' ⟨he', hx⟩ => ⟨_, he', hx, rfl⟩
            rintro _ _ _ rfl
            simp only [Act.put, List.setIfInBounds_toArray, List.set_cons_succ, List.set_cons_zero]
            refine calm_quiet calm_mono_final 2 (by kernel_rfl) ?_
            simp only [List.take_succ_cons, List.take_zero, List.drop_succ_cons, List.drop_zero]
            repeat (go_big_quiet_step (fail))
            refine wpQuiet_nil ?_
            refine calm_nil fun w3 he3 _ => ?_
            obtain ⟨x0, x1, y0, y1⟩ := X.out
            have x0 := he3.cell x0
            have x1 := he3.cell x1
            have y0 := he3.cell y0
            have y1 := he3.cell y1
            have hown3 := Hown.out.later he3
            have hf := hown3.free
            have Hown3 := Lib.hid hown3
            clear p0 p1 p2 p3 hown3
            go_wp2
            go_region
            have hown4 := ((((Hown3.out.store ((j + 1) * 2) (vint t.1)).store ((j + 1) * 2 + 1) (vint t.2)).store (j * 2) (vint s.1)).store (j * 2 + 1) (vint s.2)).later (Ext.refl _).drew
            rw [Hsw.out] at hown4
            generalize ((((w3.setCell ⟨g, (j + 1) * 2, none⟩ (vint t.1)).setCell ⟨g, (j + 1) * 2 + 1, none⟩ (vint t.2)).setCell ⟨g, j * 2, none⟩ (vint s.1)).setCell ⟨g, j * 2 + 1, none⟩ (vint s.2)).drew = w5 at hown4 ⊢
            have Hown4 := Lib.hid hown4
            clear hown4 hf x0 x1 y0 y1 Hown3 Hown X
            go_wp2
            go_roundw
            case rel => exact ⟨j, swp L j, by omega, by go_num, by rw [Hsl.out]; exact hLl, Hown4.out, Hq⟩
            case measure => simp [intOf] <;> omega
          · have hq : L = insr l k := by
              have h1 := Hbu.out
              rw [decide_eq_false hcm] at h1
              rw [← Hb.out, h1]
              rfl
            have hown2 : Own w1 wr 91 2 (.slice (some ⟨g, 0, none⟩) n c) n ((insr l (k + 1 - 1)).map pcells).flatten := by
              rw [← show L = insr l (k + 1 - 1) from hq]; exact Hown.out
            have Hown2 := Lib.hid hown2
            have d1 : decide (cm < 0) = false := by simpa using hcm
            clear hq Hbu Hb hown2
            go_wp2
            refine wp_region_calm 17 (fun _ _ v _ => v = .int .i64 cm) (fun _ _ _ _ _ _ h => h) (by kernel_rfl) (by kernel_rfl) ?_
            simp only [List.take_succ_cons, List.take_zero, List.drop_succ_cons, List.drop_zero]
            refine calm_quiet calm_mono_final 14 (by kernel_rfl) ?_
            simp only [List.take_succ_cons, List.take_zero, List.drop_succ_cons, List.drop_zero]
            repeat (go_big_quiet_step (fail))
            refine wpQuiet_nil ?_
            refine calm_call calm_mono_final 90 #[pval s, pval t] rfl (fun w => ?_) (fun w he hF => ?_) ?_
            · go_simp
            · exact (Hcc.out w).mono fun e w'' ⟨he', hx⟩ => ⟨_, he', hx, rfl⟩
            rintro _ _ _ rfl
            simp only [Act.put, List.setIfInBounds_toArray, List.set_cons_succ, List.set_cons_zero]
            refine calm_quiet calm_mono_final 2 (by kernel_rfl) ?_
            simp only [List.take_succ_cons, List.take_zero, List.drop_succ_cons, List.drop_zero]
            repeat (go_big_quiet_step (fail))
            refine wpQuiet_nil ?_
            refine calm_nil fun w3 he3 _ => ?_
            go_wp2
            go_roundw
            case rel => exact ⟨k + 1, by omega, by omega, by go_num, Hown2.out.later he3⟩
            case measure => simp [intOf]; omega
    · have Hown := Lib.hid hown
      clear hown Hc
      go_wp2
      go_end0
      exact ⟨rfl, Hfin.out _ k hk1 (by omega) Hown.out⟩
set_option maxRecDepth 100000 in
set_option maxHeartbeats 2000000 in
theorem pdq_pairs (w1 : World) (v : Value) (l : List (Int × Int)) (L : Int) (w : World) (hA : OwnQ w1 w v l) (hl : l.length ≤ 12) :
    Calls Try.prog 109 #[v, .int .i64 0, .int .i64 l.length, .int .i64 L, .func (.func 90) #[] #[]] w fun e w' => e = .returned (.tuple #[]) ∧ OwnQ w1 w' v (insr l (l.length - 1)) := by
  have hc := insort_pairs w1 v l w hA hl
  have Hc := Lib.hid hc
  clear hc
  obtain ⟨A, c, rfl⟩ := hA.form
  clear hA
  generalize insr l (l.length - 1) = R at *
  generalize l.length = n at *
  go_enter Try.func109, Try.ntmps109
  go_wp2
  go_loopw [1, 2] (fun a b wr => a = .int .i64 0 ∧ b = .int .i64 n ∧ wr = w) (fun _ _ _ => 0)
  case atStart => exact ⟨rfl, rfl, rfl⟩
  case round =>
    obtain ⟨rfl, rfl, rfl⟩ := hrel
    go_wp2_with (go_at_call 123; refine Hc.out.mono ?_; rintro e w' ⟨rfl, hx⟩)
    (try simp only [Exit.inBlock, Exit.then])
    refine bodyPost_ret (results_none rfl _ _ _) rfl ?_
    exact ⟨rfl, hx⟩
set_option maxRecDepth 100000 in
set_option maxHeartbeats 2000000 in
theorem sort_pairs (w1 : World) (v : Value) (l : List (Int × Int)) (w : World) (hA : OwnQ w1 w v l) (hl : l.length ≤ 12) :
    Calls Try.prog 89 #[v, .func (.func 90) #[] #[]] w fun e w' => e = .returned (.tuple #[]) ∧ OwnQ w1 w' v (insr l (l.length - 1)) := by
  have hc := fun L => pdq_pairs w1 v l L w hA hl
  have hn := fun w' => len_small l.length w' hl
  have Hc := Lib.hid hc
  have Hn := Lib.hid hn
  clear hc hn
  obtain ⟨A, c, rfl⟩ := hA.form
  clear hA
  generalize insr l (l.length - 1) = R at *
  generalize l.length = n at *
  go_enter Try.func89, Try.ntmps89
  go_wp2_with (first | (go_at_call 104; refine (Hn.out _).mono ?_; rintro e w' ⟨L, rfl, rfl⟩) | (go_at_call 109; refine (Hc.out _).mono ?_; rintro e w' ⟨rfl, hx⟩))
  go_end0
  exact ⟨rfl, hx⟩
/-! ### The pairs of panels -/
theorem flatMap_congr {α β : Type} : ∀ {l : List α} {f g : α → List β}, (∀ x ∈ l, f x = g x) → l.flatMap f = l.flatMap g
  | [], _, _, _ => rfl
  | x :: l, f, g, h => by
    rw [List.flatMap_cons, List.flatMap_cons, h x (by simp), flatMap_congr fun y hy => h y (by simp [hy])]
def rowC (f : Nat → Nat → Bool) (i m : Nat) : List (Int × Int) := ((List.range m).filter (fun k => f k i)).map fun (k : Nat) => ((k : Int), (i : Int))
def codeC (f : Nat → Nat → Bool) (m : Nat) : List (Int × Int) := (List.range m).flatMap fun i => rowC f i i
def rowR (f : Nat → Nat → Bool) (i k m : Nat) : List (Int × Int) := ((List.range' k m).filter (fun k => f i k)).map fun (k : Nat) => ((i : Int), (k : Int))
def refC (f : Nat → Nat → Bool) (n m : Nat) : List (Int × Int) := (List.range m).flatMap fun i => rowR f i (i + 1) (n - (i + 1))
theorem rowC_succ (f : Nat → Nat → Bool) (i m : Nat) : rowC f i (m + 1) = rowC f i m ++ (bif f m i then [((m : Int), (i : Int))] else []) := by
  unfold rowC
  rw [List.range_succ, List.filter_append, List.map_append]
  cases h : f m i <;> simp [h]
theorem codeC_succ (f : Nat → Nat → Bool) (m : Nat) : codeC f (m + 1) = codeC f m ++ rowC f m m := by simp [codeC, List.range_succ]
theorem rowR_succ (f : Nat → Nat → Bool) (i k m : Nat) : rowR f i k (m + 1) = rowR f i k m ++ (bif f i (k + m) then [((i : Int), ((k + m : Nat) : Int))] else []) := by
  unfold rowR
  rw [List.range'_1_concat, List.filter_append, List.map_append]
  cases h : f i (k + m) <;> simp [h]
theorem refC_succ (f : Nat → Nat → Bool) (n m : Nat) : refC f n (m + 1) = refC f n m ++ rowR f m (m + 1) (n - (m + 1)) := by simp [refC, List.range_succ]
theorem rowC_len (f : Nat → Nat → Bool) (i m : Nat) : (rowC f i m).length ≤ m := by
  unfold rowC
  rw [List.length_map]
  exact Nat.le_trans (List.length_filter_le _ _) (by simp)
theorem rowR_len (f : Nat → Nat → Bool) (i k m : Nat) : (rowR f i k m).length ≤ m := by
  unfold rowR
  rw [List.length_map]
  exact Nat.le_trans (List.length_filter_le _ _) (by simp)
theorem codeC_len (f : Nat → Nat → Bool) : ∀ m, (codeC f m).length * 2 ≤ m * m
  | 0 => by simp [codeC]
  | m + 1 => by
    have h1 := codeC_len f m
    have h2 := rowC_len f m m
    rw [codeC_succ, List.length_append, Nat.add_mul m, Nat.mul_add]
    omega
theorem refC_len (f : Nat → Nat → Bool) (n : Nat) : ∀ m, (refC f n m).length ≤ n * m
  | 0 => by simp [refC]
  | m + 1 => by
    have h1 := refC_len f n m
    have h2 := rowR_len f m (m + 1) (n - (m + 1))
    rw [refC_succ, List.length_append, Nat.mul_add]
    omega
/-- The pairs of at most four panels, sorted, are the reference's. -/
theorem sorted_pairs (f : Nat → Nat → Bool) (n : Nat) (hn : n ≤ 4) : insr (codeC f n) ((codeC f n).length - 1) = refC f n n := by
  have h : ∀ b01 b02 b12 b03 b13 b23 : Bool, ∀ n, n ≤ 4 → insr (codeC (fun i k => if i = 0 then (if k = 1 then b01 else if k = 2 then b02 else b03) else if i = 1 then (if k = 2 then b12 else b13) else b23) n) ((codeC (fun i k => if i = 0 then (if k = 1 then b01 else if k = 2 then b02 else b03) else if i = 1 then (if k = 2 then b12 else b13) else b23) n).length - 1) = refC (fun i k => if i = 0 then (if k = 1 then b01 else if k = 2 then b02 else b03) else if i = 1 then (if k = 2 then b12 else b13) else b23) n n := by decide +kernel
  have h2 := h (f 0 1) (f 0 2) (f 1 2) (f 0 3) (f 1 3) (f 2 3) n hn
  have e : ∀ i k, i < k → k < 4 → (if i = 0 then (if k = 1 then f 0 1 else if k = 2 then f 0 2 else f 0 3) else if i = 1 then (if k = 2 then f 1 2 else f 1 3) else f 2 3) = f i k := fun i k h1 h2 => by
    rcases (by omega : (i = 0 ∧ k = 1) ∨ (i = 0 ∧ k = 2) ∨ (i = 0 ∧ k = 3) ∨ (i = 1 ∧ k = 2) ∨ (i = 1 ∧ k = 3) ∨ (i = 2 ∧ k = 3)) with ⟨rfl, rfl⟩ | ⟨rfl, rfl⟩ | ⟨rfl, rfl⟩ | ⟨rfl, rfl⟩ | ⟨rfl, rfl⟩ | ⟨rfl, rfl⟩ <;> rfl
  have e1 : codeC f n = codeC (fun i k => if i = 0 then (if k = 1 then f 0 1 else if k = 2 then f 0 2 else f 0 3) else if i = 1 then (if k = 2 then f 1 2 else f 1 3) else f 2 3) n := by
    unfold codeC rowC
    refine flatMap_congr fun i hi => ?_
    congr 1
    refine List.filter_congr fun k hk => ?_
    rw [List.mem_range] at hi hk
    exact (e k i hk (by omega)).symm
  have e2 : refC f n n = refC (fun i k => if i = 0 then (if k = 1 then f 0 1 else if k = 2 then f 0 2 else f 0 3) else if i = 1 then (if k = 2 then f 1 2 else f 1 3) else f 2 3) n n := by
    unfold refC rowR
    refine flatMap_congr fun i hi => ?_
    congr 1
    refine List.filter_congr fun k hk => ?_
    rw [List.mem_range] at hi
    rw [List.mem_range'_1] at hk
    exact (e i k (by omega) (by omega)).symm
  rw [e1, e2]
  exact h2
end Go.Proofs.Yteilglljigjefaa

/- Which panels clash: by the code. -/
namespace Go.Proofs.Yteilglljigjefaa
open Go.RowKit
theorem pair_elem : ElemInfo 91 (.agg #[.int .i64 0, .int .i64 0]) 2 16 := ⟨info_parts (by kernel_rfl), rfl, by decide⟩
theorem corners_elem : ElemInfo 111 (.slice none 0 0) 1 24 := ⟨info_parts (by kernel_rfl), rfl, by decide⟩
/-- The corners of panels, in the call's own memory. -/
structure Crns (w1 w : World) (vs : List Value) (ps : List (List Sp)) (hs : List Hg) (m : Nat) : Prop where
  len : vs.length = m
  own : ∀ k, k < m → Own w1 w 114 3 (vs.getD k undef) (pcrn ps hs k).length ((pcrn ps hs k).map Cn.cells).flatten
section
variable {w1 w w' : World} {vs : List Value} {ps : List (List Sp)} {hs : List Hg} {m : Nat}
theorem Crns.later (h : Crns w1 w vs ps hs m) (he : Ext w w') : Crns w1 w' vs ps hs m := ⟨h.len, fun k hk => (h.own k hk).later he⟩
theorem Crns.grown {row : Option Nat} (h : Crns w1 w vs ps hs m) (hg : w.grownBy w' row) (hx : Ext w1 w') (hne : ∀ k, k < m → ∀ g, (vs.getD k undef).ownBlock = some g → some g ≠ row) : Crns w1 w' vs ps hs m := ⟨h.len, fun k hk => (h.own k hk).grown hg hx (hne k hk)⟩
theorem Crns.snoc {x : Value} (h : Crns w1 w vs ps hs m) (ho : Own w1 w 114 3 x (pcrn ps hs m).length ((pcrn ps hs m).map Cn.cells).flatten) : Crns w1 w (vs ++ [x]) ps hs (m + 1) := by
  refine ⟨by simp [h.len], fun k hk => ?_⟩
  by_cases e : k < m
  · rw [show (vs ++ [x]).getD k undef = vs.getD k undef by simp [List.getD, List.getElem?_append_left (show k < vs.length by rw [h.len]; exact e)]]
    exact h.own k e
  · have e : k = m := by omega
    subst e
    rw [show (vs ++ [x]).getD k undef = x by simp [List.getD, ← h.len]]
    exact ho
/-- What stands at a place of the list, and in it. -/
theorem Crns.at_ {A : Option Addr} {c : Nat} (h : Crns w1 w vs ps hs m) (ho : Own w1 w 111 1 (.slice A m c) m vs) {k : Nat} (hk : k < m) : ∃ ad X x, A = some ad ∧ (∀ w', Ext w w' → w'.cell? (ad.add k) = some (.slice X (pcrn ps hs k).length x)) ∧ CRow w X (pcrn ps hs k) := by
  have h1 := h.own k hk
  obtain ⟨X, x, hX⟩ := h1.form
  rw [hX] at h1
  obtain ⟨ad, ha, hc⟩ := ho.row k (by rw [h.len]; exact hk)
  refine ⟨ad, X, x, ha, fun w' he => he.cell ?_, h1.row⟩
  rw [hc, List.getElem?_eq_getElem (by rw [h.len]; exact hk), ← hX]
  simp [List.getD, h.len, hk]
end
theorem field_apart (b : Bool) (x1 x2 x3 x4 x5 : Value) (w : World) : (Instr.field 67 (.agg #[.bool b, x1, x2, x3, x4, x5]) 0).run Try.prog w = .ok (.bool b) w := by kernel_rfl
def clF (ps : List (List Sp)) (hs : List Hg) (i k : Nat) : Bool := clashB (pcrn ps hs i) (pcrn ps hs k)
set_option maxRecDepth 100000 in
set_option maxHeartbeats 16000000 in
theorem clashes_any (A : Option Addr) (c : Nat) (ps : List (List Sp)) (B : Option Addr) (d : Nat) (hs : List Hg) (w : World) (hL : Lk w A ps B hs) (hl : linkP ps hs) :
    Calls Try.prog 70 #[.agg #[.slice A ps.length c, .slice B hs.length d]] w fun e w' => ∃ v, e = .returned v ∧ OwnQ w w' v (refC (clF ps hs) ps.length ps.length) := by
  have hpl := fun w' (he : Ext w w') => poses_any A ps.length c B d hs w' (hL.hB.ext he) hl.nh hl.hinges
  have hpa := fun k (hk : k < ps.length) => hL.hA.at_ hk
  have hps := hl.2.1
  have h4 := hl.1
  have hcr := fun k (hk : k < ps.length) (X : Option Addr) (x : Nat) w' (hX : SRow w' X (pnA ps k)) => (corners_any (posF hs k) X x (pnA ps k) w' hX (by have := ((linkP_iff.1 hl).2.2.1 k hk).1.2; omega) (psOk (link_pose hl hk)) ((linkP_iff.1 hl).2.2.1 k hk).2.1).mono (R' := fun e w'' => ∃ X x, e = .returned (.slice X (pcrn ps hs k).length x) ∧ Own w' w'' 114 3 (.slice X (pcrn ps hs k).length x) (pcrn ps hs k).length ((pcrn ps hs k).map Cn.cells).flatten) fun e w'' ⟨v, he, ho⟩ => by
    have ho : Own w' w'' 114 3 v (pcrn ps hs k).length ((pcrn ps hs k).map Cn.cells).flatten := ho
    obtain ⟨X, x, rfl⟩ := ho.form
    exact ⟨X, x, he, ho⟩
  have hap := fun i k (hi : i < ps.length) (hk : k < ps.length) (X Y : Option Addr) (x y : Nat) w' (hX : CRow w' X (pcrn ps hs i)) (hY : CRow w' Y (pcrn ps hs k)) => (apart_any X x (pcrn ps hs i) Y y (pcrn ps hs k) w' hX hY (pcrn_ok hl hi) (pcrn_ok hl hk)
    (fun j hj h => thr_right1 (link_pose hl hi) ((linkP_iff.1 hl).2.2.1 i hi) (by rw [pcrn_len] at hj; exact hj) h) (fun j hj h => thr_right2 (link_pose hl hk) ((linkP_iff.1 hl).2.2.1 k hk) (by rw [pcrn_len] at hj; exact hj) h)).mono
    (R' := fun e w'' => ∃ r I ic, e = .returned (Apr.val r I ic) ∧ Ext w' w'' ∧ r.clear = !clF ps hs i k) fun e w'' ⟨r, I, ic, he, _, hx, hr, _⟩ => ⟨r, I, ic, he, hx, by
      have := right_tells (link_pose hl hi) (link_pose hl hk) ((linkP_iff.1 hl).2.2.1 i hi) ((linkP_iff.1 hl).2.2.1 k hk) hr
      show r.clear = !clashB (pcrn ps hs i) (pcrn ps hs k)
      have e : clashB (pcrn ps hs i) (pcrn ps hs k) = !r.clear := this
      rw [e, Bool.not_not]⟩
  have hpA := fun k (hk : k ≤ hs.length) => posesL_psA (hs := hs) hk
  have hpl2 := posesL_len hs
  have hpl3 := fun k => pcrn_len ps hs k
  have Hpl := Lib.hid hpl
  have Hpa := Lib.hid hpa
  have Hcr0 := Lib.hid hcr
  have Hap0 := Lib.hid hap
  have HpA := Lib.hid hpA
  have Hpl2 := Lib.hid hpl2
  have Hpl3 := Lib.hid hpl3
  have Hsort := Lib.hid (sorted_pairs (clF ps hs) ps.length h4.2)
  have Hlen := Lib.hid (codeC_len (clF ps hs))
  have Hcs := Lib.hid (codeC_succ (clF ps hs))
  have Hrs := Lib.hid (rowC_succ (clF ps hs))
  have Hrl := Lib.hid (rowC_len (clF ps hs))
  clear hpl hpa hcr hap hpA hpl2 hpl3 hL hl
  generalize posesL hs = PL at *
  generalize clF ps hs = f at *
  generalize hs.length = nh at *
  generalize ps.length = np at *
  have kb : Blk (w.alloc (.cells #[.slice A np c, .slice B nh d] 25)) w.heap.size [.slice A np c, .slice B nh d] := Blk.new _ _
  have b0 := kb.at_ 0 rfl
  have b1 := kb.at_ 1 rfl
  have hx0 : Ext w (w.alloc (.cells #[.slice A np c, .slice B nh d] 25)) := (Ext.refl _).alloc _
  have Hx0 := Lib.hid hx0
  have B0 := Lib.hid b0
  clear kb hx0
  go_enter Try.func70, Try.ntmps70
  go_wp2_with (go_at_call 64; refine (Hpl.out _ Hx0.out).mono ?_; rintro e w1 ⟨v, rfl, hown0⟩; unfold OwnP at hown0; rw [Hpl2.out] at hown0; obtain ⟨g, cg, rfl, _, _⟩ := hown0.at_ (by omega))
  have hrow1 : PRow w1 (some ⟨g, 0, none⟩) PL := Own.row hown0
  have hx1 := hown0.ext
  have hxx := Hx0.out.trans hx1
  have Hrow := Lib.hid (fun k (hk : k < np) => hrow1.at_ (k := k) (by rw [Hpl2.out]; omega))
  have B1 := Lib.hid (fun w' (he : Ext w1 w') => B0.out w' (hx1.trans he))
  have Hxx := Lib.hid hxx
  clear hrow1 hown0 hx1 hxx b0 b1 B0 Hx0 Hpl
  have hnp : nh + 1 = np := hps
  go_loopw [12, 3] (fun i v wr => ∃ (k : Nat) (vs : List Value), k ≤ np ∧ i = .int .i64 k ∧ Own w1 wr 111 1 v k vs ∧ Crns w1 wr vs ps hs k) (fun i _ _ => np - (intOf i).toNat)
  case atStart => exact ⟨0, [], by omega, rfl, Own.nil _ _ _, ⟨rfl, fun k hk => absurd hk (by omega)⟩⟩
  case round =>
    obtain ⟨k, vs, hk, rfl, hown, hcn⟩ := hrel
    obtain ⟨Av, cv, rfl, hcap⟩ := hown.form2
    have hex := hown.ext
    by_cases hlt : k < np
    · obtain ⟨_, ee, p0, p1, p2, p3, p4⟩ := Hrow.out k hlt
      cases ee
      simp only [HpA.out k (by omega), add_zero'] at p0 p1 p2 p3 p4
      replace p0 : ∀ w', Ext wr w' → _ := fun w' he => p0 w' (hex.trans he)
      replace p1 : ∀ w', Ext wr w' → _ := fun w' he => p1 w' (hex.trans he)
      replace p2 : ∀ w', Ext wr w' → _ := fun w' he => p2 w' (hex.trans he)
      replace p3 : ∀ w', Ext wr w' → _ := fun w' he => p3 w' (hex.trans he)
      replace p4 : ∀ w', Ext wr w' → _ := fun w' he => p4 w' (hex.trans he)
      obtain ⟨ad, Y, yc, rfl, t0, hY⟩ := Hpa.out k hlt
      have hxr := Hxx.out.trans hex
      replace t0 : ∀ w', Ext wr w' → _ := fun w' he => t0 w' (hxr.trans he)
      have b0 : ∀ w', Ext wr w' → _ := fun w' he => B1.out w' (hex.trans he)
      have hcr := fun w' (he : Ext wr w') => Hcr0.out k hlt Y yc w' (hY.ext (hxr.trans he))
      have HH := Lib.hid (And.intro hown hcn)
      have Hcr1 := Lib.hid hcr
      have hkn : (k : Int) < (np : Int) := by omega
      clear hY hcr hown hcn Hcr0 Hap0 Hsort Hlen Hcs Hrs Hrl Hpa Hrow
      obtain ⟨cells, hcells⟩ : ∃ cells, cells = ((pcrn ps hs k).map Cn.cells).flatten := ⟨_, rfl⟩
      rw [← hcells] at Hcr1
      have Hcells := Lib.hid hcells
      clear hcells
      obtain ⟨m, hm⟩ : ∃ m, m = (pcrn ps hs k).length := ⟨_, rfl⟩
      rw [← hm] at Hcr1
      have Hm := Lib.hid hm
      clear hm
      obtain ⟨y, hy⟩ : ∃ y, y = (pnA ps k).length := ⟨_, rfl⟩
      rw [← hy] at t0 Hcr1
      clear hy
      generalize posF hs k = p at *
      go_wp2
      have kp : Blk (wr.alloc (.cells #[vint p.p, vint p.q, vint p.x, vint p.y, vint p.d] 82)) wr.heap.size [vint p.p, vint p.q, vint p.x, vint p.y, vint p.d] := Blk.new _ _
      have hxp : Ext wr (wr.alloc (.cells #[vint p.p, vint p.q, vint p.x, vint p.y, vint p.d] 82)) := (Ext.refl _).alloc _
      generalize (wr.alloc (.cells #[vint p.p, vint p.q, vint p.x, vint p.y, vint p.d] 82)) = wp at *
      have q0 := kp.at_ 0 rfl
      have q1 := kp.at_ 1 rfl
      have q2 := kp.at_ 2 rfl
      have q3 := kp.at_ 3 rfl
      have q4 := kp.at_ 4 rfl
      replace t0 : ∀ w', Ext wp w' → _ := fun w' he => t0 w' (hxp.trans he)
      replace b0 : ∀ w', Ext wp w' → _ := fun w' he => b0 w' (hxp.trans he)
      have Hcr := Lib.hid (fun w' (he : Ext wp w') => Hcr1.out w' (hxp.trans he))
      clear p0 p1 p2 p3 p4 kp Hcr1
      refine Cg.wp_region_calm (p := Cg.extPre) (fr := (fun _ => false)) 9 (fun j _ v w' => j = 7 → ∃ X x, v = .slice X m x ∧ Own wp w' 114 3 (.slice X m x) m cells) (fun _ _ _ _ _ he h hj => let ⟨X, x, e, ho⟩ := h hj; ⟨X, x, e, ho.later he⟩) (by kernel_rfl) (by kernel_rfl) ?_
      simp only [List.take_succ_cons, List.take_zero, List.drop_succ_cons, List.drop_zero]
      refine Cg.calm_quiet Cg.calm_mono_final wp (fun _ h => h) 7 (by kernel_rfl) ?_
      simp only [List.take_succ_cons, List.take_zero, List.drop_succ_cons, List.drop_zero]
      repeat (go_big_quiet_step (fail))
      refine wpQuiet_nil ?_
      refine Cg.calm_call Cg.calm_mono_final 61 #[p.val, .slice Y y yc] rfl (fun w => ?_) (fun w he hF => ?_) ?_
      · go_simp
      · exact (Hcr.out w (show Ext wp w from he)).mono fun e w'' ⟨X, x, e', ho⟩ => ⟨_, e', ho.ext, fun _ => ⟨X, x, rfl, ho.since (show Ext wp w from he)⟩, fun h => by cases h⟩
      rintro v _ _ h _
      obtain ⟨X6, x6, rfl, _⟩ := h rfl
      clear h
      simp only [Act.put, List.setIfInBounds_toArray, List.set_cons_succ, List.set_cons_zero]
      refine Cg.calm_value Cg.calm_mono_final (fun v w => ∃ b, v = .slice (some ⟨b, 0, none⟩) 1 1 ∧ w.heap[b]? = some (.cells #[.slice X6 m x6] 111)) (fun _ w' w'' hR ⟨b, e, hh⟩ => ⟨b, e, (show Ext w' w'' from hR).heap hh⟩) rfl (fun w' hR _ => ⟨.slice (some ⟨w'.heap.size, 0, none⟩) 1 1, w'.alloc (.cells #[.slice X6 m x6] 111), by go_simp, (Ext.refl _).alloc _, ⟨_, rfl, heap_alloc_new _ _⟩, fun hf => by cases hf⟩) ?_
      rintro v7 _ _ ⟨b7, rfl, _⟩ _
      simp only [Act.put, List.setIfInBounds_toArray, List.set_cons_succ, List.set_cons_zero]
      refine Cg.calm_nil fun w3 he3 hF => ?_
      have he3 : Ext wp w3 := he3
      obtain ⟨_, e7, hh7⟩ := (hF.1 8).2 rfl
      simp only [Value.slice.injEq, Option.some.injEq, Addr.mk.injEq, and_true] at e7
      subst e7
      obtain ⟨_, _, e6, ho6⟩ := (hF.1 7).1.2 rfl rfl
      simp only [Value.slice.injEq, true_and] at e6
      obtain ⟨rfl, rfl⟩ := e6
      clear hF
      have hx13 := hex.trans hxp
      have ho6' : Own w1 w3 114 3 (.slice X6 m x6) m cells := ho6.since hx13
      have hrow7 : Row w3 (some ⟨b7, 0, none⟩) [.slice X6 m x6] := row_heap hh7
      obtain ⟨hown, hcn⟩ := HH.out
      have hown3 := (hown.later hxp).later he3
      have hcn3 := (hcn.later hxp).later he3
      have hcn4 := hcn3.snoc (x := .slice X6 m x6) (by rw [← Hm.out, ← Hcells.out]; exact ho6')
      have H3 := Lib.hid (And.intro hown3 hcn4)
      clear hown hcn hown3 hcn3 hcn4 ho6 ho6' HH hh7 q0 q1 q2 q3 q4 t0 b0
      go_wp2_with (refine own_append_src (w1 := w1) corners_elem rfl _ _ 141 rfl Try.underlying141 _ k _ rfl H3.out.1 _ 1 1 _ rfl rfl hrow7 (by intro u hu; simp at hu; subst hu; rfl) (by omega) (by unfold maxLen; omega) ?_; intro v' w' ho hg; have hg : w3.grownBy w' (Value.slice Av k cv).ownBlock := hg)
      have hcn5 := H3.out.2.grown hg ho.ext (fun j hj g e1 e2 => (H3.out.2.own j hj).ne_own H3.out.1 (by decide) e2.symm e1)
      go_roundw
      case rel => exact ⟨k + 1, _, by omega, by go_num, ho, hcn5⟩
      case measure => simp [intOf]; omega
    · obtain rfl : np = k := by omega
      have Hat := Lib.hid (fun j (hj : j < np) => hcn.at_ hown hj)
      have Hxr := Lib.hid (Hxx.out.trans hex)
      clear hown hcn Hcr0 Hrow Hpa HpA Hpl3
      go_wp2
      obtain ⟨wo, rfl⟩ : ∃ wo : World, wo = wr := ⟨_, rfl⟩
      go_loopw [30, 6] (fun i v wr => ∃ k : Nat, k ≤ np ∧ i = .int .i64 k ∧ Own wo wr 91 2 v (codeC f k).length ((codeC f k).map pcells).flatten) (fun i _ _ => np - (intOf i).toNat)
      case atStart => exact ⟨0, by omega, rfl, Own.nil _ _ _⟩
      case round =>
        obtain ⟨i, hi, rfl, hown⟩ := hrel
        obtain ⟨Ao, co, rfl⟩ := hown.form
        by_cases hlt : i < np
        · obtain ⟨ad, _, _, rfl, _, _⟩ := Hat.out 0 (by omega)
          have c1 : (i : Int) ≤ (cv : Int) := by omega
          have c2 : (0 : Int) ≤ (i : Int) := by omega
          have hil : (codeC f i).length * 2 ≤ 16 := Nat.le_trans (Hlen.out i) (Nat.le_trans (Nat.mul_le_mul (show i ≤ 4 by omega) (show i ≤ 4 by omega)) (by omega))
          have Hown := Lib.hid (show Own wo wr 91 2 (.slice Ao (codeC f i).length co) (codeC f i ++ rowC f i 0).length ((codeC f i ++ rowC f i 0).map pcells).flatten by simpa [rowC] using hown)
          have hlc : (codeC f i).length = (codeC f i ++ rowC f i 0).length := by simp [rowC]
          have Hcs' := Lib.hid (Hcs.out i)
          clear hown
          go_wp2
          obtain ⟨wq, rfl⟩ : ∃ wq : World, wq = wr := ⟨_, rfl⟩
          go_loopw [38, 6] (fun j v wr => ∃ k : Nat, k ≤ i ∧ j = .int .i64 k ∧ Own wo wr 91 2 v (codeC f i ++ rowC f i k).length ((codeC f i ++ rowC f i k).map pcells).flatten) (fun j _ _ => i - (intOf j).toNat)
          case atStart => exact ⟨0, by omega, rfl, Hown.out⟩
          case round =>
            clear Hown
            obtain ⟨k, hk, rfl, hown⟩ := hrel
            obtain ⟨A9, c9, rfl⟩ := hown.form
            by_cases hlt2 : k < i
            · obtain ⟨_, X1, x1, ee, u0, hX1⟩ := Hat.out k (by omega)
              cases ee
              obtain ⟨_, X2, x2, ee, v0, hX2⟩ := Hat.out i hlt
              cases ee
              have hex2 := hown.ext
              replace u0 : ∀ w', Ext wr w' → _ := fun w' he => u0 w' (hex2.trans he)
              replace v0 : ∀ w', Ext wr w' → _ := fun w' he => v0 w' (hex2.trans he)
              have hap := fun w' (he : Ext wr w') => Hap0.out k i (by omega) hlt X1 X2 x1 x2 w' (hX1.ext (hex2.trans he)) (hX2.ext (hex2.trans he))
              have hrs := Hrs.out i k
              have hrl := Hrl.out i k
              have hll : (codeC f i ++ rowC f i k).length ≤ 12 := by rw [List.length_append]; omega
              have Hap := Lib.hid hap
              have hfl := fun (b : Bool) (x1 x2 x3 x4 x5 : Value) (w : World) => field_apart b x1 x2 x3 x4 x5 w
              have hki : (k : Int) < (i : Int) := by omega
              have hkn : (k : Int) < (np : Int) := by omega
              have hin : (i : Int) < (np : Int) := by omega
              have Hown := Lib.hid hown
              clear hap hX1 hX2 hown Hap0 Hat Hrs Hrl Hcs Hlen Hsort
              generalize (pcrn ps hs k).length = m1 at *
              generalize (pcrn ps hs i).length = m2 at *
              obtain ⟨bb, hbb⟩ : ∃ bb, bb = !f k i := ⟨_, rfl⟩
              rw [← hbb] at Hap
              cases bb
              · have hf : f k i = true := by simpa using hbb
                rw [hf] at hrs
                have hrs : rowC f i (k + 1) = rowC f i k ++ [((k : Int), (i : Int))] := hrs
                have Hrs' := Lib.hid hrs
                clear hf hbb hrs
                generalize hN : (codeC f i ++ rowC f i k).length = N at *
                go_wp2
                refine wp_region_calm 11 (fun j _ v _ => j = 8 → ∃ (r : Apr) (I : Option Addr) (ic : Nat), v = r.val I ic ∧ r.clear = false) (fun _ _ _ _ _ _ h => h) (by kernel_rfl) (by kernel_rfl) ?_
                simp only [List.take_succ_cons, List.take_zero, List.drop_succ_cons, List.drop_zero]
                refine calm_quiet calm_mono_final 8 (by kernel_rfl) ?_
                simp only [List.take_succ_cons, List.take_zero, List.drop_succ_cons, List.drop_zero]
                repeat (go_big_quiet_step (fail))
                refine wpQuiet_nil ?_
                refine calm_call calm_mono_final 74 #[.slice X1 m1 x1, .slice X2 m2 x2] rfl (fun w => ?_) (fun w he hF => ?_) ?_
                · go_simp
                · exact (Hap.out w he).mono fun e w'' ⟨r, I, ic, e', hx, hcl⟩ => ⟨_, e', hx, fun _ => ⟨r, I, ic, rfl, hcl⟩⟩
                rintro v _ _ h
                obtain ⟨⟨rc, rA, rB, rC, rE, ri⟩, I, ic, rfl, hcl⟩ := h rfl
                have hcl : rc = false := hcl
                subst hcl
                clear h
                simp only [Act.put, List.setIfInBounds_toArray, List.set_cons_succ, List.set_cons_zero]
                refine calm_quiet calm_mono_final 2 (by kernel_rfl) ?_
                simp only [List.take_succ_cons, List.take_zero, List.drop_succ_cons, List.drop_zero]
                repeat (go_big_quiet_step (fail))
                refine wpQuiet_nil ?_
                refine calm_nil fun w3 he3 _ => ?_
                have hown3 := Hown.out.later he3
                go_wp2_with (at_builtin; refine own_append (w1 := wo) pair_elem rfl _ _ 68 rfl Try.underlying68 _ N _ rfl hown3 #[.int .i64 k, .int .i64 i] 1 rfl rfl (by intro u hu; simp at hu; rcases hu with rfl | rfl <;> rfl) (by omega) (by unfold maxLen; omega) ?_; intro v' w' ho _)
                go_roundw
                case rel =>
                  refine ⟨k + 1, by omega, by go_num, ?_⟩
                  rw [Hrs'.out, ← List.append_assoc]
                  have e1 : (codeC f i ++ rowC f i k ++ [((k : Int), (i : Int))]).length = N + 1 := by rw [List.length_append, hN]; rfl
                  have e2 : ((codeC f i ++ rowC f i k ++ [((k : Int), (i : Int))]).map pcells).flatten = ((codeC f i ++ rowC f i k).map pcells).flatten ++ [.int .i64 k, .int .i64 i] := by simp [pcells]
                  rw [e1, e2]
                  exact ho
                case measure => simp [intOf]; omega
              · have hf : f k i = false := by simpa using hbb
                rw [hf] at hrs
                have hrs : rowC f i (k + 1) = rowC f i k := by rw [hrs]; simp
                have Hrs' := Lib.hid hrs
                clear hf hbb hrs
                generalize hN : (codeC f i ++ rowC f i k).length = N at *
                go_wp2
                refine wp_region_calm 11 (fun j _ v _ => j = 8 → ∃ (r : Apr) (I : Option Addr) (ic : Nat), v = r.val I ic ∧ r.clear = true) (fun _ _ _ _ _ _ h => h) (by kernel_rfl) (by kernel_rfl) ?_
                simp only [List.take_succ_cons, List.take_zero, List.drop_succ_cons, List.drop_zero]
                refine calm_quiet calm_mono_final 8 (by kernel_rfl) ?_
                simp only [List.take_succ_cons, List.take_zero, List.drop_succ_cons, List.drop_zero]
                repeat (go_big_quiet_step (fail))
                refine wpQuiet_nil ?_
                refine calm_call calm_mono_final 74 #[.slice X1 m1 x1, .slice X2 m2 x2] rfl (fun w => ?_) (fun w he hF => ?_) ?_
                · go_simp
                · exact (Hap.out w he).mono fun e w'' ⟨r, I, ic, e', hx, hcl⟩ => ⟨_, e', hx, fun _ => ⟨r, I, ic, rfl, hcl⟩⟩
                rintro v _ _ h
                obtain ⟨⟨rc, rA, rB, rC, rE, ri⟩, I, ic, rfl, hcl⟩ := h rfl
                have hcl : rc = true := hcl
                subst hcl
                clear h
                simp only [Act.put, List.setIfInBounds_toArray, List.set_cons_succ, List.set_cons_zero]
                refine calm_quiet calm_mono_final 2 (by kernel_rfl) ?_
                simp only [List.take_succ_cons, List.take_zero, List.drop_succ_cons, List.drop_zero]
                repeat (go_big_quiet_step (fail))
                refine wpQuiet_nil ?_
                refine calm_nil fun w3 he3 _ => ?_
                have Hown3 := Lib.hid (Hown.out.later he3)
                go_wp2
                go_roundw
                case rel => exact ⟨k + 1, by omega, by go_num, by rw [Hrs'.out, hN]; exact Hown3.out⟩
                case measure => simp [intOf]; omega
            · obtain rfl : i = k := by omega
              rw [← Hcs'.out] at hown
              have Hown := Lib.hid hown
              clear hown Hat Hap0
              go_wp2
              go_roundw
              case rel => exact ⟨i + 1, by omega, by go_num, by first | exact Hown.out | (rw [Hcs'.out]; rw [Hcs'.out] at Hown; exact Hown.out)⟩
              case measure => simp [intOf]; omega
        · obtain rfl : np = i := by omega
          have hnl : (codeC f np).length * 2 ≤ 16 := Nat.le_trans (Hlen.out np) (Nat.le_trans (Nat.mul_le_mul h4.2 h4.2) (by omega))
          have hs := sort_pairs wo (.slice Ao (codeC f np).length co) (codeC f np) wr hown (by omega)
          rw [Hsort.out] at hs
          have Hs := Lib.hid hs
          clear hs hown Hat Hap0 Hsort Hlen Hcs Hrs Hrl
          go_wp2_with (go_at_call 89; refine Hs.out.mono ?_; rintro e w9 ⟨rfl, ho9⟩)
          go_ret
          exact ⟨_, rfl, ho9.since Hxr.out⟩
end Go.Proofs.Yteilglljigjefaa

/- The pairs of panels that clash: by both. -/
namespace Go.Proofs.Yteilglljigjefaa
open Go.RowKit
def pairsR (ps : List (List Sp)) (hs : List Hg) : List (Int × Int) := if linkB ps hs = true then refC (clF ps hs) ps.length ps.length else []
set_option maxRecDepth 100000 in
set_option maxHeartbeats 8000000 in
theorem clashes_all (A : Option Addr) (c : Nat) (ps : List (List Sp)) (B : Option Addr) (d : Nat) (hs : List Hg) (w : World) (hL : Lk w A ps B hs) :
    Calls Try.prog 39 #[.agg #[.slice A ps.length c, .slice B hs.length d]] w fun e w' => ∃ v, e = .returned (.tuple #[v, .int .i64 (checkE ps hs)]) ∧ OwnQ w w' v (pairsR ps hs) := by
  have hck := fun w' (he : Ext w w') => (hL.ext he).check c d
  have hcs := fun (h : linkP ps hs) w' (he : Ext w w') => clashes_any A c ps B d hs w' (hL.ext he) h
  unfold pairsR
  rcases linkB_eq (ps := ps) (hs := hs) with ⟨h1, h2, h3⟩ | ⟨h1, h2, h3⟩
  · rw [h2, h3, if_pos rfl]
    rw [h3] at hck
    have hcs := hcs h1
    have Hck := Lib.hid hck
    have Hcs := Lib.hid hcs
    clear hck hcs hL h1 h2 h3
    generalize refC (clF ps hs) ps.length ps.length = R at *
    generalize ps.length = np at *
    generalize hs.length = nh at *
    have kb : Blk (w.alloc (.cells #[.slice A np c, .slice B nh d] 25)) w.heap.size [.slice A np c, .slice B nh d] := Blk.new _ _
    have b0 := kb.at_ 0 rfl
    have b1 := kb.at_ 1 rfl
    have hx0 : Ext w (w.alloc (.cells #[.slice A np c, .slice B nh d] 25)) := (Ext.refl _).alloc _
    have Hx0 := Lib.hid hx0
    clear kb hx0
    go_enter Try.func39, Try.ntmps39
    go_wp2_with (first
      | (go_at_call 30; refine (Hck.out _ Hx0.out).mono ?_; rintro e w1 ⟨rfl, hx1⟩; have hxx := Hx0.out.trans hx1; replace b0 : ∀ w', Ext w1 w' → _ := fun w' he => b0 w' (hx1.trans he); replace b1 : ∀ w', Ext w1 w' → _ := fun w' he => b1 w' (hx1.trans he))
      | (go_at_call 70; refine (Hcs.out _ hxx).mono ?_; rintro e w2 ⟨v, rfl, hown⟩))
    go_ret2
    exact ⟨_, rfl, hown.since hxx⟩
  · rw [h2, h3, if_neg (by simp)]
    rw [h3] at hck
    have Hck := Lib.hid hck
    clear hck hcs hL h1 h2 h3
    generalize ps.length = np at *
    generalize hs.length = nh at *
    have kb : Blk (w.alloc (.cells #[.slice A np c, .slice B nh d] 25)) w.heap.size [.slice A np c, .slice B nh d] := Blk.new _ _
    have b0 := kb.at_ 0 rfl
    have b1 := kb.at_ 1 rfl
    have hx0 : Ext w (w.alloc (.cells #[.slice A np c, .slice B nh d] 25)) := (Ext.refl _).alloc _
    have Hx0 := Lib.hid hx0
    clear kb hx0
    go_enter Try.func39, Try.ntmps39
    go_wp2_with (go_at_call 30; refine (Hck.out _ Hx0.out).mono ?_; rintro e w1 ⟨rfl, hx1⟩; have hxx := Hx0.out.trans hx1)
    go_ret2
    exact ⟨_, rfl, Own.nil' hxx _ _⟩
set_option maxRecDepth 100000 in
set_option maxHeartbeats 8000000 in
theorem clashes_ref (A : Option Addr) (c : Nat) (ps : List (List Sp)) (B : Option Addr) (d : Nat) (hs : List Hg) (w : World) (hL : Lk w A ps B hs) :
    Calls Try.prog 40 #[.agg #[.slice A ps.length c, .slice B hs.length d]] w fun e w' => ∃ v, e = .returned (.tuple #[v, .int .i64 (checkE ps hs)]) ∧ OwnQ w w' v (pairsR ps hs) := by
  have hck := fun w' (he : Ext w w') => (hL.ext he).valid c d
  unfold pairsR
  rcases linkB_eq (ps := ps) (hs := hs) with ⟨h1, h2, h3⟩ | ⟨h1, h2, h3⟩
  · rw [h2, h3, if_pos rfl]
    rw [h2] at hck
    have hcg := fun i k (hi : i < ps.length) (hk : k < ps.length) w' (he : Ext w w') => clashing_any A c ps B d hs i k w' (hL.ext he) h1 hi hk
    change ∀ i k (hi : i < ps.length) (hk : k < ps.length) w' (he : Ext w w'), Calls Try.prog 72 _ w' fun e w'' => e = .returned (.bool (clF ps hs i k)) ∧ Ext w' w'' at hcg
    have h4 := h1.1
    have Hck := Lib.hid hck
    have Hcg := Lib.hid hcg
    have Hlen := Lib.hid (refC_len (clF ps hs) ps.length)
    have Hrs := Lib.hid (refC_succ (clF ps hs) ps.length)
    have Hws := Lib.hid (rowR_succ (clF ps hs))
    have Hwl := Lib.hid (rowR_len (clF ps hs))
    clear hck hcg hL h1 h2 h3
    generalize clF ps hs = f at *
    generalize ps.length = np at *
    generalize hs.length = nh at *
    have kb : Blk (w.alloc (.cells #[.slice A np c, .slice B nh d] 25)) w.heap.size [.slice A np c, .slice B nh d] := Blk.new _ _
    have b0 := kb.at_ 0 rfl
    have b1 := kb.at_ 1 rfl
    have hx0 : Ext w (w.alloc (.cells #[.slice A np c, .slice B nh d] 25)) := (Ext.refl _).alloc _
    have Hx0 := Lib.hid hx0
    clear kb hx0
    go_enter Try.func40, Try.ntmps40
    go_wp2_with (go_at_call 65; refine (Hck.out _ Hx0.out).mono ?_; rintro e w1 ⟨rfl, hx1⟩; have hxx := Hx0.out.trans hx1; replace b0 : ∀ w', Ext w1 w' → _ := fun w' he => b0 w' (hx1.trans he); replace b1 : ∀ w', Ext w1 w' → _ := fun w' he => b1 w' (hx1.trans he))
    have B0 := Lib.hid b0
    have B1 := Lib.hid b1
    have Hxx := Lib.hid hxx
    clear b0 b1 hxx Hck hx1 Hx0
    go_loopw [5, 4] (fun i v wr => ∃ k : Nat, k ≤ np ∧ i = .int .i64 k ∧ Own w1 wr 91 2 v (refC f np k).length ((refC f np k).map pcells).flatten) (fun i _ _ => np - (intOf i).toNat)
    case atStart => exact ⟨0, by omega, rfl, Own.nil _ _ _⟩
    case round =>
      obtain ⟨i, hi, rfl, hown⟩ := hrel
      obtain ⟨Ao, co, rfl⟩ := hown.form
      have hex := hown.ext
      have b0 : ∀ w', Ext wr w' → _ := fun w' he => B0.out w' (hex.trans he)
      by_cases hlt : i < np
      · have hil : (refC f np i).length ≤ 16 := Nat.le_trans (Hlen.out i) (Nat.mul_le_mul (show np ≤ 4 by omega) (show i ≤ 4 by omega))
        have Hown := Lib.hid (show Own w1 wr 91 2 (.slice Ao (refC f np i).length co) (refC f np i ++ rowR f i (i + 1) 0).length ((refC f np i ++ rowR f i (i + 1) 0).map pcells).flatten by simpa [rowR] using hown)
        have Hrs' := Lib.hid (Hrs.out i)
        have hki : (i : Int) < (np : Int) := by omega
        clear hown
        go_wp2
        clear b0
        obtain ⟨wq, rfl⟩ : ∃ wq : World, wq = wr := ⟨_, rfl⟩
        go_loopw [6, 4] (fun j v wr => ∃ k : Nat, i + 1 + k ≤ np ∧ j = .int .i64 ((i + 1 + k : Nat) : Int) ∧ Own w1 wr 91 2 v (refC f np i ++ rowR f i (i + 1) k).length ((refC f np i ++ rowR f i (i + 1) k).map pcells).flatten) (fun j _ _ => np - (intOf j).toNat)
        case atStart => exact ⟨0, by omega, by go_num, Hown.out⟩
        case round =>
          clear Hown
          obtain ⟨k, hk, rfl, hown⟩ := hrel
          obtain ⟨A9, c9, rfl⟩ := hown.form
          have hex2 := hown.ext
          have b0 : ∀ w', Ext wr w' → _ := fun w' he => B0.out w' (hex2.trans he)
          have b1 : ∀ w', Ext wr w' → _ := fun w' he => B1.out w' (hex2.trans he)
          by_cases hlt2 : i + 1 + k < np
          · have hcg := fun w' (he : Ext wr w') => Hcg.out i (i + 1 + k) hlt hlt2 w' ((Hxx.out.trans hex2).trans he)
            have hws := Hws.out i (i + 1) k
            have hwl := Hwl.out i (i + 1) k
            have hll : (refC f np i ++ rowR f i (i + 1) k).length ≤ 30 := by rw [List.length_append]; omega
            have Hcg' := Lib.hid hcg
            have Hown := Lib.hid hown
            clear hcg hown Hcg Hws Hwl Hrs Hlen
            generalize hQ : i + 1 + k = q at *
            have hqn : (q : Int) < (np : Int) := by omega
            cases hf : f i q
            · rw [hf] at hws Hcg'
              have hws : rowR f i (i + 1) (k + 1) = rowR f i (i + 1) k := by rw [hws]; simp
              have Hws' := Lib.hid hws
              clear hf hws
              generalize hN : (refC f np i ++ rowR f i (i + 1) k).length = N at *
              go_wp2_with (go_at_call 72; refine (Hcg'.out _ (Ext.refl _)).mono ?_; rintro e w5 ⟨rfl, hx5⟩)
              go_roundw
              case rel => exact ⟨k + 1, by omega, by rw [← hQ]; go_num, by rw [Hws'.out, hN]; exact Hown.out.later hx5⟩
              case measure => simp [intOf]; omega
            · rw [hf] at hws Hcg'
              have hws : rowR f i (i + 1) (k + 1) = rowR f i (i + 1) k ++ [((i : Int), (q : Int))] := hws
              have Hws' := Lib.hid hws
              clear hf hws
              generalize hN : (refC f np i ++ rowR f i (i + 1) k).length = N at *
              go_wp2_with (first
                | (go_at_call 72; refine (Hcg'.out _ (Ext.refl _)).mono ?_; rintro e w5 ⟨rfl, hx5⟩; have hown3 := Hown.out.later hx5)
                | (at_builtin; refine own_append (w1 := w1) pair_elem rfl _ _ 68 rfl Try.underlying68 _ N _ rfl hown3 #[.int .i64 i, .int .i64 q] 1 rfl rfl (by intro u hu; simp at hu; rcases hu with rfl | rfl <;> rfl) (by omega) (by unfold maxLen; omega) ?_; intro v' w' ho _))
              go_roundw
              case rel =>
                refine ⟨k + 1, by omega, by rw [← hQ]; go_num, ?_⟩
                rw [Hws'.out, ← List.append_assoc]
                have e1 : (refC f np i ++ rowR f i (i + 1) k ++ [((i : Int), (q : Int))]).length = N + 1 := by rw [List.length_append, hN]; rfl
                have e2 : ((refC f np i ++ rowR f i (i + 1) k ++ [((i : Int), (q : Int))]).map pcells).flatten = ((refC f np i ++ rowR f i (i + 1) k).map pcells).flatten ++ [.int .i64 i, .int .i64 q] := by simp [pcells]
                rw [e1, e2]
                exact ho
              case measure => simp [intOf]; omega
          · have hkk : k = np - (i + 1) := by omega
            have hqe : i + 1 + k = np := by omega
            subst hkk
            rw [← Hrs'.out] at hown
            have Hown := Lib.hid hown
            rw [hqe]
            clear hown Hcg Hws Hwl Hrs Hlen
            go_wp2
            go_roundw
            case rel => exact ⟨i + 1, by omega, by go_num, by first | exact Hown.out | (rw [Hrs'.out]; rw [Hrs'.out] at Hown; exact Hown.out)⟩
            case measure => simp [intOf]; omega
      · obtain rfl : np = i := by omega
        have Hown := Lib.hid hown
        clear hown Hcg Hws Hwl Hrs Hlen
        go_wp2
        go_ret2
        exact ⟨_, rfl, Hown.out.since Hxx.out⟩
  · rw [h2, h3, if_neg (by simp)]
    rw [h2] at hck
    have Hck := Lib.hid hck
    clear hck hL h1 h2 h3
    generalize ps.length = np at *
    generalize hs.length = nh at *
    have kb : Blk (w.alloc (.cells #[.slice A np c, .slice B nh d] 25)) w.heap.size [.slice A np c, .slice B nh d] := Blk.new _ _
    have b0 := kb.at_ 0 rfl
    have b1 := kb.at_ 1 rfl
    have hx0 : Ext w (w.alloc (.cells #[.slice A np c, .slice B nh d] 25)) := (Ext.refl _).alloc _
    have Hx0 := Lib.hid hx0
    clear kb hx0
    go_enter Try.func40, Try.ntmps40
    go_wp2_with (go_at_call 65; refine (Hck.out _ Hx0.out).mono ?_; rintro e w1 ⟨rfl, hx1⟩; have hxx := Hx0.out.trans hx1)
    go_ret2
    exact ⟨_, rfl, Own.nil' hxx _ _⟩
end Go.Proofs.Yteilglljigjefaa

/- HingeClashes: the law's own walk. -/
namespace Go.Proofs.Yteilglljigjefaa
open Go.RowKit
set_option maxRecDepth 100000 in
set_option maxHeartbeats 4000000 in
theorem clashes_law_out (A : Option Addr) (c : Nat) (ps : List (List Sp)) (B : Option Addr) (d : Nat) (hs : List Hg) (i k : Int) (r : Apr) (I : Option Addr) (ic : Nat) (w : World) (hA : PnRow w A ps) (hB : HRow w B hs) (hg : greatP ps hs ∨ 100 < r.ins.length) :
    Calls Try.prog 6 #[.agg #[.slice A ps.length c, .slice B hs.length d], .int .i64 i, .int .i64 k, r.val I ic] w fun e w' => e = .returned (.bool true) ∧ Ext w w' := by
  obtain ⟨rc, rA, rB, rC, rE, ri⟩ := r
  have hgr := fun w' (he : Ext w w') => great_any A c ps B d hs w' (hA.ext he)
  by_cases h1 : greatP ps hs
  · rw [← greatB_yes h1] at hgr
    have Hgr := Lib.hid hgr
    clear hgr hA hB hg h1
    generalize ps.length = np at *
    generalize hs.length = nh at *
    have kl : Blk ((w.alloc (.cells #[.slice A np c, .slice B nh d] 25)).alloc (.cells #[.bool rc, vint rA, vint rB, vint rC, vint rE, .slice I ri.length ic] 67)) w.heap.size [.slice A np c, .slice B nh d] := (Blk.new _ _).ext ((Ext.refl _).alloc _)
    have ka : Blk ((w.alloc (.cells #[.slice A np c, .slice B nh d] 25)).alloc (.cells #[.bool rc, vint rA, vint rB, vint rC, vint rE, .slice I ri.length ic] 67)) (w.heap.size + 1) [.bool rc, vint rA, vint rB, vint rC, vint rE, .slice I ri.length ic] := Blk.new' (cs := #[.bool rc, vint rA, vint rB, vint rC, vint rE, .slice I ri.length ic]) (by simp)
    have b0 := kl.at_ 0 rfl
    have b1 := kl.at_ 1 rfl
    have a0 := ka.at_ 0 rfl
    have a1 := ka.at_ 1 rfl
    have a2 := ka.at_ 2 rfl
    have a3 := ka.at_ 3 rfl
    have a4 := ka.at_ 4 rfl
    have a5 := ka.at_ 5 rfl
    have hx0 : Ext w ((w.alloc (.cells #[.slice A np c, .slice B nh d] 25)).alloc (.cells #[.bool rc, vint rA, vint rB, vint rC, vint rE, .slice I ri.length ic] 67)) := ((Ext.refl _).alloc _).alloc _
    have Hx0 := Lib.hid hx0
    clear kl ka hx0
    go_enter Try.func6, Try.ntmps6
    go_wp2_with (go_at_call 17; refine (Hgr.out _ Hx0.out).mono ?_; rintro e w1 ⟨rfl, hx1⟩)
    go_ret
    exact ⟨rfl, Hx0.out.trans hx1⟩
  · rw [← greatB_no h1] at hgr
    have hm : 100 < ri.length := by
      rcases hg with h | h
      · exact absurd h h1
      · exact h
    have Hgr := Lib.hid hgr
    clear hgr hA hB hg h1
    generalize ps.length = np at *
    generalize hs.length = nh at *
    have d1 : decide ((100 : Int) < (ri.length : Int)) = true := by simp; omega
    have kl : Blk ((w.alloc (.cells #[.slice A np c, .slice B nh d] 25)).alloc (.cells #[.bool rc, vint rA, vint rB, vint rC, vint rE, .slice I ri.length ic] 67)) w.heap.size [.slice A np c, .slice B nh d] := (Blk.new _ _).ext ((Ext.refl _).alloc _)
    have ka : Blk ((w.alloc (.cells #[.slice A np c, .slice B nh d] 25)).alloc (.cells #[.bool rc, vint rA, vint rB, vint rC, vint rE, .slice I ri.length ic] 67)) (w.heap.size + 1) [.bool rc, vint rA, vint rB, vint rC, vint rE, .slice I ri.length ic] := Blk.new' (cs := #[.bool rc, vint rA, vint rB, vint rC, vint rE, .slice I ri.length ic]) (by simp)
    have b0 := kl.at_ 0 rfl
    have b1 := kl.at_ 1 rfl
    have a0 := ka.at_ 0 rfl
    have a1 := ka.at_ 1 rfl
    have a2 := ka.at_ 2 rfl
    have a3 := ka.at_ 3 rfl
    have a4 := ka.at_ 4 rfl
    have a5 := ka.at_ 5 rfl
    have hx0 : Ext w ((w.alloc (.cells #[.slice A np c, .slice B nh d] 25)).alloc (.cells #[.bool rc, vint rA, vint rB, vint rC, vint rE, .slice I ri.length ic] 67)) := ((Ext.refl _).alloc _).alloc _
    have Hx0 := Lib.hid hx0
    clear kl ka hx0
    go_enter Try.func6, Try.ntmps6
    go_wp2_with (go_at_call 17; refine (Hgr.out _ Hx0.out).mono ?_; rintro e w1 ⟨rfl, hx1⟩; replace b0 : ∀ w', Ext w1 w' → _ := fun w' he => b0 w' (hx1.trans he); replace b1 : ∀ w', Ext w1 w' → _ := fun w' he => b1 w' (hx1.trans he); replace a0 : ∀ w', Ext w1 w' → _ := fun w' he => a0 w' (hx1.trans he); replace a1 : ∀ w', Ext w1 w' → _ := fun w' he => a1 w' (hx1.trans he); replace a2 : ∀ w', Ext w1 w' → _ := fun w' he => a2 w' (hx1.trans he); replace a3 : ∀ w', Ext w1 w' → _ := fun w' he => a3 w' (hx1.trans he); replace a4 : ∀ w', Ext w1 w' → _ := fun w' he => a4 w' (hx1.trans he); replace a5 : ∀ w', Ext w1 w' → _ := fun w' he => a5 w' (hx1.trans he))
    go_ret
    exact ⟨rfl, Hx0.out.trans hx1⟩
set_option maxRecDepth 100000 in
set_option maxHeartbeats 16000000 in
theorem clashes_law_in (A : Option Addr) (c : Nat) (ps : List (List Sp)) (B : Option Addr) (d : Nat) (hs : List Hg) (i k : Int) (r : Apr) (I : Option Addr) (ic : Nat) (w : World) (hA : PnRow w A ps) (hB : HRow w B hs) (hr : AprIn w r I ic) (hg : ¬ greatP ps hs) (hm : r.ins.length ≤ 100) :
    Calls Try.prog 6 #[.agg #[.slice A ps.length c, .slice B hs.length d], .int .i64 i, .int .i64 k, r.val I ic] w fun e w' => e = .returned (.bool true) ∧ Ext w w' := by
  have hL := lk_of hA hB hg
  have hgr := fun w' (he : Ext w w') => great_any A c ps B d hs w' (hA.ext he)
  rw [← greatB_no hg] at hgr
  have hc1 := fun w' (he : Ext w w') => (clashes_all A c ps B d hs w' (hL.ext he)).mono (R' := fun e w'' => ∃ X x, e = .returned (.tuple #[.slice X (pairsR ps hs).length x, .int .i64 (checkE ps hs)]) ∧ QRow w'' X (pairsR ps hs) ∧ Ext w' w'') fun e w'' ⟨v, he, ho⟩ => by obtain ⟨X, x, rfl⟩ := ho.form; exact ⟨X, x, he, ho.row, ho.ext⟩
  have hc2 := fun w' (he : Ext w w') => (clashes_ref A c ps B d hs w' (hL.ext he)).mono (R' := fun e w'' => ∃ X x, e = .returned (.tuple #[.slice X (pairsR ps hs).length x, .int .i64 (checkE ps hs)]) ∧ QRow w'' X (pairsR ps hs) ∧ Ext w' w'') fun e w'' ⟨v, he, ho⟩ => by obtain ⟨X, x, rfl⟩ := ho.form; exact ⟨X, x, he, ho.row, ho.ext⟩
  have hpl : (pairsR ps hs).length ≤ 1000000 := by
    unfold pairsR
    split
    · rename_i h
      have h : linkP ps hs := of_decide_eq_true h
      have h4 := h.1.2
      exact Nat.le_trans (refC_len _ _ _) (Nat.le_trans (Nat.mul_le_mul h4 h4) (by omega))
    · simp
  have hsp := fun (X Y : Option Addr) (x y : Nat) (w' : World) (hX : QRow w' X (pairsR ps hs)) (hY : QRow w' Y (pairsR ps hs)) => same_pairs X Y x y (pairsR ps hs) w' hX hY hpl
  have hcl : ∃ E, ∀ w', Ext w w' → (Calls Try.prog 42 #[.agg #[.slice A ps.length c, .slice B hs.length d], .int .i64 i, .int .i64 k] w' fun e w'' => (∃ r I ic, e = .returned (.tuple #[Apr.val r I ic, .int .i64 E])) ∧ Ext w' w'') ∧ (Calls Try.prog 43 #[.agg #[.slice A ps.length c, .slice B hs.length d], .int .i64 i, .int .i64 k] w' fun e w'' => e = .returned (.int .i64 E) ∧ Ext w' w'') := by
    refine ⟨clashE ps hs i k, fun w' he => ⟨?_, clash_ref A c ps B d hs i k w' (hL.ext he)⟩⟩
    rcases two_cases ps hs i k with ⟨h1, ⟨a, b, rfl, rfl, ha, hb, hne⟩, h2⟩ | ⟨h2, h3⟩
    · rw [clashE_nat h2]
      exact (clash_good A c ps B d hs a b w' (hL.ext he) h1 ha hb hne).mono fun e w'' ⟨r, I, ic, he, _, hx, _⟩ => ⟨⟨r, I, ic, he⟩, hx⟩
    · rw [clashE, if_neg (by omega)]
      exact (clash_bad A c ps B d hs i k w' (hL.ext he) h2 h3).mono fun e w'' ⟨he, hx⟩ => ⟨⟨_, _, _, he⟩, hx⟩
  obtain ⟨E, hE⟩ := hcl
  have hk1 := fun w' he => (hE w' he).1
  have hk2 := fun w' he => (hE w' he).2
  have ha1 := fun w' (he : Ext w w') => checkapart_any A c ps B d hs i k r I ic w' (hL.ext he) (hr.ext he)
  have ha2 := fun w' (he : Ext w w') => checkapart_ref A c ps B d hs i k r I ic w' (hL.ext he) (hr.ext he)
  clear hA hB hg hL hE hpl hr
  generalize apartE ps hs i k r = F at *
  have Hgr := Lib.hid hgr
  have Hc1 := Lib.hid hc1
  have Hc2' := Lib.hid hc2
  have Hsp := Lib.hid hsp
  have Hk1 := Lib.hid hk1
  have Hk2 := Lib.hid hk2
  have Ha1' := Lib.hid ha1
  have Ha2' := Lib.hid ha2
  clear hgr hc1 hc2 hsp hk1 hk2 ha1 ha2
  generalize checkE ps hs = CE at *
  generalize pairsR ps hs = PR at *
  generalize PR.length = pn at *
  generalize ps.length = np at *
  generalize hs.length = nh at *
  obtain ⟨rc, rA, rB, rC, rE, ri⟩ := r
  have d1 : decide ((100 : Int) < (ri.length : Int)) = false := by have hm : ri.length ≤ 100 := hm; simp; omega
  have kl : Blk ((w.alloc (.cells #[.slice A np c, .slice B nh d] 25)).alloc (.cells #[.bool rc, vint rA, vint rB, vint rC, vint rE, .slice I ri.length ic] 67)) w.heap.size [.slice A np c, .slice B nh d] := (Blk.new _ _).ext ((Ext.refl _).alloc _)
  have ka : Blk ((w.alloc (.cells #[.slice A np c, .slice B nh d] 25)).alloc (.cells #[.bool rc, vint rA, vint rB, vint rC, vint rE, .slice I ri.length ic] 67)) (w.heap.size + 1) [.bool rc, vint rA, vint rB, vint rC, vint rE, .slice I ri.length ic] := Blk.new' (cs := #[.bool rc, vint rA, vint rB, vint rC, vint rE, .slice I ri.length ic]) (by simp)
  have b0 := kl.at_ 0 rfl
  have b1 := kl.at_ 1 rfl
  have a0 := ka.at_ 0 rfl
  have a1 := ka.at_ 1 rfl
  have a2 := ka.at_ 2 rfl
  have a3 := ka.at_ 3 rfl
  have a4 := ka.at_ 4 rfl
  have a5 := ka.at_ 5 rfl
  have hx0 : Ext w ((w.alloc (.cells #[.slice A np c, .slice B nh d] 25)).alloc (.cells #[.bool rc, vint rA, vint rB, vint rC, vint rE, .slice I ri.length ic] 67)) := ((Ext.refl _).alloc _).alloc _
  have Hx0 := Lib.hid hx0
  clear kl ka hx0
  go_enter Try.func6, Try.ntmps6
  go_wp2_with (first
    | (go_at_call 17; refine (Hgr.out _ Hx0.out).mono ?_; rintro e w1 ⟨rfl, hx1⟩; have hxx := Hx0.out.trans hx1; replace b0 : ∀ w', Ext w1 w' → _ := fun w' he => b0 w' (hx1.trans he); replace b1 : ∀ w', Ext w1 w' → _ := fun w' he => b1 w' (hx1.trans he); replace a0 : ∀ w', Ext w1 w' → _ := fun w' he => a0 w' (hx1.trans he); replace a1 : ∀ w', Ext w1 w' → _ := fun w' he => a1 w' (hx1.trans he); replace a2 : ∀ w', Ext w1 w' → _ := fun w' he => a2 w' (hx1.trans he); replace a3 : ∀ w', Ext w1 w' → _ := fun w' he => a3 w' (hx1.trans he); replace a4 : ∀ w', Ext w1 w' → _ := fun w' he => a4 w' (hx1.trans he); replace a5 : ∀ w', Ext w1 w' → _ := fun w' he => a5 w' (hx1.trans he))
    | (go_at_call 39; refine (Hc1.out _ hxx).mono ?_; rintro e w2 ⟨X, x, rfl, hX, hx2⟩; have hxy := hxx.trans hx2; replace b0 : ∀ w', Ext w2 w' → _ := fun w' he => b0 w' (hx2.trans he); replace b1 : ∀ w', Ext w2 w' → _ := fun w' he => b1 w' (hx2.trans he); replace a0 : ∀ w', Ext w2 w' → _ := fun w' he => a0 w' (hx2.trans he); replace a1 : ∀ w', Ext w2 w' → _ := fun w' he => a1 w' (hx2.trans he); replace a2 : ∀ w', Ext w2 w' → _ := fun w' he => a2 w' (hx2.trans he); replace a3 : ∀ w', Ext w2 w' → _ := fun w' he => a3 w' (hx2.trans he); replace a4 : ∀ w', Ext w2 w' → _ := fun w' he => a4 w' (hx2.trans he); replace a5 : ∀ w', Ext w2 w' → _ := fun w' he => a5 w' (hx2.trans he))
    | (go_at_call 40; refine (Hc2'.out _ hxy).mono ?_; rintro e w3 ⟨Y, y, rfl, hY, hx3⟩; have hxz := hxy.trans hx3; replace b0 : ∀ w', Ext w3 w' → _ := fun w' he => b0 w' (hx3.trans he); replace b1 : ∀ w', Ext w3 w' → _ := fun w' he => b1 w' (hx3.trans he); replace a0 : ∀ w', Ext w3 w' → _ := fun w' he => a0 w' (hx3.trans he); replace a1 : ∀ w', Ext w3 w' → _ := fun w' he => a1 w' (hx3.trans he); replace a2 : ∀ w', Ext w3 w' → _ := fun w' he => a2 w' (hx3.trans he); replace a3 : ∀ w', Ext w3 w' → _ := fun w' he => a3 w' (hx3.trans he); replace a4 : ∀ w', Ext w3 w' → _ := fun w' he => a4 w' (hx3.trans he); replace a5 : ∀ w', Ext w3 w' → _ := fun w' he => a5 w' (hx3.trans he))
    | (go_at_call 41; refine (Hsp.out X Y x y _ (hX.ext hx3) hY).mono ?_; rintro e w4 ⟨rfl, hx4⟩; have hx5 := hxz.trans hx4; replace b0 : ∀ w', Ext w4 w' → _ := fun w' he => b0 w' (hx4.trans he); replace b1 : ∀ w', Ext w4 w' → _ := fun w' he => b1 w' (hx4.trans he); replace a0 : ∀ w', Ext w4 w' → _ := fun w' he => a0 w' (hx4.trans he); replace a1 : ∀ w', Ext w4 w' → _ := fun w' he => a1 w' (hx4.trans he); replace a2 : ∀ w', Ext w4 w' → _ := fun w' he => a2 w' (hx4.trans he); replace a3 : ∀ w', Ext w4 w' → _ := fun w' he => a3 w' (hx4.trans he); replace a4 : ∀ w', Ext w4 w' → _ := fun w' he => a4 w' (hx4.trans he); replace a5 : ∀ w', Ext w4 w' → _ := fun w' he => a5 w' (hx4.trans he))
    | (go_at_call 42; refine (Hk1.out _ hx5).mono ?_; rintro e w5 ⟨⟨⟨qc, qA, qB, qC, qE, qi⟩, qI, qic, rfl⟩, hx6⟩; have hx7 := hx5.trans hx6; replace b0 : ∀ w', Ext w5 w' → _ := fun w' he => b0 w' (hx6.trans he); replace b1 : ∀ w', Ext w5 w' → _ := fun w' he => b1 w' (hx6.trans he); replace a0 : ∀ w', Ext w5 w' → _ := fun w' he => a0 w' (hx6.trans he); replace a1 : ∀ w', Ext w5 w' → _ := fun w' he => a1 w' (hx6.trans he); replace a2 : ∀ w', Ext w5 w' → _ := fun w' he => a2 w' (hx6.trans he); replace a3 : ∀ w', Ext w5 w' → _ := fun w' he => a3 w' (hx6.trans he); replace a4 : ∀ w', Ext w5 w' → _ := fun w' he => a4 w' (hx6.trans he); replace a5 : ∀ w', Ext w5 w' → _ := fun w' he => a5 w' (hx6.trans he)))
  have Hc2 := Lib.hid (fun w' (he : Ext w5 w') => Hk2.out w' (hx7.trans he))
  have Ha1 := Lib.hid (fun w' (he : Ext w5 w') => Ha1'.out w' (hx7.trans he))
  have Ha2 := Lib.hid (fun w' (he : Ext w5 w') => Ha2'.out w' (hx7.trans he))
  have Hx7 := Lib.hid hx7
  clear Hgr Hc1 Hc2' Hsp Hk1 Hk2 Ha1' Ha2' hX hY hx1 hx2 hx3 hx4 hx5 hx6 hx7 hxx hxy hxz Hx0
  refine wp_region_calm 20 (fun j _ v _ => (j = 4 → v = .int .i64 E) ∧ (j = 11 → v = .int .i64 F) ∧ (j = 16 → v = .int .i64 F)) (fun _ _ _ _ _ _ h => h) (by kernel_rfl) (by kernel_rfl) ?_
  simp only [List.take_succ_cons, List.take_zero, List.drop_succ_cons, List.drop_zero]
  refine calm_quiet calm_mono_final 4 (by kernel_rfl) ?_
  simp only [List.take_succ_cons, List.take_zero, List.drop_succ_cons, List.drop_zero]
  repeat (go_big_quiet_step (fail))
  refine wpQuiet_nil ?_
  refine calm_call calm_mono_final 43 #[.agg #[.slice A np c, .slice B nh d], .int .i64 i, .int .i64 k] rfl (fun w => ?_) (fun w he hF => ?_) ?_
  · go_simp
  · exact (Hc2.out w he).mono fun e w'' ⟨he', hx⟩ => ⟨_, he', hx, And.intro (fun _ => rfl) (And.intro (fun h => by cases h) (fun h => by cases h))⟩
  rintro _ _ _ ⟨h, _, _⟩
  cases h rfl
  simp only [Act.put, List.setIfInBounds_toArray, List.set_cons_succ, List.set_cons_zero]
  refine calm_quiet calm_mono_final 6 (by kernel_rfl) ?_
  simp only [List.take_succ_cons, List.take_zero, List.drop_succ_cons, List.drop_zero]
  repeat (go_big_quiet_step (fail))
  refine wpQuiet_nil ?_
  refine calm_call calm_mono_final 44 #[.agg #[.slice A np c, .slice B nh d], .int .i64 i, .int .i64 k, .agg #[.bool rc, vint rA, vint rB, vint rC, vint rE, .slice I ri.length ic]] rfl (fun w => ?_) (fun w he hF => ?_) ?_
  · go_simp
  · exact (Ha1.out w he).mono fun e w'' ⟨he', hx⟩ => ⟨_, he', hx, And.intro (fun h => by cases h) (And.intro (fun _ => rfl) (fun h => by cases h))⟩
  rintro _ _ _ ⟨_, h, _⟩
  cases h rfl
  simp only [Act.put, List.setIfInBounds_toArray, List.set_cons_succ, List.set_cons_zero]
  refine calm_quiet calm_mono_final 4 (by kernel_rfl) ?_
  simp only [List.take_succ_cons, List.take_zero, List.drop_succ_cons, List.drop_zero]
  repeat (go_big_quiet_step (fail))
  refine wpQuiet_nil ?_
  refine calm_call calm_mono_final 45 #[.agg #[.slice A np c, .slice B nh d], .int .i64 i, .int .i64 k, .agg #[.bool rc, vint rA, vint rB, vint rC, vint rE, .slice I ri.length ic]] rfl (fun w => ?_) (fun w he hF => ?_) ?_
  · go_simp
  · exact (Ha2.out w he).mono fun e w'' ⟨he', hx⟩ => ⟨_, he', hx, And.intro (fun h => by cases h) (And.intro (fun h => by cases h) (fun _ => rfl))⟩
  rintro _ _ _ ⟨_, _, h⟩
  cases h rfl
  simp only [Act.put, List.setIfInBounds_toArray, List.set_cons_succ, List.set_cons_zero]
  refine calm_quiet calm_mono_final 3 (by kernel_rfl) ?_
  simp only [List.take_succ_cons, List.take_zero, List.drop_succ_cons, List.drop_zero]
  repeat (go_big_quiet_step (fail))
  refine wpQuiet_nil ?_
  refine calm_nil fun w9 he9 _ => ?_
  go_wp2
  go_ret
  exact ⟨rfl, Hx7.out.trans he9⟩
theorem clashes_law (A : Option Addr) (c : Nat) (ps : List (List Sp)) (B : Option Addr) (d : Nat) (hs : List Hg) (i k : Int) (r : Apr) (I : Option Addr) (ic : Nat) (w : World) (hA : PnRow w A ps) (hB : HRow w B hs) (hr : AprIn w r I ic) :
    Calls Try.prog 6 #[.agg #[.slice A ps.length c, .slice B hs.length d], .int .i64 i, .int .i64 k, r.val I ic] w fun e w' => e = .returned (.bool true) ∧ Ext w w' := by
  by_cases h : greatP ps hs ∨ 100 < r.ins.length
  · exact clashes_law_out A c ps B d hs i k r I ic w hA hB h
  · exact clashes_law_in A c ps B d hs i k r I ic w hA hB hr (fun h' => h (.inl h')) (by omega)
open Go.ChangeShapes Go.WideShapes Go.ChangeAt Go.Deep
section
variable {H : Type} {enc : TypeId × Value → H} {w : World} {base : Nat} {held : Bool}
theorem ints_cap {n : Nat} {v : Value} {y : DataW H × List MemPlace} (h : DataW.trod enc Try.prog w base (fun _ => true) held n 30 [v] = some y) :
    ∃ (A : Option Addr) (c : Nat) (xs : List Int), v = .slice A xs.length c ∧ Ints w A xs ∧ xs.length ≤ c ∧ xs.length ≤ 9223372036854775807 := by
  rcases open_ints Try.underlying30 Try.underlying3 (by kernel_rfl) h with ⟨hcs, _⟩ | ⟨x, l, c, zs, hcs, _, hl, hm, hz, _, hcell, hwz⟩
  · simp at hcs
    subst hcs
    exact ⟨none, 0, [], rfl, Ints.nil _ _, by simp, by simp⟩
  · simp at hcs hz
    subst hcs
    have hlen : (zs.take l).length = l := by rw [List.length_take]; omega
    refine ⟨some x, c, zs.take l, by rw [hlen], fun k hk => ⟨x, rfl, ?_⟩, by rw [hlen]; exact hl, by rw [hlen]; unfold maxLen at hm; omega⟩
    have hk' : k < l := by rw [List.length_map, hlen] at hk; exact hk
    rw [hcell k (by omega)]
    simp [hk', List.getD]
    rw [List.getElem?_eq_getElem (by omega)]
    simp
set_option maxRecDepth 100000 in
theorem arg_aprin {r : Reach} {b0 : Nat} {v : Value} {d : DataW H} {p : List MemPlace} (hv : Value.okWide Try.prog w r b0 67 v) (h : DataW.Trod enc Try.prog w base (fun _ => true) held 67 v d p) :
    ∃ (x : Apr) (I : Option Addr) (ic : Nat), v = x.val I ic ∧ AprIn w x I ic := by
  obtain ⟨cs, n, rfl, hsz, hf⟩ := open_fields Try.underlying67 (by kernel_rfl) (by kernel_rfl) hv h
  obtain ⟨c0, c1, c2, c3, c4, c5, rfl⟩ := array6 hsz
  obtain ⟨v0, y0, e0, h0⟩ := hf 0 _ rfl
  obtain ⟨v1, y1, e1, h1⟩ := hf 1 _ rfl
  obtain ⟨v2, y2, e2, h2⟩ := hf 2 _ rfl
  obtain ⟨v3, y3, e3, h3⟩ := hf 3 _ rfl
  obtain ⟨v4, y4, e4, h4⟩ := hf 4 _ rfl
  obtain ⟨v5, y5, e5, h5⟩ := hf 5 _ rfl
  obtain ⟨b, hb, _⟩ := DataW.trod_bool Try.underlying4 h0
  obtain ⟨x1, rfl, w1⟩ := int_of h1
  obtain ⟨x2, rfl, w2⟩ := int_of h2
  obtain ⟨x3, rfl, w3⟩ := int_of h3
  obtain ⟨x4, rfl, w4⟩ := int_of h4
  obtain ⟨I, ic, xs, rfl, hi, hc, hl⟩ := ints_cap h5
  obtain rfl : v0 = .bool b := by simpa using hb
  obtain rfl : c0 = .bool b := by injection e0
  obtain rfl : c1 = .int .i64 x1 := by injection e1
  obtain rfl : c2 = .int .i64 x2 := by injection e2
  obtain rfl : c3 = .int .i64 x3 := by injection e3
  obtain rfl : c4 = .int .i64 x4 := by injection e4
  obtain rfl : c5 = .slice I xs.length ic := by injection e5
  exact ⟨⟨b, x1, x2, x3, x4, xs⟩, I, ic, rfl, hi, hc, hl⟩
end
end Go.Proofs.Yteilglljigjefaa
