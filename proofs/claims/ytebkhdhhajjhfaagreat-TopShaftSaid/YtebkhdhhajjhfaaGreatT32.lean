/- The order of cells: a call leaves draws and new blocks behind, and nothing else. -/
import Derived.Test.YtebkhdhhajjhfaaGreatT31
import Derived.Sort.Grow
import Derived.Test.YtebkhdhhajjhfaaGreatT30
import Derived.Maps.OwnSet
import Derived.WideKeyPair
import Derived.Test.YtebkhdhhajjhfaaGreatT24
import Derived.Shelf.SlGeneric
import Derived.Shelf.SlSortCmp.WholeK
import Derived.Ground.SlsfProg
import Derived.Test.YtebkhdhhajjhfaaGreatT04
import Derived.Test.YtebkhdhhajjhfaaGreatT18
namespace Go.Proofs.YtebkhdhhajjhfaaGreat.Lt
open Go.RowKit Go.Sort
/-- The growth of worlds by draws and new blocks alone. -/
def Grown (w w' : World) : Prop := ∃ q os, w' = grow (w.drewN q) os
theorem Grown.refl (w : World) : Grown w w := ⟨0, #[], by rw [grow_empty]; rfl⟩
theorem Grown.trans {a b c : World} (h : Grown a b) (k : Grown b c) : Grown a c := by
  obtain ⟨q, os, rfl⟩ := h
  obtain ⟨q', os', rfl⟩ := k
  exact ⟨q + q', os ++ os', by show grow (grow ((a.drewN q).drewN q') os) os' = _; rw [grow_grow, World.drewN_drewN]⟩
theorem Grown.alloc {a w : World} (h : Grown a w) (o : Obj) : Grown a (w.alloc o) := h.trans ⟨0, #[o], alloc_eq_grow w o⟩
theorem Grown.drawn {a w : World} (h : Grown a w) : Grown a { w with drawn := w.drawn + 1 } := h.trans ⟨1, #[], by rw [grow_empty]; rfl⟩
theorem Grown.ext {w w' : World} (h : Grown w w') : Ext w w' := by
  obtain ⟨q, os, rfl⟩ := h
  refine ⟨rfl, rfl, rfl, by simp [grow], fun k hk => ?_⟩
  exact heap_grow_old (w.drewN q) os hk
def growPre : Cg.Pre := ⟨Grown, Grown.refl, Grown.trans, Grown.drawn, fun h => h.ext.le⟩
theorem row_heap {w : World} {b : Nat} {l : List Value} {t : TypeId} (h : w.heap[b]? = some (.cells l.toArray t)) : Row w (some ⟨b, 0, none⟩) l := fun k hk => ⟨_, rfl, by rw [add_zero', cell_heap h]; simp⟩
set_option maxHeartbeats 1000000 in
theorem or_any (A : Option Addr) (c : Nat) (l : List Int) (w : World) (hA : Ints w A l) (hl : l.length ≤ 1000) : Calls Tryz.prog 143 #[.slice A l.length c] w fun e w' => e = .returned (.int .i64 ((l.find? fun x => x != 0).getD 0)) ∧ w = w' := by
  have ha := fun k (hk : k < l.length) => hA.some_ (by omega : 0 < l.length)
  have hy : (∀ k, k < l.length → getI l k = 0) → (0 : Int) = (l.find? fun x => x != 0).getD 0 := fun h => by
    have : l.find? (fun x => x != 0) = none := by
      rw [List.find?_eq_none]
      intro x hx
      obtain ⟨k, hk, rfl⟩ := List.getElem_of_mem hx
      have := h k hk
      rw [getI_eq hk] at this
      simp [this]
    rw [this]
    rfl
  have hn : ∀ k, k < l.length → (∀ j, j < k → getI l j = 0) → getI l k ≠ 0 → getI l k = (l.find? fun x => x != 0).getD 0 := fun k hk hj h => by
    have e : l = l.take k ++ l[k] :: l.drop (k + 1) := by rw [← List.drop_eq_getElem_cons hk, List.take_append_drop]
    have h1 : (l.take k).find? (fun x => x != 0) = none := by
      rw [List.find?_eq_none]
      intro x hx
      obtain ⟨j, hjl, rfl⟩ := List.getElem_of_mem hx
      have hjk : j < k := by simp at hjl; omega
      have := hj j hjk
      rw [getI_eq (by omega)] at this
      simp [this]
    rw [getI_eq hk] at h ⊢
    conv => rhs; rw [e]
    rw [List.find?_append, h1, Option.none_or, List.find?_cons_of_pos (by simpa using h)]
    rfl
  have Ha := Lib.hid ha
  have Hy := Lib.hid hy
  have Hn := Lib.hid hn
  clear ha hy hn hA
  generalize (l.find? fun x => x != 0).getD 0 = R at *
  generalize l.length = n at *
  go_enter Tryz.func143, Tryz.ntmps143
  go_wp2
  go_loop [8] (fun i => ∃ k : Nat, k ≤ n ∧ i = .int .i64 k ∧ ∀ j, j < k → getI l j = 0) (fun i => n - (intOf i).toNat)
  case atStart => exact ⟨0, by omega, rfl, fun j h => absurd h (by omega)⟩
  case round =>
    obtain ⟨k, hk, rfl, hall⟩ := hrel
    have Hall := Lib.hid hall
    clear hall
    by_cases hlt : k < n
    · obtain ⟨ad, rfl, hc⟩ := Ha.out k hlt
      have c0 := hc k hlt w (Ext.refl _)
      have Hk := Lib.hid (Hn.out k hlt Hall.out)
      clear hc Ha Hn
      have hki : (k : Int) < (n : Int) := by omega
      have hstep : getI l k = 0 → ∀ j, j < k + 1 → getI l j = 0 := fun h j hj => by
        by_cases e : j = k
        · rw [e]; exact h
        · exact Hall.out j (by omega)
      have Hst := Lib.hid hstep
      clear hstep Hall
      generalize getI l k = x at *
      by_cases h0 : x = 0
      · subst h0
        go_wp2
        go_round
        case rel => exact ⟨k + 1, by omega, by go_num, Hst.out rfl⟩
        case measure => simp [intOf]; omega
      · have h1 : (x != 0) = true := by simpa using h0
        have H0 := Lib.hid h0
        clear h0
        go_wp2
        go_ret
        exact ⟨ret_i (Hk.out H0.out), rfl⟩
    · obtain rfl : n = k := by omega
      go_wp2
      go_ret
      exact ⟨ret_i (Hy.out Hall.out), rfl⟩
theorem ordC_or (a b : Ce) : (([cmpI a.z b.z, cmpI a.y b.y, cmpI a.x b.x] : List Int).find? fun x => x != 0).getD 0 = ordC a b := by
  unfold ordC
  by_cases h1 : cmpI a.z b.z = 0
  · by_cases h2 : cmpI a.y b.y = 0
    · by_cases h3 : cmpI a.x b.x = 0 <;> simp [h1, h2, h3]
    · simp [h1, h2]
  · simp [h1]
set_option maxHeartbeats 2000000 in
/-- The order of cells. -/
theorem order_any (a b : Ce) (w : World) : Calls Tryz.prog 105 #[a.val, b.val] w fun e w' => e = .returned (.int .i64 (ordC a b)) ∧ Grown w w' := by
  have hz := fun w' => cmp_any a.z b.z w'
  have hy := fun w' => cmp_any a.y b.y w'
  have hx := fun w' => cmp_any a.x b.x w'
  have ho := fun (w' : World) (g : Nat) (h : w'.heap[g]? = some (.cells #[.int .i64 (cmpI a.z b.z), .int .i64 (cmpI a.y b.y), .int .i64 (cmpI a.x b.x)] 3)) => (show Calls Tryz.prog 143 #[.slice (some ⟨g, 0, none⟩) 3 3] w' fun e w'' => e = .returned (.int .i64 (ordC a b)) ∧ w' = w'' from by
    have h1 := or_any (some ⟨g, 0, none⟩) 3 [cmpI a.z b.z, cmpI a.y b.y, cmpI a.x b.x] w' (row_heap h) (by simp)
    rw [ordC_or] at h1
    exact h1)
  have Hz := Lib.hid hz
  have Hy := Lib.hid hy
  have Hx := Lib.hid hx
  have Ho := Lib.hid ho
  clear hz hy hx ho
  generalize ordC a b = R at *
  generalize cmpI a.z b.z = cz at *
  generalize cmpI a.y b.y = cy at *
  generalize cmpI a.x b.x = cx at *
  obtain ⟨x, y, z⟩ := a
  obtain ⟨x', y', z'⟩ := b
  simp only at Hx Hy Hz
  have hW : Grown w ((w.alloc (.cells #[.int .i64 x, .int .i64 y, .int .i64 z] 60)).alloc (.cells #[.int .i64 x', .int .i64 y', .int .i64 z'] 60)) := ((Grown.refl w).alloc _).alloc _
  have ka : Blk ((w.alloc (.cells #[.int .i64 x, .int .i64 y, .int .i64 z] 60)).alloc (.cells #[.int .i64 x', .int .i64 y', .int .i64 z'] 60)) w.heap.size [.int .i64 x, .int .i64 y, .int .i64 z] := (Blk.new _ _).ext ((Ext.refl _).alloc _)
  have kb : Blk ((w.alloc (.cells #[.int .i64 x, .int .i64 y, .int .i64 z] 60)).alloc (.cells #[.int .i64 x', .int .i64 y', .int .i64 z'] 60)) (w.heap.size + 1) [.int .i64 x', .int .i64 y', .int .i64 z'] := Blk.new' (by simp)
  have a0 := ka.at_ 0 rfl
  have a1 := ka.at_ 1 rfl
  have a2 := ka.at_ 2 rfl
  have b0 := kb.at_ 0 rfl
  have b1 := kb.at_ 1 rfl
  have b2 := kb.at_ 2 rfl
  have HW := Lib.hid hW
  clear ka kb hW
  go_enter Tryz.func105, Tryz.ntmps105
  go_wp2
  generalize ((w.alloc (.cells #[.int .i64 x, .int .i64 y, .int .i64 z] 60)).alloc (.cells #[.int .i64 x', .int .i64 y', .int .i64 z'] 60)) = W at *
  refine Cg.wp_region_calm (p := growPre) (fr := (fun _ => false)) 18 (fun j _ v _ => (j = 4 → v = .int .i64 cz) ∧ (j = 9 → v = .int .i64 cy) ∧ (j = 14 → v = .int .i64 cx) ∧ (j = 16 → v = .int .i64 R)) (fun _ _ _ _ _ _ h => h) (by kernel_rfl) (by kernel_rfl) ?_
  simp only [List.take_succ_cons, List.take_zero, List.drop_succ_cons, List.drop_zero]
  refine Cg.calm_quiet Cg.calm_mono_final W (fun _ h => Grown.ext h) 4 (by kernel_rfl) ?_
  simp only [List.take_succ_cons, List.take_zero, List.drop_succ_cons, List.drop_zero]
  repeat (go_big_quiet_step (fail))
  refine wpQuiet_nil ?_
  refine Cg.calm_call Cg.calm_mono_final 109 #[.int .i64 z, .int .i64 z'] rfl (fun w => ?_) (fun w he hF => ?_) ?_
  · go_simp
  · exact (Hz.out w).mono fun e w'' ⟨he', hx⟩ => ⟨_, he', by rw [← hx]; exact Grown.refl _, ⟨fun _ => rfl, fun h => (by cases h), fun h => (by cases h), fun h => (by cases h)⟩, fun h => by cases h⟩
  rintro _ _ _ h _
  cases h.1 rfl
  simp only [Act.put, List.setIfInBounds_toArray, List.set_cons_succ, List.set_cons_zero]
  refine Cg.calm_quiet Cg.calm_mono_final W (fun _ h => Grown.ext h) 4 (by kernel_rfl) ?_
  simp only [List.take_succ_cons, List.take_zero, List.drop_succ_cons, List.drop_zero]
  repeat (go_big_quiet_step (fail))
  refine wpQuiet_nil ?_
  refine Cg.calm_call Cg.calm_mono_final 109 #[.int .i64 y, .int .i64 y'] rfl (fun w => ?_) (fun w he hF => ?_) ?_
  · go_simp
  · exact (Hy.out w).mono fun e w'' ⟨he', hx⟩ => ⟨_, he', by rw [← hx]; exact Grown.refl _, ⟨fun h => (by cases h), fun _ => rfl, fun h => (by cases h), fun h => (by cases h)⟩, fun h => by cases h⟩
  rintro _ _ _ h _
  cases h.2.1 rfl
  simp only [Act.put, List.setIfInBounds_toArray, List.set_cons_succ, List.set_cons_zero]
  refine Cg.calm_quiet Cg.calm_mono_final W (fun _ h => Grown.ext h) 4 (by kernel_rfl) ?_
  simp only [List.take_succ_cons, List.take_zero, List.drop_succ_cons, List.drop_zero]
  repeat (go_big_quiet_step (fail))
  refine wpQuiet_nil ?_
  refine Cg.calm_call Cg.calm_mono_final 109 #[.int .i64 x, .int .i64 x'] rfl (fun w => ?_) (fun w he hF => ?_) ?_
  · go_simp
  · exact (Hx.out w).mono fun e w'' ⟨he', hx⟩ => ⟨_, he', by rw [← hx]; exact Grown.refl _, ⟨fun h => (by cases h), fun h => (by cases h), fun _ => rfl, fun h => (by cases h)⟩, fun h => by cases h⟩
  rintro _ _ _ h _
  cases h.2.2.1 rfl
  simp only [Act.put, List.setIfInBounds_toArray, List.set_cons_succ, List.set_cons_zero]
  refine Cg.calm_value Cg.calm_mono_final (fun v w => ∃ b, v = .slice (some ⟨b, 0, none⟩) 3 3 ∧ w.heap[b]? = some (.cells #[.int .i64 cz, .int .i64 cy, .int .i64 cx] 3)) (fun _ w' w'' hR ⟨b, e, hh⟩ => ⟨b, e, (Grown.ext hR).heap hh⟩) rfl (fun w' hR _ => ⟨.slice (some ⟨w'.heap.size, 0, none⟩) 3 3, w'.alloc (.cells #[.int .i64 cz, .int .i64 cy, .int .i64 cx] 3), by go_simp, (Grown.refl _).alloc _, ⟨_, rfl, heap_alloc_new _ _⟩, fun hf => by cases hf⟩) ?_
  rintro _ _ _ ⟨g, rfl, _⟩ _
  simp only [Act.put, List.setIfInBounds_toArray, List.set_cons_succ, List.set_cons_zero]
  refine Cg.calm_call Cg.calm_mono_final 143 #[.slice (some ⟨g, 0, none⟩) 3 3] rfl (fun w => ?_) (fun w he hF => ?_) ?_
  · go_simp
  · obtain ⟨g', e1, hh⟩ := (hF 15 (by kernel_rfl)).2 rfl
    simp only [Value.slice.injEq, Option.some.injEq, Addr.mk.injEq, and_true] at e1
    subst e1
    exact (Ho.out w g hh).mono fun e w'' ⟨he', hx⟩ => ⟨_, he', by rw [← hx]; exact Grown.refl _, ⟨fun h => (by cases h), fun h => (by cases h), fun h => (by cases h), fun _ => rfl⟩, fun h => by cases h⟩
  rintro _ _ _ h _
  cases h.2.2.2 rfl
  simp only [Act.put, List.setIfInBounds_toArray, List.set_cons_succ, List.set_cons_zero]
  refine Cg.calm_quiet Cg.calm_mono_final W (fun _ h => Grown.ext h) 1 (by kernel_rfl) ?_
  simp only [List.take_succ_cons, List.take_zero, List.drop_succ_cons, List.drop_zero]
  repeat (go_big_quiet_step (fail))
  refine wpQuiet_nil ?_
  refine Cg.calm_nil fun w3 he3 _ => ?_
  have he3 : Grown W w3 := he3
  have H3 := Lib.hid he3
  clear he3 a0 a1 a2 b0 b1 b2
  go_wp2
  go_ret
  exact ⟨rfl, HW.out.trans H3.out⟩
end Go.Proofs.YtebkhdhhajjhfaaGreat.Lt

/- Kinds without knobs: valid ones pass. -/
namespace Go.Proofs.YtebkhdhhajjhfaaGreat.Lt
open Go.RowKit
theorem calm_skip {P : Program} {ops : Array Oper} {S : Spec} {w0 : World} {Q : Act → Fx → Prop} {o : Oper} {l : List Oper} {k : Nat} {a : Act} {F : Fx} (hw : Region.wanted o (yielded ops a.tmps) = false)
    (hn : wpCalm P ops S w0 Q l (k + 1) (a.put o.dst undef) F) : wpCalm P ops S w0 Q (o :: l) k a F :=
  ⟨fun h => by (rw [hw] at h; cases h), fun h => by (rw [hw] at h; cases h), fun _ => hn⟩
/-- A valid kind without knobs. -/
structure BareOk (k : Ki) : Prop where
  n0 : 1 ≤ k.cs.length
  n1 : k.cs.length ≤ 24
  ks : k.ks = []
  w0 : 1 ≤ k.wt
  w1 : k.wt ≤ 100
  near : ∀ i, i < k.cs.length → nearP (ceA k.cs i) 0 15
  asc : ∀ i, i + 1 < k.cs.length → befC (ceA k.cs i) (ceA k.cs (i + 1))
set_option maxRecDepth 100000 in
set_option maxHeartbeats 4000000 in
theorem checkkind_any (k : Ki) (B : Option Addr) (b : Nat) (D : Option Addr) (d : Nat) (w : World) (hk : BareOk k) (hB : CeRow w B k.cs) : Calls Tryz.prog 106 #[.agg #[.slice B k.cs.length b, .slice D 0 d, .int .i64 k.wt]] w fun e w' => e = .returned (.int .i64 0) ∧ Ext w w' := by
  have hat := fun j (hj : j < k.cs.length) => hB.at_ hj
  have hnr := fun j (hj : j < k.cs.length) w' => (show Calls Tryz.prog 57 #[(ceA k.cs j).val, .int .i64 0, .int .i64 15] w' fun e w'' => e = .returned (.bool true) ∧ Ext w' w'' from by
    have h := near_any (ceA k.cs j) 0 15 w'
    rw [show nearB (ceA k.cs j) 0 15 = true from decide_eq_true (hk.near j hj)] at h
    exact h)
  have hor := fun j (hj : j + 1 < k.cs.length) w' => (show ∃ o : Int, ¬ 0 ≤ o ∧ Calls Tryz.prog 105 #[(ceA k.cs j).val, (ceA k.cs (j + 1)).val] w' fun e w'' => e = .returned (.int .i64 o) ∧ Ext w' w'' from by
    have h2 := ordC_neg.2 (hk.asc j hj)
    exact ⟨_, by omega, (order_any (ceA k.cs j) (ceA k.cs (j + 1)) w').mono fun e w'' ⟨he, hx⟩ => ⟨he, hx.ext⟩⟩)
  obtain ⟨cs, ks, wt⟩ := k
  have hn0 := hk.n0
  have hn1 := hk.n1
  have hw0 := hk.w0
  have hw1 := hk.w1
  simp only at hat hnr hor hn0 hn1 hw0 hw1
  have Hat := Lib.hid hat
  have Hnr := Lib.hid hnr
  have Hor := Lib.hid hor
  clear hat hnr hor hk hB
  generalize cs.length = n at *
  have h0n : ¬ (n : Int) < 1 := by omega
  have h1n : ¬ (n : Int) > 24 := by omega
  have h2n : ¬ wt < 1 := by omega
  have h3n : ¬ wt > 100 := by omega
  have kb : Blk (w.alloc (.cells #[.slice B n b, .slice D 0 d, .int .i64 wt] 82)) w.heap.size [.slice B n b, .slice D 0 d, .int .i64 wt] := Blk.new _ _
  have b0 := kb.at_ 0 rfl
  have b1 := kb.at_ 1 rfl
  have b2 := kb.at_ 2 rfl
  have hx0 : Ext w (w.alloc (.cells #[.slice B n b, .slice D 0 d, .int .i64 wt] 82)) := by simp
  have Hx0 := Lib.hid hx0
  clear kb hx0
  go_enter Tryz.func106, Tryz.ntmps106
  go_wp2
  have B0 := Lib.hid b0
  have B1 := Lib.hid b1
  clear b0 b1 b2
  generalize (w.alloc (.cells #[.slice B n b, .slice D 0 d, .int .i64 wt] 82)) = W at *
  go_loopw [36] (fun i wr => ∃ j : Nat, j ≤ n ∧ i = .int .i64 j ∧ Ext W wr) (fun i _ => n - (intOf i).toNat)
  case atStart => exact ⟨0, by omega, rfl, Ext.refl _⟩
  case round =>
    obtain ⟨j, hj, rfl, hex⟩ := hrel
    by_cases hlt : j < n
    · have hji : (j : Int) < (n : Int) := by omega
      obtain ⟨ad, rfl, x0, x1, x2⟩ := Hat.out j hlt
      have u0 := fun w' he => x0 w' ((Hx0.out.trans hex).trans he)
      have u1 := fun w' he => x1 w' ((Hx0.out.trans hex).trans he)
      have u2 := fun w' he => x2 w' ((Hx0.out.trans hex).trans he)
      have b0 := fun w' he => B0.out w' (hex.trans he)
      clear x0 x1 x2
      by_cases hz : j = 0
      · subst hz
        have Hnj := Lib.hid (Hnr.out 0 hlt)
        generalize hcj : ceA cs 0 = q at *
        obtain ⟨x, y, z⟩ := q
        simp only [Nat.zero_mul, add_zero_] at Hnj u0 u1 u2
        have kq : Blk (wr.alloc (.cells #[.int .i64 x, .int .i64 y, .int .i64 z] 60)) wr.heap.size [.int .i64 x, .int .i64 y, .int .i64 z] := Blk.new _ _
        have q0 := kq.at_ 0 rfl
        have q1 := kq.at_ 1 rfl
        have q2 := kq.at_ 2 rfl
        have hxq : Ext wr (wr.alloc (.cells #[.int .i64 x, .int .i64 y, .int .i64 z] 60)) := by simp
        have Hxq := Lib.hid hxq
        have Hex := Lib.hid hex
        clear kq hcj hxq hex Hat Hor
        go_wp2
        generalize (wr.alloc (.cells #[.int .i64 x, .int .i64 y, .int .i64 z] 60)) = W2 at *
        clear u0 u1 u2 b0
        refine wp_region_calm 18 (fun j _ v _ => j = 1 → v = .bool true) (fun _ _ _ _ _ _ h => h) (by kernel_rfl) (by kernel_rfl) ?_
        simp only [List.take_succ_cons, List.take_zero, List.drop_succ_cons, List.drop_zero]
        refine calm_quiet calm_mono_final 1 (by kernel_rfl) ?_
        simp only [List.take_succ_cons, List.take_zero, List.drop_succ_cons, List.drop_zero]
        repeat (go_big_quiet_step (fail))
        refine wpQuiet_nil ?_
        refine calm_call calm_mono_final 57 #[.agg #[.int .i64 x, .int .i64 y, .int .i64 z], .int .i64 0, .int .i64 15] rfl (fun w => ?_) (fun w he hF => ?_) ?_
        · go_simp
        · exact (Hnj.out w).mono fun e w'' ⟨he', hx⟩ => ⟨_, he', hx, fun _ => rfl⟩
        rintro _ _ _ h
        cases h rfl
        simp only [Act.put, List.setIfInBounds_toArray, List.set_cons_succ, List.set_cons_zero]
        refine calm_quiet calm_mono_final 12 (by kernel_rfl) ?_
        simp only [List.take_succ_cons, List.take_zero, List.drop_succ_cons, List.drop_zero]
        repeat (go_big_quiet_step (fail))
        refine wpQuiet_nil ?_
        refine calm_skip (by kernel_rfl) ?_
        simp only [Act.put, List.setIfInBounds_toArray, List.set_cons_succ, List.set_cons_zero]
        refine calm_quiet calm_mono_final 3 (by kernel_rfl) ?_
        simp only [List.take_succ_cons, List.take_zero, List.drop_succ_cons, List.drop_zero]
        repeat (go_big_quiet_step (fail))
        refine wpQuiet_nil ?_
        refine calm_nil fun w3 he3 _ => ?_
        have H3 := Lib.hid (Hex.out.trans (Hxq.out.trans he3))
        clear he3 q0 q1 q2
        go_wp2
        go_roundw
        case rel => exact ⟨1, by omega, by go_num, H3.out⟩
        case measure => simp [intOf]; omega
      · obtain ⟨i, rfl⟩ : ∃ i, j = i + 1 := ⟨j - 1, by omega⟩
        obtain ⟨_, ee, y0, y1, y2⟩ := Hat.out i (by omega)
        cases ee
        have v0 := fun w' he => y0 w' ((Hx0.out.trans hex).trans he)
        have v1 := fun w' he => y1 w' ((Hx0.out.trans hex).trans he)
        have v2 := fun w' he => y2 w' ((Hx0.out.trans hex).trans he)
        have Hnj := Lib.hid (Hnr.out (i + 1) hlt)
        have Hoj := Lib.hid (fun w' => Hor.out i hlt w')
        generalize hcj : ceA cs (i + 1) = q at *
        generalize hci : ceA cs i = p at *
        obtain ⟨x, y, z⟩ := q
        obtain ⟨px, py, pz⟩ := p
        simp only at Hnj Hoj u0 u1 u2 v0 v1 v2
        have kq : Blk (wr.alloc (.cells #[.int .i64 x, .int .i64 y, .int .i64 z] 60)) wr.heap.size [.int .i64 x, .int .i64 y, .int .i64 z] := Blk.new _ _
        have q0 := kq.at_ 0 rfl
        have q1 := kq.at_ 1 rfl
        have q2 := kq.at_ 2 rfl
        have hxq : Ext wr (wr.alloc (.cells #[.int .i64 x, .int .i64 y, .int .i64 z] 60)) := by simp
        have p0 := fun w' he => v0 w' (hxq.trans he)
        have p1 := fun w' he => v1 w' (hxq.trans he)
        have p2 := fun w' he => v2 w' (hxq.trans he)
        have b0' := fun w' he => b0 w' (hxq.trans he)
        have hs1 : IntKind.i64.wrap (((i + 1 : Nat) : Int) - 1) = (i : Int) := by rw [IntKind.wrap_i64]; omega
        have hs2 : IntKind.i64.wrap ((i : Int) + 1 - 1) = (i : Int) := by rw [IntKind.wrap_i64]; omega
        have hin : (i : Int) < (n : Int) := by omega
        have hi0 : (0 : Int) < (i : Int) + 1 := by omega
        have Hxq := Lib.hid hxq
        have Hex := Lib.hid hex
        clear kq hcj hci hxq hex Hat Hor y0 y1 y2 v0 v1 v2 Hnr
        go_wp2
        generalize (wr.alloc (.cells #[.int .i64 x, .int .i64 y, .int .i64 z] 60)) = W2 at *
        clear u0 u1 u2 b0
        refine wp_region_calm 18 (fun j _ v _ => (j = 1 → v = .bool true) ∧ (j = 14 → ∃ o : Int, ¬ 0 ≤ o ∧ v = .int .i64 o)) (fun _ _ _ _ _ _ h => h) (by kernel_rfl) (by kernel_rfl) ?_
        simp only [List.take_succ_cons, List.take_zero, List.drop_succ_cons, List.drop_zero]
        refine calm_quiet calm_mono_final 1 (by kernel_rfl) ?_
        simp only [List.take_succ_cons, List.take_zero, List.drop_succ_cons, List.drop_zero]
        repeat (go_big_quiet_step (fail))
        refine wpQuiet_nil ?_
        refine calm_call calm_mono_final 57 #[.agg #[.int .i64 x, .int .i64 y, .int .i64 z], .int .i64 0, .int .i64 15] rfl (fun w => ?_) (fun w he hF => ?_) ?_
        · go_simp
        · exact (Hnj.out w).mono fun e w'' ⟨he', hx⟩ => ⟨_, he', hx, fun _ => rfl, fun h => (by cases h)⟩
        rintro _ _ _ h
        cases h.1 rfl
        simp only [Act.put, List.setIfInBounds_toArray, List.set_cons_succ, List.set_cons_zero]
        refine calm_quiet calm_mono_final 12 (by kernel_rfl) ?_
        simp only [List.take_succ_cons, List.take_zero, List.drop_succ_cons, List.drop_zero]
        repeat (go_big_quiet_step (fail))
        refine wpQuiet_nil ?_
        refine calm_call calm_mono_final 105 #[.agg #[.int .i64 px, .int .i64 py, .int .i64 pz], .agg #[.int .i64 x, .int .i64 y, .int .i64 z]] rfl (fun w => ?_) (fun w he hF => ?_) ?_
        · go_simp
        · obtain ⟨o, ho, hc⟩ := Hoj.out w
          exact hc.mono fun e w'' ⟨he', hx⟩ => ⟨_, he', hx, fun h => (by cases h), fun _ => ⟨o, by omega, rfl⟩⟩
        rintro _ _ _ h
        obtain ⟨o, ho, rfl⟩ := h.2 rfl
        clear h
        simp only [Act.put, List.setIfInBounds_toArray, List.set_cons_succ, List.set_cons_zero]
        have ho2 : ¬ o ≥ 0 := by omega
        refine calm_quiet calm_mono_final 3 (by kernel_rfl) ?_
        simp only [List.take_succ_cons, List.take_zero, List.drop_succ_cons, List.drop_zero]
        repeat (go_big_quiet_step (fail))
        refine wpQuiet_nil ?_
        refine calm_nil fun w3 he3 _ => ?_
        have H3 := Lib.hid (Hex.out.trans (Hxq.out.trans he3))
        clear he3 q0 q1 q2 p0 p1 p2 b0' hs1 hs2
        go_wp2
        go_roundw
        case rel => exact ⟨i + 1 + 1, by omega, by go_num, H3.out⟩
        case measure => simp [intOf]; omega
    · obtain rfl : n = j := by omega
      have b1 := fun w' he => B1.out w' (hex.trans he)
      go_wp2
      go_loopw [63] (fun i wr => ∃ j : Nat, j = 0 ∧ i = .int .i64 j ∧ Ext W wr) (fun i _ => 0)
      case atStart => exact ⟨0, rfl, rfl, hex⟩
      case round =>
        obtain ⟨j, rfl, rfl, hex2⟩ := hrel
        go_wp2
        go_ret
        exact ⟨rfl, Hx0.out.trans hex2⟩
end Go.Proofs.YtebkhdhhajjhfaaGreat.Lt

/- Kinds and bricks that are valid pass. -/
namespace Go.Proofs.YtebkhdhhajjhfaaGreat.Lt
open Go.RowKit
set_option maxRecDepth 100000 in
set_option maxHeartbeats 4000000 in
theorem checkkinds_any (l : List Ki) (A : Option Addr) (c : Nat) (w : World) (hA : KiRow w A l) (hl : l.length ≤ 16) (hk : ∀ i, i < l.length → BareOk (kiA l i)) : Calls Tryz.prog 73 #[.slice A l.length c] w fun e w' => e = .returned (.int .i64 0) ∧ Ext w w' := by
  have hat := fun j (hj : j < l.length) => (show ∃ ad B b D d, A = some ad ∧ (∀ w', Ext w w' → w'.cell? (ad.add (j * 3)) = some (.slice B (kiA l j).cs.length b)) ∧ (∀ w', Ext w w' → w'.cell? ⟨(ad.add (j * 3)).block, (ad.add (j * 3)).off + 1, none⟩ = some (.slice D 0 d)) ∧
      (∀ w', Ext w w' → w'.cell? ⟨(ad.add (j * 3)).block, (ad.add (j * 3)).off + 2, none⟩ = some (.int .i64 (kiA l j).wt)) ∧ ∀ w', Ext w w' → Calls Tryz.prog 106 #[.agg #[.slice B (kiA l j).cs.length b, .slice D 0 d, .int .i64 (kiA l j).wt]] w' fun e w'' => e = .returned (.int .i64 0) ∧ Ext w' w'' from by
    obtain ⟨ad, B, b, D, d, h1, h2, h3, h4, h5, _⟩ := hA j hj
    rw [(hk j hj).ks] at h3
    exact ⟨ad, B, b, D, d, h1, h2, h3, h4, fun w' he => checkkind_any _ B b D d w' (hk j hj) (h5.ext he)⟩)
  have Hat := Lib.hid hat
  clear hat hA hk
  generalize l.length = n at *
  have hn : ¬ (n : Int) > 16 := by omega
  go_enter Tryz.func73, Tryz.ntmps73
  go_wp2
  go_loopw [11] (fun i wr => ∃ j : Nat, j ≤ n ∧ i = .int .i64 j ∧ Ext w wr) (fun i _ => n - (intOf i).toNat)
  case atStart => exact ⟨0, by omega, rfl, Ext.refl _⟩
  case round =>
    obtain ⟨j, hj, rfl, hex⟩ := hrel
    by_cases hlt : j < n
    · have hji : (j : Int) < (n : Int) := by omega
      obtain ⟨ad, B, b, D, d, rfl, x0, x1, x2, hc⟩ := Hat.out j hlt
      have u0 := fun w' he => x0 w' (hex.trans he)
      have u1 := fun w' he => x1 w' (hex.trans he)
      have u2 := fun w' he => x2 w' (hex.trans he)
      have Hc := Lib.hid hc
      have Hex := Lib.hid hex
      clear x0 x1 x2 hc hex Hat
      generalize (kiA l j).cs.length = m at *
      generalize (kiA l j).wt = wt at *
      go_wp2_with (go_at_call 106; refine (Hc.out _ (Hex.out.trans (by simp (maxDischargeDepth := 8)))).mono ?_; rintro e w3 ⟨rfl, hx⟩; have H3 := Lib.hid (Hex.out.trans (((Ext.refl wr).alloc _).trans hx)); clear hx)
      go_roundw
      case rel => exact ⟨j + 1, by omega, by go_num, H3.out⟩
      case measure => simp [intOf]; omega
    · obtain rfl : n = j := by omega
      go_wp2
      go_ret
      exact ⟨rfl, hex⟩
/-- A valid brick, of so many kinds. -/
structure BrOk (n : Nat) (b : Br) : Prop where
  k0 : 0 ≤ b.kind
  k1 : b.kind < n
  near : nearP b.at_ (-1000) 1000
  t0 : 0 ≤ b.trn
  t1 : b.trn < 24
  c0 : 0 ≤ b.col
  c1 : b.col ≤ 15
set_option maxHeartbeats 2000000 in
theorem valid_any (n c : Nat) (A : Option Addr) (b : Br) (w : World) (hb : BrOk n b) : Calls Tryz.prog 102 #[.slice A n c, b.val] w fun e w' => e = .returned (.bool true) ∧ Ext w w' := by
  have hnr := fun w' => (show Calls Tryz.prog 57 #[b.at_.val, .int .i64 (-1000), .int .i64 1000] w' fun e w'' => e = .returned (.bool true) ∧ Ext w' w'' from by
    have h := near_any b.at_ (-1000) 1000 w'
    rw [show nearB b.at_ (-1000) 1000 = true from decide_eq_true hb.near] at h
    exact h)
  obtain ⟨k0, k1, _, t0, t1, c0, c1⟩ := hb
  have Hnr := Lib.hid hnr
  clear hnr
  obtain ⟨kind, ⟨x, y, z⟩, trn, col⟩ := b
  simp only at k0 k1 t0 t1 c0 c1 Hnr
  have g0 : kind ≥ 0 := k0
  have kq : Blk (w.alloc (.cells #[.int .i64 kind, .int .i64 x, .int .i64 y, .int .i64 z, .int .u8 trn, .int .u8 col] 85)) w.heap.size [.int .i64 kind, .int .i64 x, .int .i64 y, .int .i64 z, .int .u8 trn, .int .u8 col] := Blk.new _ _
  have q4 := kq.at_ 4 rfl
  have q5 := kq.at_ 5 rfl
  clear kq
  go_enter Tryz.func102, Tryz.ntmps102
  go_wp2_with (go_at_call 57; refine (Hnr.out _).mono ?_; rintro e w3 ⟨rfl, hx⟩)
  go_ret
  exact ⟨rfl, ((Ext.refl w).alloc _).trans hx⟩
set_option maxRecDepth 100000 in
set_option maxHeartbeats 4000000 in
/-- Kinds and bricks that are all valid. -/
theorem check_any (l : List Ki) (A : Option Addr) (c : Nat) (ms : List Br) (M : Option Addr) (mc : Nat) (w : World) (hA : KiRow w A l) (hl : l.length ≤ 16) (hk : ∀ i, i < l.length → BareOk (kiA l i)) (hM : BrRow w M ms) (hm : ms.length ≤ 1000) (hb : ∀ i, i < ms.length → BrOk l.length (brA ms i)) :
    Calls Tryz.prog 71 #[.slice A l.length c, .slice M ms.length mc] w fun e w' => e = .returned (.int .i64 0) ∧ Ext w w' := by
  have hck := fun w' (he : Ext w w') => checkkinds_any l A c w' (hA.ext he) hl hk
  have hat := fun j (hj : j < ms.length) => hM.at_ hj
  have hv := fun j (hj : j < ms.length) w' => valid_any l.length c A (brA ms j) w' (hb j hj)
  have Hck := Lib.hid hck
  have Hat := Lib.hid hat
  have Hv := Lib.hid hv
  clear hck hat hv hA hk hM hb hl
  generalize l.length = n at *
  generalize ms.length = m at *
  go_enter Tryz.func71, Tryz.ntmps71
  go_wp2_with (go_at_call 73; refine (Hck.out _ (Ext.refl _)).mono ?_; rintro e w1 ⟨rfl, hx1⟩)
  go_loopw [15] (fun i wr => ∃ j : Nat, j ≤ m ∧ i = .int .i64 j ∧ Ext w wr) (fun i _ => m - (intOf i).toNat)
  case atStart => exact ⟨0, by omega, rfl, hx1⟩
  case round =>
    obtain ⟨j, hj, rfl, hex⟩ := hrel
    by_cases hlt : j < m
    · have hji : (j : Int) < (m : Int) := by omega
      obtain ⟨ad, rfl, x0, x1, x2, x3, x4, x5⟩ := Hat.out j hlt
      have u0 := fun w' he => x0 w' (hex.trans he)
      have u1 := fun w' he => x1 w' (hex.trans he)
      have u2 := fun w' he => x2 w' (hex.trans he)
      have u3 := fun w' he => x3 w' (hex.trans he)
      have u4 := fun w' he => x4 w' (hex.trans he)
      have u5 := fun w' he => x5 w' (hex.trans he)
      have Hvj := Lib.hid (Hv.out j hlt)
      have Hex := Lib.hid hex
      clear x0 x1 x2 x3 x4 x5 hex Hat Hv hx1
      generalize brA ms j = b at *
      obtain ⟨kind, ⟨x, y, z⟩, trn, col⟩ := b
      simp only [Br.val] at u0 u1 u2 u3 u4 u5 Hvj
      go_wp2_with (go_at_call 102; refine (Hvj.out _).mono ?_; rintro e w3 ⟨rfl, hx⟩; have H3 := Lib.hid (Hex.out.trans (((Ext.refl wr).alloc _).trans hx)); clear hx)
      go_roundw
      case rel => exact ⟨j + 1, by omega, by go_num, H3.out⟩
      case measure => simp [intOf]; omega
    · obtain rfl : m = j := by omega
      go_wp2
      go_ret
      exact ⟨rfl, hex⟩
end Go.Proofs.YtebkhdhhajjhfaaGreat.Lt

/- Cells as keys of a map; which bricks are at which cell. -/
namespace Go.Proofs.YtebkhdhhajjhfaaGreat.Lt
open Go Go.RowKit Go.Maps
theorem cell_law : WideMaps.KeyLaw Tryz.prog 60 := deep_law (m := 2) (by omega) (by kernel_rfl) (by kernel_rfl) (by rw [Tryz.underlying60])
theorem cell_keyed : Keyed Tryz.prog 60 := Keyed.of_law cell_law
def kc (c : Ce) : Lit := .string (keyBytes [.int .i64 c.x, .int .i64 c.y, .int .i64 c.z])
theorem keyOf_kc (c : Ce) (hx : (Lit.int .i64 c.x).wf = true) (hy : (Lit.int .i64 c.y).wf = true) (hz : (Lit.int .i64 c.z).wf = true) : keyOf Tryz.prog 60 c.val = some (kc c) := by
  have hkt : Tryz.prog.keyType 60 = true := by kernel_rfl
  have hcs : Tryz.prog.cellsOf 60 = 3 := by kernel_rfl
  have hci : Tryz.prog.cellsOf 3 = 1 := by kernel_rfl
  obtain ⟨m, hm⟩ : ∃ m, Tryz.prog.types.size = m + 1 := ⟨Tryz.prog.types.size - 1, by have h : 0 < Tryz.prog.types.size := of_decide_eq_true (by kernel_rfl); omega⟩
  unfold keyOf
  simp only [Tryz.underlying60]
  rw [if_pos (by simp [hkt, Value.formed, Tryz.underlying60, hcs]), hm]
  unfold Program.keyLits
  simp only [Tryz.underlying60, Value.cells]
  rw [if_pos (by rw [hcs]; exact ⟨rfl, by simp⟩)]
  simp [hci, Program.keyLits, Tryz.underlying3, hx, hy, hz, kc]
end Go.Proofs.YtebkhdhhajjhfaaGreat.Lt

/- Which bricks are at which cell, and which pairs overlap: the two maps as they read. -/
namespace Go.Proofs.YtebkhdhhajjhfaaGreat.Lt
open Go Go.RowKit Go.Maps Go.ChangeShapes
open Go.WideElems (Fit rd rg pl rd_val rd_key rg_of)
/-- What a slice of numbers reads as, as a list. -/
def itemsD : DataW Unit → List Int
  | .slice ds _ => ds.map fun d => match d with
    | .lit (.int _ x) => x
    | _ => 0
  | _ => []
theorem items_row {w : World} {base e : Nat} {v : Value} {zs : List Int} (h : w.ownsInts base e .i64 v zs) : itemsD (rowDatum .i64 v zs) = zs := by
  rcases h.datum (H := Unit) with ⟨h1, rfl⟩ | h1
  · rw [h1]; rfl
  · rw [h1]
    simp only [itemsD, lits, List.map_map]
    conv => rhs; rw [← List.map_id zs]
    rfl
section
variable {H : Type} {P : Program} {w w' : World} {k e : TypeId} {q : IntKind} {base b n : Nat} {D : DataW H} {row : Option Nat}
theorem groups_isMap (h : w.ownsGroups P k base e q b n D) : IsMap D := by
  obtain ⟨es, clock, _, _, _, rfl, _⟩ := h
  exact ⟨_, rfl⟩
theorem groups_mono (h : w.ownsGroups P k base e q b n D) {m : Nat} (hm : n ≤ m) : w.ownsGroups P k base e q b m D := by
  obtain ⟨es, clock, hb, F, hs, hD, hbb, hlen, hap⟩ := h
  exact ⟨es, clock, hb, F, Nat.le_trans hs hm, hD, hbb, fun x hx zs hz => Nat.le_trans (hlen x hx zs hz) hm, hap⟩
/-- Growth elsewhere leaves it as it is. -/
theorem groups_kept (h : w.ownsGroups P k base e q b n D) (hg : w.grownBy w' row) (hb : some b ≠ row) (hr : ∀ v zs, w.ownsInts base e q v zs → v.ownBlock = none ∨ v.ownBlock ≠ row) : w'.ownsGroups P k base e q b n D := by
  obtain ⟨es, clock, hbk, F, hs, hD, hbb, hlen, hap⟩ := h
  have hblt : b < w.heap.size := (Array.getElem?_eq_some_iff.1 hbk).1
  have keep : ∀ {v : Value} {zs : List Int}, w.ownsInts base e q v zs → w'.ownsInts base e q v zs := fun ho => ho.kept hg (hr _ _ ho)
  have hst : ∀ x ∈ es.toList, ∀ z, rowElem (H := H) w base e q x.val = some z → rowElem w' base e q x.val = some z := fun x _ z hz => by
    obtain ⟨ys, hy, rfl⟩ := rowElem_inv hz
    exact rowElem_mk (keep hy)
  obtain ⟨F2, hmap, _⟩ := F.stay hst
  refine ⟨es, clock, (hg.block b hblt hb).trans hbk, F2, hs, by rw [hmap]; exact hD, hbb, fun x hx zs hz => ?_, hap⟩
  obtain ⟨y, hy⟩ := F.reads x hx
  obtain ⟨z, hz2, _⟩ := rd_val hy
  obtain ⟨ys, ho, _⟩ := rowElem_inv hz2
  rw [hz.unique (keep ho)]
  exact hlen x hx ys ho
theorem groups_ext (h : w.ownsGroups P k base e q b n D) (he : Ext w w') : w'.ownsGroups P k base e q b n D :=
  groups_kept h (row := none) ⟨he.os, he.tape, he.output, he.size, fun i hi _ => he.block i hi⟩ (by simp) (fun v zs ho => by
    cases hv : v.ownBlock with
    | none => exact .inl rfl
    | some g => exact .inr (by simp))
theorem ints_not_map {v : Value} {zs : List Int} (h : w.ownsInts base e q v zs) {r : Nat} {es : Array MapEntry} {clock : Nat} (hr : w.heap[r]? = some (.map es clock)) : v.ownBlock = none ∨ v.ownBlock ≠ some r := by
  rcases h.1.2 with ⟨rfl, _⟩ | ⟨g, cap, cur, rfl, _, hh, _⟩
  · exact .inl rfl
  · refine .inr fun e1 => ?_
    have : g = r := by simpa [Value.ownBlock] using e1
    subst this
    rw [hr] at hh
    cases hh
end
/-- The map from cells to bricks: f says which. -/
def InM (w0 w : World) (b base n : Nat) (f : Ce → Int → Prop) : Prop := ∃ D : DataW Unit, w.ownsGroups Tryz.prog 60 base 3 .i64 b n D ∧ (∀ c, nearP c (-5000) 5000 → ∀ x, x ∈ itemsD (D.atKey (kc c) .nil) ↔ f c x) ∧ Ext w0 w ∧ w0.heap.size ≤ b ∧ w0.heap.size ≤ base
theorem cell_wf {c : Ce} (h : nearP c (-5000) 5000) : (Lit.int .i64 c.x).wf = true ∧ (Lit.int .i64 c.y).wf = true ∧ (Lit.int .i64 c.z).wf = true := by
  obtain ⟨⟨h1, h2⟩, ⟨h3, h4⟩, h5, h6⟩ := h
  exact ⟨WalkArith.wf_i64 (by omega), WalkArith.wf_i64 (by omega), WalkArith.wf_i64 (by omega)⟩
theorem keyOf_near {c : Ce} (h : nearP c (-5000) 5000) : keyOf Tryz.prog 60 c.val = some (kc c) := keyOf_kc c (cell_wf h).1 (cell_wf h).2.1 (cell_wf h).2.2
theorem kc_inj {c d : Ce} (hc : nearP c (-5000) 5000) (hd : nearP d (-5000) 5000) (h : kc c = kc d) : c = d := by
  have h1 := keyOf_near hc
  have h2 := keyOf_near hd
  rw [h] at h1
  have h3 := cell_keyed.inj h1 h2
  obtain ⟨c1, c2, c3⟩ := c
  obtain ⟨d1, d2, d3⟩ := d
  simp only [Ce.val, Value.agg.injEq, Array.mk.injEq, List.cons.injEq, Value.int.injEq, true_and, and_true] at h3
  simp only [Ce.mk.injEq]
  exact h3
theorem zero_slice (u : World) : (zeroValue 26).run Tryz.prog u = .ok (.slice none 0 0) u := by kernel_rfl
section
variable {w0 w w' : World} {b base n : Nat} {f : Ce → Int → Prop} {row : Option Nat}
theorem InM.start (he : Ext w0 w) (hb : b = w.heap.size) : InM w0 (w.alloc (.map #[] 0)) b (b + 1) 0 (fun _ _ => False) := by
  subst hb
  exact ⟨_, World.ownsGroups_made w Tryz.prog _ _ _, fun c _ x => by simp [DataW.atKey, itemsD], he.alloc _, he.le, by have := he.le; omega⟩
theorem InM.mono (h : InM w0 w b base n f) {m : Nat} (hm : n ≤ m) : InM w0 w b base m f := by
  obtain ⟨D, h1, h2, h3, h4, h5⟩ := h
  exact ⟨D, groups_mono h1 hm, h2, h3, h4, h5⟩
theorem InM.congr (h : InM w0 w b base n f) {g : Ce → Int → Prop} (hfg : ∀ c, nearP c (-5000) 5000 → ∀ x, f c x ↔ g c x) : InM w0 w b base n g := by
  obtain ⟨D, h1, h2, h3, h4, h5⟩ := h
  exact ⟨D, h1, fun c hc x => (h2 c hc x).trans (hfg c hc x), h3, h4, h5⟩
theorem InM.later (h : InM w0 w b base n f) (he : Ext w w') : InM w0 w' b base n f := by
  obtain ⟨D, h1, h2, h3, h4, h5⟩ := h
  exact ⟨D, groups_ext h1 he, h2, h3.trans he, h4, h5⟩
theorem InM.ext (h : InM w0 w b base n f) : Ext w0 w := by
  obtain ⟨_, _, _, h3, _⟩ := h
  exact h3
/-- A store into another map. -/
theorem InM.beside (h : InM w0 w b base n f) {r : Nat} (hg : w.grownBy w' (some r)) (hr0 : w0.heap.size ≤ r) {es : Array MapEntry} {clock : Nat} (hr : w.heap[r]? = some (.map es clock)) (hne : b ≠ r) : InM w0 w' b base n f := by
  obtain ⟨D, h1, h2, h3, h4, h5⟩ := h
  exact ⟨D, groups_kept h1 hg (by simpa using hne) (fun v zs ho => ints_not_map ho hr), h2, h3.grown hg (fun k hk => by cases hk; exact hr0), h4, h5⟩
theorem InM.look {ops : Array Oper} {rest : List Oper} {o : Oper} {a : Act} {Q : Exit → Act → World → Prop} (hg : o.guard = none) (mo x : Operand) (hop : o.op = Op.lookup 171 mo x false)
    (hm : a.eval mo = .map (some b)) (h : InM w0 w b base n f) (hn : n < 1000000) (c : Ce) (hc : nearP c (-5000) 5000) (hx : a.eval x = c.val)
    (hK : ∀ (A : Option Addr) (zs : List Int) (cap : Nat), Own w0 w 3 1 (.slice A zs.length cap) zs.length (zs.map (Value.int .i64)) → zs.length ≤ n → (∀ x, x ∈ zs ↔ f c x) → wpList Tryz.prog ops Q rest (a.put o.dst (.slice A zs.length cap)) w) : wpList Tryz.prog ops Q (o :: rest) a w := by
  obtain ⟨D, h1, h2, h3, h4, h5⟩ := h
  refine wpList_lookup_groups w hg mo x 171 hop 60 26 3 .i64 cell_keyed Tryz.underlying171 (zero_slice w) base b n D hm h1 (by unfold maxLen; omega) _ (kc c) hx (keyOf_near hc) fun v zs hat hoi hzl _ => ?_
  have hown : Own w0 w 3 1 v zs.length (zs.map (Value.int .i64)) := by
    refine ⟨h3, hoi.1.1, ?_⟩
    rcases hoi.1.2 with h6 | ⟨g, cap, cur, e1, hge, r⟩
    · exact .inl h6
    · exact .inr ⟨g, cap, cur, e1, Nat.le_trans h5 hge, r⟩
  obtain ⟨A, cap, rfl⟩ := hown.form
  exact hK A zs cap hown hzl fun x => by rw [← h2 c hc x, hat, items_row hoi]
end
theorem arr2 : WideMaps.ArrKey Tryz.prog 173 3 2 := ⟨Tryz.underlying173, by kernel_rfl, by kernel_rfl, by kernel_rfl⟩
theorem Kpair : Keyed Tryz.prog 173 := Keyed.of_law arr2.law
def kp (p : Int × Int) : Lit := .string (keyBytes [.int .i64 p.1, .int .i64 p.2])
theorem keyOf_kp (p : Int × Int) (wa : (Lit.int .i64 p.1).wf = true) (wb : (Lit.int .i64 p.2).wf = true) : keyOf Tryz.prog 173 (.agg #[.int .i64 p.1, .int .i64 p.2]) = some (kp p) :=
  WideMaps.keyOf_pair arr2 Tryz.underlying3 ⟨Tryz.prog.types.size - 1, by have h : 0 < Tryz.prog.types.size := of_decide_eq_true (by kernel_rfl); omega⟩ wa wb
theorem wf_small {x : Int} (h1 : -1000000 ≤ x) (h2 : x ≤ 1000000) : (Lit.int .i64 x).wf = true := WalkArith.wf_i64 (by omega)
theorem size_pos {D : DataW Unit} {kl : Lit} (h : Maps.has D kl = true) : 0 < Maps.size D := by
  unfold Maps.has at h
  unfold Maps.size
  split at h
  · rename_i es
    cases es with
    | nil => simp at h
    | cons a t => simp
  · cases h
set_option maxRecDepth 100000 in
theorem pair_inv {key : Value} {kl : Lit} (h : keyOf Tryz.prog 173 key = some kl) : ∃ x : Int × Int, key = .agg #[.int .i64 x.1, .int .i64 x.2] := by
  have hcs : Tryz.prog.cellsOf 173 = 2 := by kernel_rfl
  have hci : Tryz.prog.cellsOf 3 = 1 := by kernel_rfl
  obtain ⟨m, hm⟩ : ∃ m, Tryz.prog.types.size = m + 1 := ⟨Tryz.prog.types.size - 1, by have h : 0 < Tryz.prog.types.size := of_decide_eq_true (by kernel_rfl); omega⟩
  unfold keyOf at h
  simp only [Tryz.underlying173] at h
  split at h
  · rename_i hc
    obtain ⟨ls, h1, _⟩ := Option.map_eq_some_iff.1 h
    simp only [Bool.and_eq_true] at hc
    have hf := hc.2
    rw [hm] at h1
    unfold Program.keyLits at h1
    simp only [Tryz.underlying173] at h1
    split at h1
    · rename_i hl
      rw [hcs] at hl
      obtain ⟨c0, c1, e⟩ : ∃ c0 c1, key.cells.toList = [c0, c1] := by
        match hx : key.cells.toList, hl with
        | [c0, c1], _ => exact ⟨c0, c1, rfl⟩
      rw [e, show List.range 2 = [0, 1] from rfl, List.mapM_cons, List.mapM_cons, List.mapM_nil] at h1
      simp only [hci, Option.map_eq_some_iff, bind, Option.bind_eq_some_iff, pure] at h1
      obtain ⟨_, ⟨y0, h2, _, ⟨y1, h3, _⟩, _⟩, _⟩ := h1
      simp only [Nat.zero_mul, List.drop_zero, List.take_succ_cons, List.take_zero, Nat.one_mul, List.drop_succ_cons] at h2 h3
      have key1 : ∀ {c : Value} {y : List Lit}, Tryz.prog.keyLits (m + 1) 3 [c] = some y → ∃ a, c = .int .i64 a := fun {c y} hy => by
        unfold Program.keyLits at hy
        simp only [Tryz.underlying3] at hy
        split at hy <;> simp_all
      obtain ⟨a, rfl⟩ := key1 h2
      obtain ⟨b, rfl⟩ := key1 h3
      unfold Value.formed at hf
      rw [Tryz.underlying173] at hf
      cases key <;> simp at hf
      rename_i cs
      refine ⟨(a, b), ?_⟩
      simp only [Value.cells] at e
      rw [← e]
    · cases h1
  · cases h
/-- The map of pairs: whether there is one. -/
def PrM (w0 w : World) (b n : Nat) (p : Prop) : Prop := ∃ D : DataW Unit, IsMap D ∧ w.ownsMap Tryz.prog 173 (plainElem Tryz.prog 4) b n D ∧ (0 < Maps.size D ↔ p) ∧ Ext w0 w ∧ w0.heap.size ≤ b
section
variable {w0 w w' : World} {b n : Nat} {p : Prop}
theorem PrM.start (he : Ext w0 w) (hb : b = w.heap.size) : PrM w0 (w.alloc (.map #[] 0)) b 0 False := by
  subst hb
  refine ⟨_, isMap_empty, World.ownsMap_made w Tryz.prog _ _, ?_, he.alloc _, he.le⟩
  simp [Maps.size]
theorem PrM.mono (h : PrM w0 w b n p) {m : Nat} (hm : n ≤ m) : PrM w0 w b m p := by
  obtain ⟨D, h1, h2, h3⟩ := h
  exact ⟨D, h1, h2.mono hm, h3⟩
theorem PrM.congr (h : PrM w0 w b n p) {q : Prop} (hpq : p ↔ q) : PrM w0 w b n q := by
  obtain ⟨D, h1, h2, h3, h4⟩ := h
  exact ⟨D, h1, h2, h3.trans hpq, h4⟩
theorem PrM.kept {row : Option Nat} (h : PrM w0 w b n p) (hg : w.grownBy w' row) (hx : Ext w0 w') (hne : some b ≠ row) : PrM w0 w' b n p := by
  obtain ⟨D, h1, h2, h3, h4, h5⟩ := h
  exact ⟨D, h1, h2.kept hg hne, h3, hx, h5⟩
theorem PrM.later (h : PrM w0 w b n p) (he : Ext w w') : PrM w0 w' b n p :=
  h.kept (row := none) ⟨he.os, he.tape, he.output, he.size, fun i hi _ => he.block i hi⟩ (by obtain ⟨_, _, _, _, h4, _⟩ := h; exact h4.trans he) (by simp)
theorem PrM.isMap (h : PrM w0 w b n p) : ∃ es clock, w.heap[b]? = some (.map es clock) := by
  obtain ⟨D, _, ⟨es, clock, hb, _⟩, _⟩ := h
  exact ⟨es, clock, hb⟩
end
/-- An entry that has been made: what is there, and the way back. -/
structure EntryIn (w0 w1 : World) (b base n : Nat) (f : Ce → Int → Prop) (c : Ce) (zs : List Int) (v : Value) (st : Nat) : Prop where
  own : w1.ownsInts base 3 .i64 v zs
  len : zs.length ≤ n
  mem : ∀ x, x ∈ zs ↔ f c x
  ext : Ext w0 w1
  b0 : w0.heap.size ≤ b
  base0 : w0.heap.size ≤ base
  near : nearP c (-5000) 5000
  back : ∃ D : DataW Unit, IsMap D ∧ (∀ c, nearP c (-5000) 5000 → ∀ x, x ∈ itemsD (D.atKey (kc c) .nil) ↔ f c x) ∧ EntryBack w1 Tryz.prog 171 60 base 3 .i64 b n D (kc c) v st
section
variable {w0 w w1 : World} {b base n : Nat} {f : Ce → Int → Prop} {c : Ce} {zs : List Int} {v : Value} {st : Nat}
theorem InM.entry {ops : Array Oper} {rest : List Oper} {o : Oper} {a : Act} {Q : Exit → Act → World → Prop} (hg : o.guard = none) (mo x : Operand) (hop : o.op = Op.mapEntry 171 mo x)
    (hm : a.eval mo = .map (some b)) (h : InM w0 w b base n f) (hn : n < 1000000) (c : Ce) (hc : nearP c (-5000) 5000) (hx : a.eval x = c.val)
    (hK : ∀ (A : Option Addr) (zs : List Int) (cap st : Nat) (w1 : World), w.grownBy w1 (some b) → EntryIn w0 w1 b base n f c zs (.slice A zs.length cap) st → wpList Tryz.prog ops Q rest (a.put o.dst (.tuple #[.slice A zs.length cap, goInt st])) w1) : wpList Tryz.prog ops Q (o :: rest) a w := by
  obtain ⟨D, h1, h2, h3, h4, h5⟩ := h
  obtain ⟨v, zs, st, w1, hrun, hg1, hat, hoi, hzl, hback⟩ := groups_entry h1 cell_law Tryz.underlying171 zero_slice (by unfold maxLen; omega) (keyOf_near hc)
  obtain ⟨A, cap, rfl⟩ : ∃ A cap, v = .slice A zs.length cap := by
    rcases hoi.1.2 with ⟨rfl, h6⟩ | ⟨g, cap, cur, rfl, _⟩
    · exact ⟨none, 0, by rw [h6]⟩
    · exact ⟨_, cap, rfl⟩
  refine wpList_plain hg fun K' hK' => ?_
  unfold Oper.wp
  simp [execOp, hop, hm, hx, hrun, Result.andThen]
  exact hK' _ _ (hK A zs cap st w1 hg1 ⟨hoi, hzl, fun x => by rw [← h2 c hc x, hat, items_row hoi], h3.grown hg1 (fun k hk => by cases hk; exact h4), h4, h5, hc, D, groups_isMap h1, h2, hback⟩)
theorem EntryIn.run (h : EntryIn w0 w1 b base n f c zs v st) {w2 : World} {v' : Value} {i : Int} (hgr : w1.grownBy w2 v.ownBlock) (hwi : (Lit.int .i64 i).wf = true)
    (hown : w2.ownsRow base 3 1 v' (zs.length + 1) (zs.map (Value.int .i64) ++ [.int .i64 i])) (hloc : v'.ownBlock = v.ownBlock ∨ v'.ownBlock = some w1.heap.size) :
    ∃ w3, (Instr.entryStore 171 (.map (some b)) (.int .i64 (st : Int)) v').run Tryz.prog w2 = .ok () w3 ∧ InM w0 w3 b base (n + 1) (fun c' x => f c' x ∨ c' = c ∧ x = i) ∧ w2.grownBy w3 (some b) := by
  obtain ⟨hoi, hzl, hmem, hext, hb0, hbase0, hnear, D, hD, hf, hback⟩ := h
  have hoi' := hoi.appended hown hwi
  obtain ⟨w3, hrun, hgs, hg3⟩ := hback w2 v' (zs ++ [i]) hgr hoi' (by simp; omega) (hloc.imp id fun h => ⟨_, h, Nat.le_refl _⟩)
  refine ⟨w3, hrun, ⟨_, hgs, fun c' hc' y => ?_, (hext.grown hgr (fun k hk => Nat.le_trans hbase0 (hoi.1.lt k hk).1)).grown hg3 (fun k hk => by cases hk; exact hb0), hb0, hbase0⟩, hg3⟩
  by_cases e : c' = c
  · subst e
    rw [atKey_put_same hD (cell_keyed.key (keyOf_near hnear)), items_row hoi']
    simp [hmem]
  · rw [atKey_put_other (fun h => e (kc_inj hc' hnear h)), hf c' hc' y]
    simp [e]
theorem PrM.store {ops : Array Oper} {rest : List Oper} {o : Oper} {a : Act} {Q : Exit → Act → World → Prop} {p : Prop} (hg : o.guard = none) (mo x y : Operand) (hop : o.op = Op.mapUpdate 172 mo x y)
    (hm : a.eval mo = .map (some b)) (h : PrM w0 w b n p) (hn : n ≤ 100000000) (i k : Int) (h1 : -1000 ≤ i ∧ i ≤ 1000) (h2 : -1000 ≤ k ∧ k ≤ 1000) (hx : a.eval x = .agg #[.int .i64 i, .int .i64 k]) (hy : a.eval y = .bool true)
    (hK : ∀ w', PrM w0 w' b (n + 1) True → w.grownBy w' (some b) → wpList Tryz.prog ops Q rest (a.put o.dst undef) w') : wpList Tryz.prog ops Q (o :: rest) a w := by
  obtain ⟨D, g1, g2, _, g4, g5⟩ := h
  have hkey := keyOf_kp (i, k) (wf_small (by omega) (by omega)) (wf_small (by omega) (by omega))
  refine wpList_mapUpdate_own w hg mo x y 172 hop 173 4 Kpair Tryz.underlying172 _ b n D hm g2 (by unfold maxLen; omega) _ _ (kp (i, k)) hx hy hkey _ [] (plainElem_bool Tryz.underlying4 true) fun w' h5 h6 => ?_
  refine hK w' ⟨_, g1.put _ _, h5, ⟨fun _ => trivial, fun _ => size_pos (has_put_same g1 (Kpair.key hkey) _)⟩, g4.grown h6 (fun j hj => by cases hj; exact g5), g5⟩ h6
end
end Go.Proofs.YtebkhdhhajjhfaaGreat.Lt

/- The sort's contract, laid at the sorts of cells and of pairs. -/
namespace Go.Proofs.YtebkhdhhajjhfaaGreat.Lt
open Go.Shelf Go.Proofs
def sortCellsL_ren : Go.Shelf.Ren := ⟨fun | 6 => 104 | 15 => 108 | 14 => 144 | 28 => 155 | 29 => 156 | 20 => 168 | 21 => 169 | 22 => 170 | 23 => 171 | 24 => 172 | 25 => 173 | 26 => 174 | 27 => 175 | 46 => 200 | 47 => 179 | 48 => 180 | 49 => 201 | 50 => 202 | 57 => 210 | n => n, fun | 22 => 79 | 24 => 60 | 25 => 216 | 3 => 3 | 39 => 220 | 0 => 0 | 53 => 268 | 55 => 89 | 4 => 4 | 46 => 262 | 45 => 261 | 50 => 126 | 5 => 5 | 9 => 9 | 66 => 290 | 70 => 294 | 76 => 309 | 77 => 310 | n => n, fun | n => n⟩
theorem sortCellsL : Go.Proofs.SlLaysF0.n6 Tryz.prog sortCellsL_ren := {
  mixed := by kernel_rfl
  f6 := ⟨Tryz.f104.name, by decide, Tryz.func104.trans (congrArg some (by kernel_rfl))⟩
  f14 := ⟨Tryz.f144.name, by decide, Tryz.func144.trans (congrArg some (by kernel_rfl))⟩
  f15 := Tryz.func108.trans (congrArg some (by kernel_rfl))
  f20 := ⟨Tryz.f168.name, by decide, Tryz.func168.trans (congrArg some (by kernel_rfl))⟩
  f21 := ⟨Tryz.f169.name, by decide, Tryz.func169.trans (congrArg some (by kernel_rfl))⟩
  f22 := ⟨Tryz.f170.name, by decide, Tryz.func170.trans (congrArg some (by kernel_rfl))⟩
  f23 := ⟨Tryz.f171.name, by decide, Tryz.func171.trans (congrArg some (by kernel_rfl))⟩
  f24 := ⟨Tryz.f172.name, by decide, Tryz.func172.trans (congrArg some (by kernel_rfl))⟩
  f25 := ⟨Tryz.f173.name, by decide, Tryz.func173.trans (congrArg some (by kernel_rfl))⟩
  f26 := ⟨Tryz.f174.name, by decide, Tryz.func174.trans (congrArg some (by kernel_rfl))⟩
  f27 := ⟨Tryz.f175.name, by decide, Tryz.func175.trans (congrArg some (by kernel_rfl))⟩
  f28 := Tryz.func155.trans (congrArg some (by kernel_rfl))
  f29 := Tryz.func156.trans (congrArg some (by kernel_rfl))
  f46 := ⟨Tryz.f200.name, by decide, Tryz.func200.trans (congrArg some (by kernel_rfl))⟩
  f47 := Tryz.func179.trans (congrArg some (by kernel_rfl))
  f48 := Tryz.func180.trans (congrArg some (by kernel_rfl))
  f49 := ⟨Tryz.f201.name, by decide, Tryz.func201.trans (congrArg some (by kernel_rfl))⟩
  f50 := ⟨Tryz.f202.name, by decide, Tryz.func202.trans (congrArg some (by kernel_rfl))⟩
  f57 := ⟨Tryz.f210.name, by decide, Tryz.func210.trans (congrArg some (by kernel_rfl))⟩
  t0 := Tryz.underlying0
  a0 := Tryz.isAgg0
  z0 := Tryz.sizeOf0
  v0 := Tryz.zeroValue0
  t3 := Tryz.underlying3
  a3 := Tryz.isAgg3
  z3 := Tryz.sizeOf3
  v3 := Tryz.zeroValue3
  t4 := Tryz.underlying4
  a4 := Tryz.isAgg4
  z4 := Tryz.sizeOf4
  v4 := Tryz.zeroValue4
  t5 := Tryz.underlying5
  a5 := Tryz.isAgg5
  z5 := Tryz.sizeOf5
  v5 := Tryz.zeroValue5
  t9 := Tryz.underlying9
  a9 := Tryz.isAgg9
  z9 := Tryz.sizeOf9
  v9 := Tryz.zeroValue9
  t22 := Tryz.underlying79
  a22 := Tryz.isAgg79
  z22 := Tryz.sizeOf79
  v22 := Tryz.zeroValue79
  t25 := Tryz.underlying216
  a25 := Tryz.isAgg216
  z25 := Tryz.sizeOf216
  v25 := Tryz.zeroValue216
  t39 := Tryz.underlying220
  a39 := Tryz.isAgg220
  z39 := Tryz.sizeOf220
  v39 := Tryz.zeroValue220
  t45 := Tryz.underlying261
  a45 := Tryz.isAgg261
  z45 := Tryz.sizeOf261
  v45 := Tryz.zeroValue261
  t46 := Tryz.underlying262
  a46 := Tryz.isAgg262
  z46 := Tryz.sizeOf262
  v46 := Tryz.zeroValue262
  t50 := Tryz.underlying126
  a50 := Tryz.isAgg126
  z50 := Tryz.sizeOf126
  v50 := Tryz.zeroValue126
  t53 := Tryz.underlying268
  a53 := Tryz.isAgg268
  z53 := Tryz.sizeOf268
  v53 := Tryz.zeroValue268
  t55 := Tryz.underlying89
  a55 := Tryz.isAgg89
  z55 := Tryz.sizeOf89
  v55 := Tryz.zeroValue89
  t66 := Tryz.underlying290
  a66 := Tryz.isAgg290
  z66 := Tryz.sizeOf290
  v66 := Tryz.zeroValue290
  t70 := Tryz.underlying294
  a70 := Tryz.isAgg294
  z70 := Tryz.sizeOf294
  v70 := Tryz.zeroValue294
  t76 := Tryz.underlying309
  a76 := Tryz.isAgg309
  z76 := Tryz.sizeOf309
  v76 := Tryz.zeroValue309
  t77 := Tryz.underlying310
  a77 := Tryz.isAgg310
  z77 := Tryz.sizeOf310
  v77 := Tryz.zeroValue310 }
def sortPairsL_ren : Go.Shelf.Ren := ⟨fun | 6 => 74 | 15 => 108 | 14 => 107 | 28 => 155 | 29 => 156 | 20 => 147 | 21 => 148 | 22 => 149 | 23 => 150 | 24 => 151 | 25 => 152 | 26 => 153 | 27 => 154 | 46 => 178 | 47 => 179 | 48 => 180 | 49 => 181 | 50 => 182 | 57 => 203 | n => n, fun | 22 => 106 | 24 => 173 | 25 => 176 | 3 => 3 | 39 => 220 | 0 => 0 | 53 => 268 | 55 => 89 | 4 => 4 | 46 => 262 | 45 => 261 | 50 => 126 | 5 => 5 | 9 => 9 | 66 => 290 | 70 => 294 | 76 => 309 | 77 => 310 | n => n, fun | n => n⟩
theorem sortPairsL : Go.Proofs.SlLaysF0.n6 Tryz.prog sortPairsL_ren := {
  mixed := by kernel_rfl
  f6 := ⟨Tryz.f74.name, by decide, Tryz.func74.trans (congrArg some (by kernel_rfl))⟩
  f14 := ⟨Tryz.f107.name, by decide, Tryz.func107.trans (congrArg some (by kernel_rfl))⟩
  f15 := Tryz.func108.trans (congrArg some (by kernel_rfl))
  f20 := ⟨Tryz.f147.name, by decide, Tryz.func147.trans (congrArg some (by kernel_rfl))⟩
  f21 := ⟨Tryz.f148.name, by decide, Tryz.func148.trans (congrArg some (by kernel_rfl))⟩
  f22 := ⟨Tryz.f149.name, by decide, Tryz.func149.trans (congrArg some (by kernel_rfl))⟩
  f23 := ⟨Tryz.f150.name, by decide, Tryz.func150.trans (congrArg some (by kernel_rfl))⟩
  f24 := ⟨Tryz.f151.name, by decide, Tryz.func151.trans (congrArg some (by kernel_rfl))⟩
  f25 := ⟨Tryz.f152.name, by decide, Tryz.func152.trans (congrArg some (by kernel_rfl))⟩
  f26 := ⟨Tryz.f153.name, by decide, Tryz.func153.trans (congrArg some (by kernel_rfl))⟩
  f27 := ⟨Tryz.f154.name, by decide, Tryz.func154.trans (congrArg some (by kernel_rfl))⟩
  f28 := Tryz.func155.trans (congrArg some (by kernel_rfl))
  f29 := Tryz.func156.trans (congrArg some (by kernel_rfl))
  f46 := ⟨Tryz.f178.name, by decide, Tryz.func178.trans (congrArg some (by kernel_rfl))⟩
  f47 := Tryz.func179.trans (congrArg some (by kernel_rfl))
  f48 := Tryz.func180.trans (congrArg some (by kernel_rfl))
  f49 := ⟨Tryz.f181.name, by decide, Tryz.func181.trans (congrArg some (by kernel_rfl))⟩
  f50 := ⟨Tryz.f182.name, by decide, Tryz.func182.trans (congrArg some (by kernel_rfl))⟩
  f57 := ⟨Tryz.f203.name, by decide, Tryz.func203.trans (congrArg some (by kernel_rfl))⟩
  t0 := Tryz.underlying0
  a0 := Tryz.isAgg0
  z0 := Tryz.sizeOf0
  v0 := Tryz.zeroValue0
  t3 := Tryz.underlying3
  a3 := Tryz.isAgg3
  z3 := Tryz.sizeOf3
  v3 := Tryz.zeroValue3
  t4 := Tryz.underlying4
  a4 := Tryz.isAgg4
  z4 := Tryz.sizeOf4
  v4 := Tryz.zeroValue4
  t5 := Tryz.underlying5
  a5 := Tryz.isAgg5
  z5 := Tryz.sizeOf5
  v5 := Tryz.zeroValue5
  t9 := Tryz.underlying9
  a9 := Tryz.isAgg9
  z9 := Tryz.sizeOf9
  v9 := Tryz.zeroValue9
  t22 := Tryz.underlying106
  a22 := Tryz.isAgg106
  z22 := Tryz.sizeOf106
  v22 := Tryz.zeroValue106
  t25 := Tryz.underlying176
  a25 := Tryz.isAgg176
  z25 := Tryz.sizeOf176
  v25 := Tryz.zeroValue176
  t39 := Tryz.underlying220
  a39 := Tryz.isAgg220
  z39 := Tryz.sizeOf220
  v39 := Tryz.zeroValue220
  t45 := Tryz.underlying261
  a45 := Tryz.isAgg261
  z45 := Tryz.sizeOf261
  v45 := Tryz.zeroValue261
  t46 := Tryz.underlying262
  a46 := Tryz.isAgg262
  z46 := Tryz.sizeOf262
  v46 := Tryz.zeroValue262
  t50 := Tryz.underlying126
  a50 := Tryz.isAgg126
  z50 := Tryz.sizeOf126
  v50 := Tryz.zeroValue126
  t53 := Tryz.underlying268
  a53 := Tryz.isAgg268
  z53 := Tryz.sizeOf268
  v53 := Tryz.zeroValue268
  t55 := Tryz.underlying89
  a55 := Tryz.isAgg89
  z55 := Tryz.sizeOf89
  v55 := Tryz.zeroValue89
  t66 := Tryz.underlying290
  a66 := Tryz.isAgg290
  z66 := Tryz.sizeOf290
  v66 := Tryz.zeroValue290
  t70 := Tryz.underlying294
  a70 := Tryz.isAgg294
  z70 := Tryz.sizeOf294
  v70 := Tryz.zeroValue294
  t76 := Tryz.underlying309
  a76 := Tryz.isAgg309
  z76 := Tryz.sizeOf309
  v76 := Tryz.zeroValue309
  t77 := Tryz.underlying310
  a77 := Tryz.isAgg310
  z77 := Tryz.sizeOf310
  v77 := Tryz.zeroValue310 }
end Go.Proofs.YtebkhdhhajjhfaaGreat.Lt

/- The call's own row, sorted: it holds what the sort leaves. -/
namespace Go.Proofs.YtebkhdhhajjhfaaGreat.Lt
open Go.Shelf Go.RowKit Go.Lib Go.Sort
section
variable {α : Type} [Inhabited α] {enc : α → List Value} {k : Nat}
theorem flat_list (hk : ∀ x, (enc x).length = k) (d : Array α) : (flatK enc k d).toList = (d.toList.map enc).flatten := by
  have hl : (d.toList.map enc).flatten.length = d.size * k := by
    rw [flatten_len k _ (by simp [hk]), List.length_map, Array.length_toList]
  apply List.ext_getElem?
  intro t
  by_cases ht : t < d.size * k
  · have hk0 : 0 < k := Nat.pos_of_ne_zero fun h => by subst h; simp at ht
    have hq : t / k < d.size := (Nat.div_lt_iff_lt_mul hk0).2 ht
    have hr := Nat.mod_lt t hk0
    have e : t / k * k + t % k = t := Nat.div_add_mod' t k
    have h := flatten_get k (d.toList.map enc) (by simp [hk]) (t / k) (t % k) hr (by simpa using hq)
    rw [e] at h
    have hs : t < (flatK enc k d).size := by simpa using ht
    rw [h, Array.getElem?_toList, Array.getElem?_eq_getElem hs, ← getElem!_pos (flatK enc k d) t hs, get_flatK enc k d t ht, getElem!_pos d (t / k) hq, List.getElem_map, Array.getElem_toList]
    have hlen : t % k < (enc d[t / k]).length := by rw [hk]; exact hr
    rw [List.getElem?_eq_getElem hlen, getElem!_pos (enc d[t / k]) (t % k) hlen]
  · rw [List.getElem?_eq_none (by simpa using ht), List.getElem?_eq_none (by rw [hl]; omega)]
theorem own_holds {w0 w : World} {e g n cap : Nat} {d : Array α} (hk : ∀ x, (enc x).length = k) (h : Own w0 w e k (.slice (some ⟨g, 0, none⟩) n cap) n (d.toList.map enc).flatten) : HoldsK enc k w g 0 d := fun j hj => by
  have hl : j < ((d.toList.map enc).flatten).length := by rw [← flat_list hk]; simpa using hj
  rw [Nat.zero_add]
  refine ⟨(h.cell hl).trans ?_, h.free j⟩
  rw [List.getElem?_eq_getElem hl]
  congr 1
  have : (flatK enc k d)[j]! = (flatK enc k d).toList[j]'(by simpa using hj) := by rw [getElem!_pos _ j hj, Array.getElem_toList]
  rw [id, this]
  simp only [flat_list hk]
theorem own_sorted {w0 w : World} {e g n cap m : Nat} {xs : List Value} {d : Array α} {os : Array Obj} (hk : ∀ x, (enc x).length = k) (h : Own w0 w e k (.slice (some ⟨g, 0, none⟩) n cap) n xs) (hd : d.size = n) : Own w0 (sortWorldK enc k w g 0 m d os) e k (.slice (some ⟨g, 0, none⟩) n cap) n (d.toList.map enc).flatten := by
  have hge : w0.heap.size ≤ g := h.ge
  rcases h.2.2 with ⟨h1, _⟩ | ⟨g', cap', cur, e1, hb, hh, hn, hm, hs, _⟩
  · cases h1
  cases e1
  have hlt : g < w.heap.size := (Array.getElem?_eq_some_iff.1 hh).1
  have hP : (putRowK enc k (Sort.ahead w m) g 0 d).heap[g]? = some (.cells (putCells id 0 (flatK enc k d) cur) e (0, 0)) := by
    unfold putRowK putRow mapBlock
    show (w.heap.modify g _)[g]? = _
    rw [Array.getElem?_modify, if_pos rfl, hh]
    rfl
  have hg : w.grownBy (putRowK enc k (Sort.ahead w m) g 0 d) (some g) := by
    refine ⟨rfl, rfl, rfl, ?_, fun i hi hne => ?_⟩
    · show w.heap.size ≤ (w.heap.modify g _).size
      simp
    · show (w.heap.modify g _)[i]? = _
      rw [Array.getElem?_modify, if_neg (fun h => hne (by rw [h]))]
  have hx : Ext w0 (putRowK enc k (Sort.ahead w m) g 0 d) := h.1.grown hg (fun j hj => by cases hj; exact hge)
  have hsz : (flatK enc k d).size = n * k := by rw [size_flatK, hd]
  refine Own.later (w := putRowK enc k (Sort.ahead w m) g 0 d) ⟨hx, ?_, .inr ⟨g, cap, _, rfl, hb, hP, hn, hm, ?_, ?_⟩⟩ (Grown.ext ⟨0, os, rfl⟩)
  · rw [← flat_list hk, Array.length_toList, hsz]
  · simp [putCells, hs]
  · rw [← flat_list hk]
    apply List.ext_getElem?
    intro t
    by_cases ht : t < n * k
    · have hc : t < cur.size := by rw [hs]; exact Nat.lt_of_lt_of_le ht (Nat.mul_le_mul_right _ hn)
      have hF : t < (flatK enc k d).size := by rw [hsz]; exact ht
      have e2 : (putCells id 0 (flatK enc k d) cur)[t]? = some (flatK enc k d)[t]! := by
        unfold putCells
        rw [Array.getElem?_mapIdx, Array.getElem?_eq_getElem hc, Option.map_some, if_pos ⟨Nat.zero_le _, by rw [Nat.zero_add]; exact hF⟩, Nat.sub_zero]
        rfl
      rw [List.getElem?_take_of_lt ht, Array.getElem?_toList, Array.getElem?_toList, e2, Array.getElem?_eq_getElem hF, getElem!_pos (flatK enc k d) t hF]
    · rw [List.getElem?_eq_none (by rw [List.length_take]; omega), List.getElem?_eq_none (by rw [Array.length_toList, hsz]; omega)]
end
theorem swo_ord : SWO (ltOf ordC) where
  irrefl x := by
    unfold ltOf
    exact decide_eq_false fun h => befC_irrefl x (ordC_neg.1 h)
  trans x y z h1 h2 := by
    unfold ltOf at *
    exact decide_eq_true (ordC_neg.2 (befC_trans (ordC_neg.1 (of_decide_eq_true h1)) (ordC_neg.1 (of_decide_eq_true h2))))
  ntrans x y z h1 h2 := by
    unfold ltOf at *
    have h1 : ¬ befC x y := fun h => of_decide_eq_false h1 (ordC_neg.2 h)
    have h2 : ¬ befC y z := fun h => of_decide_eq_false h2 (ordC_neg.2 h)
    refine decide_eq_false fun h => ?_
    have h := ordC_neg.1 h
    unfold befC at *
    omega
end Go.Proofs.YtebkhdhhajjhfaaGreat.Lt

/- The cells of a brick, sorted: some order of those that are placed. -/
namespace Go.Proofs.YtebkhdhhajjhfaaGreat.Lt
open Go.RowKit
theorem cell_elem : ElemInfo 60 (.agg #[.int .i64 0, .int .i64 0, .int .i64 0]) 3 24 := ⟨info_parts (by kernel_rfl), rfl, by decide⟩
abbrev OwnE (w1 w : World) (v : Value) (xs : List Ce) : Prop := Own w1 w 60 3 v xs.length (xs.map Ce.cells).flatten
/-- Sorting cells: some order of them. -/
theorem sort_cells (g cap : Nat) (ps : List Ce) (w0 w : World) (h : OwnE w0 w (.slice (some ⟨g, 0, none⟩) ps.length cap) ps) (hl : ps.length ≤ 1000000) : Calls Tryz.prog 104 #[.slice (some ⟨g, 0, none⟩) ps.length cap, .func (.func 105) #[] #[]] w fun e w' => e = .returned (.tuple #[]) ∧ ∃ qs : List Ce, qs.Perm ps ∧ Own w0 w' 60 3 (.slice (some ⟨g, 0, none⟩) ps.length cap) ps.length (qs.map Ce.cells).flatten := by
  have hk : ∀ x : Ce, x.cells.length = 3 := fun _ => rfl
  have h : Own w0 w 60 3 (.slice (some ⟨g, 0, none⟩) ps.toArray.size cap) ps.toArray.size (ps.toArray.toList.map Ce.cells).flatten := h
  have eg : ∀ args w, (callFunc 105 args).run Tryz.prog w = .ok (.enter 105 args) w := Go.Proofs.enters_of Tryz.func105 (by kernel_rfl) rfl
  have hcon := AnyQ.slices_SortFunc sortCellsL 3 Tryz.isAgg60 Tryz.sizeOf60 Ce.cells hk (fun x v hv => by simp [Ce.cells] at hv; rcases hv with rfl | rfl | rfl <;> rfl) ordC swo_ord 105 #[] g 0 cap ps.toArray w eg (fun _ _ _ _ x y => order_any x y _) (own_holds hk h) (World.ownsRow.lt h.2 g rfl).2 (by simp; omega)
  refine Calls.mono hcon ?_
  rintro e w' ⟨rfl, d', m, os, hp, _, rfl⟩
  have hs : d'.size = ps.toArray.size := hp.1
  refine ⟨rfl, d'.toList, ?_, own_sorted hk h hs⟩
  have := hp.2.2
  rw [← hs, Array.extract_size] at this
  rw [hs, Array.extract_size] at this
  exact this
theorem set_three (pre post : List Value) (m : Nat) (h : pre.length = m) (x y z a b c : Value) : (((pre ++ x :: y :: z :: post).set m a).set (m + 1) b).set (m + 2) c = pre ++ a :: b :: c :: post := by
  subst h
  rw [List.set_append_right _ _ (Nat.le_refl _), List.set_append_right _ _ (by omega), List.set_append_right _ _ (by omega)]
  simp
/-- The first k cells, and then zeros. -/
def fillE (l : List Ce) (k : Nat) : List Value := ((l.take k).map Ce.cells).flatten ++ List.replicate ((l.length - k) * 3) (vint 0)
theorem fillE_len (l : List Ce) {k : Nat} (hk : k ≤ l.length) : (fillE l k).length = l.length * 3 := by
  unfold fillE
  rw [List.length_append, Ce.cells_len, List.length_take, List.length_replicate, ← Nat.add_mul]
  congr 1
  omega
theorem fillE_set (l : List Ce) {k : Nat} (hk : k < l.length) {c : Ce} (hc : ceA l k = c) : (((fillE l k).set (k * 3) (vint c.x)).set (k * 3 + 1) (vint c.y)).set (k * 3 + 2) (vint c.z) = fillE l (k + 1) := by
  have e : (l.length - k) * 3 = (l.length - (k + 1)) * 3 + 1 + 1 + 1 := by omega
  have hp : ((l.take k).map Ce.cells).flatten.length = k * 3 := by rw [Ce.cells_len, List.length_take]; congr 1; omega
  unfold fillE
  rw [e, List.replicate_succ, List.replicate_succ, List.replicate_succ, set_three _ _ _ hp, List.take_succ_eq_append_getElem hk]
  rw [ceA_at hk] at hc
  rw [hc]
  simp [Ce.cells]
theorem fillE_zero (l : List Ce) : (madeCells (Value.cells (.agg #[.int .i64 0, .int .i64 0, .int .i64 0])) (l.length * 3)).toList = fillE l 0 := by
  apply List.ext_getElem
  · simp [fillE, madeCells]
  · intro i h1 h2
    have h3 : i % 3 < 3 := Nat.mod_lt _ (by omega)
    rcases (by omega : i % 3 = 0 ∨ i % 3 = 1 ∨ i % 3 = 2) with h | h | h <;> simp [fillE, madeCells, Value.cells, h]
theorem fillE_all (l : List Ce) : fillE l l.length = (l.map Ce.cells).flatten := by simp [fillE]
theorem fillE_get (l : List Ce) {k j : Nat} (hk : k < l.length) (hj : j < 3) : ∃ v, (fillE l k)[k * 3 + j]? = some v := by
  have := fillE_len l (Nat.le_of_lt hk)
  exact ⟨_, List.getElem?_eq_getElem (by rw [this]; have : (k + 1) * 3 ≤ l.length * 3 := Nat.mul_le_mul_right _ hk; omega)⟩

set_option maxRecDepth 100000 in
set_option maxHeartbeats 4000000 in
theorem cells_any (l : List Ce) (B : Option Addr) (b : Nat) (D : Option Addr) (m d : Nat) (wt : Int) (t : Nat) (o : Ce) (w : World) (hB : CeRow w B l) (hl : l.length ≤ 1000) (hn : ∀ c ∈ l, nearP c (-1000) 1000) (ht : t < 24) (ho : nearP o (-1000) 1000) :
    Calls Tryz.prog 72 #[.agg #[.slice B l.length b, .slice D m d, .int .i64 wt], .int .i64 t, o.val] w fun e w' => ∃ g cap qs, e = .returned (.slice (some ⟨g, 0, none⟩) l.length cap) ∧ List.Perm qs (placed l t o) ∧ Own w w' 60 3 (.slice (some ⟨g, 0, none⟩) l.length cap) l.length (qs.map Ce.cells).flatten := by
  have ha := fun k (hk : k < l.length) => hB.at_ hk
  have hct := fun k (hk : k < l.length) (w' : World) => turn_any (ceA l k) t ht w' (by have := hn _ (List.getElem_mem hk); rw [← ceA_at hk] at this; unfold nearP at *; omega)
  have hcp := fun k (hk : k < l.length) (w' : World) => plus_any (turnC (ceA l k) t) o w' (by have := turnC_near (hn _ (List.getElem_mem hk)) t; rw [← ceA_at hk] at this; unfold nearP at *; omega) (by unfold nearP at *; omega)
  have hlen : (placed l t o).length = l.length := by simp [placed]
  have hset := fun k (hk : k < l.length) => fillE_set (placed l t o) (k := k) (c := plusC (turnC (ceA l k) t) o) (by rw [hlen]; exact hk) (by rw [ceA_at (by rw [hlen]; exact hk), ceA_at hk]; simp [placed])
  have hget := fun k (hk : k < l.length) j (hj : j < 3) => fillE_get (placed l t o) (k := k) (j := j) (by rw [hlen]; exact hk) hj
  have hfl := fun k (hk : k ≤ l.length) => fillE_len (placed l t o) (k := k) (by rw [hlen]; exact hk)
  have hz := fillE_zero (placed l t o)
  have hall := fillE_all (placed l t o)
  rw [hlen] at hz hall
  simp only [hlen] at hfl
  have hso := fun (g : Nat) (w0 w' : World) (h : Own w0 w' 60 3 (.slice (some ⟨g, 0, none⟩) l.length l.length) l.length ((placed l t o).map Ce.cells).flatten) => (show Calls Tryz.prog 104 #[.slice (some ⟨g, 0, none⟩) l.length l.length, .func (.func 105) #[] #[]] w' fun e w'' => e = .returned (.tuple #[]) ∧ ∃ qs : List Ce, qs.Perm (placed l t o) ∧ Own w0 w'' 60 3 (.slice (some ⟨g, 0, none⟩) l.length l.length) l.length (qs.map Ce.cells).flatten from by
    have h1 := sort_cells g l.length (placed l t o) w0 w' (by show Own w0 w' _ 3 _ (placed l t o).length _; rw [hlen]; exact h) (by rw [hlen]; omega)
    rw [hlen] at h1
    exact h1)
  have Ha := Lib.hid ha
  have Hct := Lib.hid hct
  have Hcp := Lib.hid hcp
  have Hset := Lib.hid hset
  have Hget := Lib.hid hget
  have Hfl := Lib.hid hfl
  have Hz := Lib.hid hz
  have Hall := Lib.hid hall
  have Hso := Lib.hid hso
  clear ha hct hcp hset hget hfl hz hall hlen hB hn ho hso ht
  generalize placed l t o = C at *
  generalize l.length = n at *
  obtain ⟨ox, oy, oz⟩ := o
  have k2 : Blk ((w.alloc (.cells #[.slice B n b, .slice D m d, .int .i64 wt] 82)).alloc (.cells #[.int .i64 ox, .int .i64 oy, .int .i64 oz] 60)) w.heap.size [.slice B n b, .slice D m d, .int .i64 wt] := (Blk.new _ _).ext ((Ext.refl _).alloc _)
  have k3 : Blk ((w.alloc (.cells #[.slice B n b, .slice D m d, .int .i64 wt] 82)).alloc (.cells #[.int .i64 ox, .int .i64 oy, .int .i64 oz] 60)) (w.heap.size + 1) [.int .i64 ox, .int .i64 oy, .int .i64 oz] := Blk.new' (by simp)
  have hx0 : Ext w ((w.alloc (.cells #[.slice B n b, .slice D m d, .int .i64 wt] 82)).alloc (.cells #[.int .i64 ox, .int .i64 oy, .int .i64 oz] 60)) := ((Ext.refl _).alloc _).alloc _
  have b0 := k2.at_ 0 rfl
  go_enter Tryz.func72, Tryz.ntmps72
  go_wp2_with (refine own_make (w1 := w) cell_elem rfl _ _ rfl Tryz.underlying79 _ n rfl rfl (by omega) (by unfold maxLen; omega) hx0 ?_; intro w2 hown hx2; have b0' := fun w' he => b0 w' (hx2.trans he); clear b0)
  have k22 := k2.ext hx2
  have k32 := k3.ext hx2
  rw [Hz.out] at hown
  have hs1 : ((w.alloc (.cells #[.slice B n b, .slice D m d, .int .i64 wt] 82)).alloc (.cells #[.int .i64 ox, .int .i64 oy, .int .i64 oz] 60)).heap.size = w.heap.size + 1 + 1 := by simp
  rw [hs1] at hown
  clear hs1 k2 k3 hx0 hx2 b0'
  obtain ⟨g, hg⟩ : ∃ g, g = w.heap.size + 1 + 1 := ⟨_, rfl⟩
  rw [← hg] at hown ⊢
  have Hg := Lib.hid hg
  clear hg
  go_loopw [17] (fun i wr => ∃ k : Nat, k ≤ n ∧ i = .int .i64 k ∧ Own w wr 60 3 (.slice (some ⟨g, 0, none⟩) n n) n (fillE C k) ∧ Blk wr (w.heap.size + 1) [.int .i64 ox, .int .i64 oy, .int .i64 oz]) (fun i _ => n - (intOf i).toNat)
  case atStart => exact ⟨0, by omega, rfl, hown, k32⟩
  case round =>
    clear hown k22 k32
    obtain ⟨k, hk, rfl, hown, k22⟩ := hrel
    by_cases hlt : k < n
    · obtain ⟨ad, rfl, r0, r1, r2⟩ := Ha.out k hlt
      have hex := hown.ext
      have c0 : ∀ w', Ext wr w' → _ := fun w' he => r0 w' (hex.trans he)
      have c1 : ∀ w', Ext wr w' → _ := fun w' he => r1 w' (hex.trans he)
      have c2 : ∀ w', Ext wr w' → _ := fun w' he => r2 w' (hex.trans he)
      have hset := Hset.out k hlt
      have hpl := Hcp.out k hlt
      have htn := Hct.out k hlt
      have Hset' := Lib.hid hset
      have Hpl := Lib.hid hpl
      have Htn := Lib.hid htn
      have hki : (k : Int) < (n : Int) := by omega
      clear r0 r1 r2 hset hpl htn Ha Hset Hcp Hct Hz
      generalize plusC (turnC (ceA l k) t) ⟨ox, oy, oz⟩ = z at Hset' Hpl
      generalize turnC (ceA l k) t = y at Hpl Htn
      generalize ceA l k = s at c0 c1 c2 Htn
      obtain ⟨sx, sy, sz⟩ := s
      obtain ⟨yx, yy, yz⟩ := y
      obtain ⟨zx, zy, zz⟩ := z
      simp only at c0 c1 c2 Hset'
      have HW := Lib.hid (And.intro hown k22)
      clear hown k22
      go_wp2
      have hx7 : Ext wr (wr.alloc (.cells #[.int .i64 sx, .int .i64 sy, .int .i64 sz] 60)) := (Ext.refl _).alloc _
      have k7 : Blk (wr.alloc (.cells #[.int .i64 sx, .int .i64 sy, .int .i64 sz] 60)) wr.heap.size [.int .i64 sx, .int .i64 sy, .int .i64 sz] := Blk.new _ _
      generalize (wr.alloc (.cells #[.int .i64 sx, .int .i64 sy, .int .i64 sz] 60)) = w7 at hx7 k7 ⊢
      have hown7 := HW.out.1.later hx7
      have k27 := HW.out.2.ext hx7
      have s0 := k7.at_ 0 rfl
      have s1 := k7.at_ 1 rfl
      have s2 := k7.at_ 2 rfl
      have q0 := k27.at_ 0 rfl
      have q1 := k27.at_ 1 rfl
      have q2 := k27.at_ 2 rfl
      have Hown7 := Lib.hid hown7
      clear hown7 c0 c1 c2
      refine Cg.wp_region_calm (p := Cg.extPre) (fr := (fun _ => false)) 8 (fun j _ v _ => (j = 4 → v = .agg #[.int .i64 yx, .int .i64 yy, .int .i64 yz]) ∧ (j = 6 → v = .agg #[.int .i64 zx, .int .i64 zy, .int .i64 zz])) (fun _ _ _ _ _ _ h => h) (by kernel_rfl) (by kernel_rfl) ?_
      simp only [List.take_succ_cons, List.take_zero, List.drop_succ_cons, List.drop_zero]
      refine Cg.calm_quiet Cg.calm_mono_final w7 (fun _ h => h) 4 (by kernel_rfl) ?_
      simp only [List.take_succ_cons, List.take_zero, List.drop_succ_cons, List.drop_zero]
      repeat (go_big_quiet_step (fail))
      refine wpQuiet_nil ?_
      refine Cg.calm_call Cg.calm_mono_final 59 #[.agg #[.int .i64 sx, .int .i64 sy, .int .i64 sz], .int .i64 t] rfl (fun w => ?_) (fun w he hF => ?_) ?_
      · go_simp
      · exact (Htn.out w).mono fun e w'' ⟨he', hx⟩ => ⟨_, he', hx, ⟨fun _ => rfl, fun h => (by cases h)⟩, fun h => by cases h⟩
      rintro _ _ _ h _
      cases h.1 rfl
      simp only [Act.put, List.setIfInBounds_toArray, List.set_cons_succ, List.set_cons_zero]
      refine Cg.calm_quiet Cg.calm_mono_final w7 (fun _ h => h) 1 (by kernel_rfl) ?_
      simp only [List.take_succ_cons, List.take_zero, List.drop_succ_cons, List.drop_zero]
      repeat (go_big_quiet_step (fail))
      refine wpQuiet_nil ?_
      refine Cg.calm_call Cg.calm_mono_final 103 #[.agg #[.int .i64 yx, .int .i64 yy, .int .i64 yz], .agg #[.int .i64 ox, .int .i64 oy, .int .i64 oz]] rfl (fun w => ?_) (fun w he hF => ?_) ?_
      · go_simp
      · exact (Hpl.out w).mono fun e w'' ⟨he', hx⟩ => ⟨_, he', hx, ⟨fun h => (by cases h), fun _ => rfl⟩, fun h => by cases h⟩
      rintro _ _ _ h _
      cases h.2 rfl
      simp only [Act.put, List.setIfInBounds_toArray, List.set_cons_succ, List.set_cons_zero]
      refine Cg.calm_quiet Cg.calm_mono_final w7 (fun _ h => h) 1 (by kernel_rfl) ?_
      simp only [List.take_succ_cons, List.take_zero, List.drop_succ_cons, List.drop_zero]
      repeat (go_big_quiet_step (fail))
      refine wpQuiet_nil ?_
      refine Cg.calm_nil fun w3 he3 _ => ?_
      have he3 : Ext w7 w3 := he3
      have hown3 := Hown7.out.later he3
      have k23 := k27.ext he3
      obtain ⟨v0, g0⟩ := Hget.out k hlt 0 (by omega)
      obtain ⟨v1, g1⟩ := Hget.out k hlt 1 (by omega)
      obtain ⟨v2, g2⟩ := Hget.out k hlt 2 (by omega)
      have hfl := Hfl.out k (by omega)
      have e0 : w3.cell? ⟨g, k * 3, none⟩ = some v0 := (hown3.cell (j := k * 3) (by omega)).trans g0
      have e1 : w3.cell? ⟨g, k * 3 + 1, none⟩ = some v1 := (hown3.cell (j := k * 3 + 1) (by omega)).trans g1
      have e2 : w3.cell? ⟨g, k * 3 + 2, none⟩ = some v2 := (hown3.cell (j := k * 3 + 2) (by omega)).trans g2
      have hf := hown3.free
      have hown4 := ((hown3.store (k * 3) (.int .i64 zx)).store (k * 3 + 1) (.int .i64 zy)).store (k * 3 + 2) (.int .i64 zz)
      rw [Hset'.out] at hown4
      have hgne : g ≠ w.heap.size + 1 := by have := Hg.out; omega
      have k24 := ((k23.other (b := g) (k := k * 3) hgne (.int .i64 zx)).other (b := g) (k := k * 3 + 1) hgne (.int .i64 zy)).other (b := g) (k := k * 3 + 2) hgne (.int .i64 zz)
      have H4 := Lib.hid (And.intro hown4 k24)
      clear hown4 k24 hown3 k23 g0 g1 g2 hfl s0 s1 s2 q0 q1 q2 k27 k7
      go_wp2
      go_roundw
      case rel => exact ⟨k + 1, by omega, by go_num, H4.out.1, H4.out.2⟩
      case measure => simp [intOf]; omega
    · obtain rfl : n = k := by omega
      have hall := Hall.out
      rw [hall] at hown
      have hs := Hso.out g w wr hown
      have Hs := Lib.hid hs
      clear hall hown hs k22
      go_wp2_with (go_at_call 104; refine (Hs.out).mono ?_; rintro e w9 ⟨rfl, qs, hq, ho⟩)
      go_ret
      exact ⟨g, n, qs, rfl, hq, ho⟩
end Go.Proofs.YtebkhdhhajjhfaaGreat.Lt

/- For the walk through Overlaps: the call's own rows beside maps; which cells bricks have. -/
namespace Go.Proofs.YtebkhdhhajjhfaaGreat.Lt
open Go Go.RowKit Go.Maps Go.ChangeShapes
theorem pair_elem : ElemInfo 173 (.agg #[.int .i64 0, .int .i64 0]) 2 16 := ⟨info_parts (by kernel_rfl), rfl, by decide⟩
section
variable {w0 w w' : World} {e : TypeId} {size n : Nat} {v : Value} {xs : List Value}
theorem own_grown (h : Own w0 w e size v n xs) {row : Option Nat} (hg : w.grownBy w' row) (hr : ∀ k, row = some k → w0.heap.size ≤ k) (hne : v.ownBlock = none ∨ v.ownBlock ≠ row) : Own w0 w' e size v n xs := by
  refine ⟨h.1.grown hg hr, h.2.1, ?_⟩
  rcases h.2.2 with h1 | ⟨g, cap, cur, rfl, hb, hh, r⟩
  · exact .inl h1
  · refine .inr ⟨g, cap, cur, rfl, hb, ?_, r⟩
    have hlt : g < w.heap.size := (Array.getElem?_eq_some_iff.1 hh).1
    rw [hg.block g hlt (hne.elim (fun h1 => by cases h1) id)]
    exact hh
theorem own_ne_map (h : Own w0 w e size v n xs) {r : Nat} {es : Array MapEntry} {clock : Nat} (hr : w.heap[r]? = some (.map es clock)) : v.ownBlock = none ∨ v.ownBlock ≠ some r := by
  rcases h.2.2 with ⟨rfl, _⟩ | ⟨g, cap, cur, rfl, _, hh, _⟩
  · exact .inl rfl
  · refine .inr fun e1 => ?_
    have : g = r := by simpa [Value.ownBlock] using e1
    subst this
    rw [hr] at hh
    cases hh
/-- Rows of other types lie elsewhere. -/
theorem own_ne_row (h : Own w0 w e size v n xs) {base e2 size2 n2 : Nat} {v2 : Value} {ys : List Value} (h2 : w.ownsRow base e2 size2 v2 n2 ys) (hne : e ≠ e2) : v.ownBlock = none ∨ v.ownBlock ≠ v2.ownBlock := by
  rcases h.2.2 with ⟨rfl, _⟩ | ⟨g, cap, cur, rfl, _, hh, _⟩
  · exact .inl rfl
  · refine .inr fun e1 => ?_
    rcases h2.2 with ⟨rfl, _⟩ | ⟨g2, cap2, cur2, rfl, _, hh2, _⟩
    · cases e1
    · have : g = g2 := by simpa [Value.ownBlock] using e1
      subst this
      rw [hh] at hh2
      simp only [Option.some.injEq, Obj.cells.injEq] at hh2
      exact hne hh2.2.1
end
theorem own_ne_ranges {P : Program} {w0 w : World} {e : TypeId} {size n : Nat} {v : Value} {xs : List Value} (h : Own w0 w e size v n xs) {k : TypeId} {R : Value → Option (DataW Unit × List MemPlace)} {b r m : Nat} {D : DataW Unit} {left : Lit → Bool} {cnt : Nat} (hr : w.ranges P k R b r m D left cnt) : some b ≠ v.ownBlock ∧ some r ≠ v.ownBlock := by
  obtain ⟨es, clock, since, seen, c0, hb, _, _, _, hr, _⟩ := hr
  rcases h.2.2 with ⟨rfl, _⟩ | ⟨g, cap, cur, rfl, _, hh, _⟩
  · exact ⟨by simp [Value.ownBlock], by simp [Value.ownBlock]⟩
  · refine ⟨fun e1 => ?_, fun e1 => ?_⟩
    · cases e1
      rw [hb] at hh
      cases hh
    · cases e1
      rw [hr] at hh
      cases hh
theorem InM.isMap {w0 w : World} {b base n : Nat} {f : Ce → Int → Prop} (h : InM w0 w b base n f) : ∃ es clock, w.heap[b]? = some (.map es clock) := by
  obtain ⟨D, ⟨es, clock, hb, _⟩, _⟩ := h
  exact ⟨es, clock, hb⟩
/-! ### Which cells -/
/-- The cells of brick i. -/
def plB (l : List Ki) (ms : List Br) (i : Nat) : List Ce := placed (kiA l (brA ms i).kind.toNat).cs (brA ms i).trn.toNat (brA ms i).at_
/-- Two bricks share a cell. -/
def ovlP (l : List Ki) (ms : List Br) (m : Nat) : Prop := ∃ i j : Nat, i < j ∧ j < m ∧ ∃ c, c ∈ plB l ms i ∧ c ∈ plB l ms j
/-- Which of the first bricks have a cell. -/
def fB (l : List Ki) (ms : List Br) (k : Nat) (c : Ce) (x : Int) : Prop := ∃ i : Nat, i < k ∧ x = (i : Int) ∧ c ∈ plB l ms i
theorem bare_nodup {k : Ki} (h : BareOk k) : k.cs.Nodup := asc_nodup h.asc
theorem bare_near {k : Ki} (h : BareOk k) : ∀ c ∈ k.cs, nearP c (-1000) 1000 := by
  intro c hc
  obtain ⟨i, hi, rfl⟩ := List.getElem_of_mem hc
  have := h.near i hi
  rw [ceA_at hi] at this
  unfold nearP at *
  omega
theorem ovl_step (l : List Ki) (ms : List Br) (k : Nat) : ovlP l ms (k + 1) ↔ ovlP l ms k ∨ ∃ c ∈ plB l ms k, ∃ x, fB l ms k c x := by
  constructor
  · rintro ⟨i, j, hij, hj, c, h1, h2⟩
    rcases Nat.lt_succ_iff_lt_or_eq.1 hj with h | rfl
    · exact .inl ⟨i, j, hij, h, c, h1, h2⟩
    · exact .inr ⟨c, h2, _, i, hij, rfl, h1⟩
  · rintro (⟨i, j, hij, hj, c, h1, h2⟩ | ⟨c, h2, x, i, hi, _, h1⟩)
    · exact ⟨i, j, hij, by omega, c, h1, h2⟩
    · exact ⟨i, k, hi, by omega, c, h1, h2⟩
theorem fB_step (l : List Ki) (ms : List Br) (k : Nat) (c : Ce) (x : Int) : fB l ms (k + 1) c x ↔ fB l ms k c x ∨ x = (k : Int) ∧ c ∈ plB l ms k := by
  constructor
  · rintro ⟨i, hi, rfl, h⟩
    rcases Nat.lt_succ_iff_lt_or_eq.1 hi with h1 | rfl
    · exact .inl ⟨i, h1, rfl, h⟩
    · exact .inr ⟨rfl, h⟩
  · rintro (⟨i, hi, rfl, h⟩ | ⟨rfl, h⟩)
    · exact ⟨i, by omega, rfl, h⟩
    · exact ⟨k, by omega, rfl, h⟩
theorem fB_zero (l : List Ki) (ms : List Br) (c : Ce) (x : Int) : ¬ fB l ms 0 c x := by
  rintro ⟨i, hi, _⟩
  omega
theorem ovl_zero (l : List Ki) (ms : List Br) : ¬ ovlP l ms 0 := by
  rintro ⟨i, j, _, hj, _⟩
  omega
theorem fB_small {l : List Ki} {ms : List Br} {k : Nat} {c : Ce} {x : Int} (h : fB l ms k c x) : 0 ≤ x ∧ x < k := by
  obtain ⟨i, hi, rfl, _⟩ := h
  omega
theorem mem_take_succ {α : Type} {l : List α} {j : Nat} (h : j < l.length) (c : α) : c ∈ l.take (j + 1) ↔ c ∈ l.take j ∨ c = l[j] := by
  have e := List.take_succ_eq_append_getElem h
  rw [e, List.mem_append, List.mem_singleton]
theorem nodup_take {α : Type} {l : List α} (hn : l.Nodup) {j : Nat} (h : j < l.length) : l[j] ∉ l.take j := by
  intro hm
  obtain ⟨i, hi, e⟩ := List.getElem_of_mem hm
  rw [List.length_take] at hi
  rw [List.getElem_take] at e
  have := (List.getElem_inj hn).1 e
  omega
theorem cells_at (qs : List Ce) {j : Nat} (h : j < qs.length) : (qs.map Ce.cells).flatten[j * 3]? = some (.int .i64 qs[j].x) ∧ (qs.map Ce.cells).flatten[j * 3 + 1]? = some (.int .i64 qs[j].y) ∧ (qs.map Ce.cells).flatten[j * 3 + 2]? = some (.int .i64 qs[j].z) := by
  have e : ∀ i, i < 3 → (qs.map Ce.cells).flatten[j * 3 + i]? = qs[j].cells[i]? := fun i hi => by
    induction qs generalizing j with
    | nil => simp at h
    | cons q t ih =>
      cases j with
      | zero => simp only [List.map_cons, List.flatten_cons, Nat.zero_mul, Nat.zero_add, List.getElem_cons_zero]; rw [List.getElem?_append_left (by simp [Ce.cells]; omega)]
      | succ j =>
        simp only [List.map_cons, List.flatten_cons, List.getElem_cons_succ]
        rw [List.getElem?_append_right (by simp [Ce.cells]; omega)]
        have := ih (j := j) (by simpa using h)
        rw [← this]
        congr 1
        simp [Ce.cells]
        omega
  exact ⟨by simpa [Ce.cells] using e 0 (by omega), by simpa [Ce.cells] using e 1 (by omega), by simpa [Ce.cells] using e 2 (by omega)⟩
end Go.Proofs.YtebkhdhhajjhfaaGreat.Lt

/- Boards on the lattice and in the plane: they share a cell exactly if their rectangles clash. Plain Lean. -/
namespace Go.Proofs.YtebkhdhhajjhfaaGreat.Lt
def rect (w h : Int) : List Sp := [⟨-1, -1⟩, ⟨2 * w - 1, -1⟩, ⟨2 * w - 1, 2 * h - 1⟩, ⟨-1, 2 * h - 1⟩]
def plainS (t : Nat) : Nat := [3, 2, 0, 1].getD t 0
def flatPs (w h p q : Int) : List (List Sp) := [rect w h, rect p q]
def flatHs (x y : Int) (t : Nat) : List Hg := [⟨⟨2 * x, 2 * y⟩, ⟨0, 0⟩, (plainS t : Nat)⟩]
theorem low_one {p : Ps} (h : p.d = 1) : low p = p := by
  have hg : g5 p = 1 := by
    unfold g5
    rw [h]
    simp
  obtain ⟨a, b, c, d, e⟩ := p
  unfold low
  rw [hg]
  simp
def posT (t : Nat) (x y : Int) : Ps := match t with
  | 0 => ⟨1, 0, 2 * x, 2 * y, 1⟩
  | 1 => ⟨0, 1, 2 * x, 2 * y, 1⟩
  | 2 => ⟨-1, 0, 2 * x, 2 * y, 1⟩
  | _ => ⟨0, -1, 2 * x, 2 * y, 1⟩
theorem t_cases {t : Nat} (h : t < 4) : t = 0 ∨ t = 1 ∨ t = 2 ∨ t = 3 := by omega
theorem flat_pose {t : Nat} (ht : t < 4) (x y : Int) : posF (flatHs x y t) 1 = posT t x y := by
  have e : posF (flatHs x y t) 1 = flw pose0 ⟨⟨2 * x, 2 * y⟩, ⟨0, 0⟩, (plainS t : Nat)⟩ (trn (plainS t)) := by
    show flw (posF (flatHs x y t) 0) _ _ = _
    rfl
  rw [e, flw, low_one]
  · rcases t_cases ht with rfl | rfl | rfl | rfl <;> simp [raw, plainS, trn, turns, pose0, plc, posT]
  · rcases t_cases ht with rfl | rfl | rfl | rfl <;> simp [raw, plainS, trn, turns, pose0]
/-! ### Edges along the axes -/
theorem npos {a t : Int} (ha : 0 < a) : a * t ≤ 0 ↔ t ≤ 0 := by
  constructor
  · intro h
    rcases Int.lt_or_le 0 t with h1 | h1
    · have := Int.mul_pos ha h1
      omega
    · exact h1
  · intro h
    exact Int.mul_nonpos_of_nonneg_of_nonpos (by omega) h
theorem side_e {a b c : Sp} (h : b.y = a.y) (h2 : a.x < b.x) : sideS a b 1 c 1 ≤ 0 ↔ c.y ≤ a.y := by
  have e : sideS a b 1 c 1 = (b.x - a.x) * (c.y - a.y) := by unfold sideS; rw [h]; grind
  rw [e, npos (by omega)]
  omega
theorem side_w {a b c : Sp} (h : b.y = a.y) (h2 : b.x < a.x) : sideS a b 1 c 1 ≤ 0 ↔ a.y ≤ c.y := by
  have e : sideS a b 1 c 1 = (a.x - b.x) * (a.y - c.y) := by unfold sideS; rw [h]; grind
  rw [e, npos (by omega)]
  omega
theorem side_n {a b c : Sp} (h : b.x = a.x) (h2 : a.y < b.y) : sideS a b 1 c 1 ≤ 0 ↔ a.x ≤ c.x := by
  have e : sideS a b 1 c 1 = (b.y - a.y) * (a.x - c.x) := by unfold sideS; rw [h]; grind
  rw [e, npos (by omega)]
  omega
theorem side_s {a b c : Sp} (h : b.x = a.x) (h2 : b.y < a.y) : sideS a b 1 c 1 ≤ 0 ↔ c.x ≤ a.x := by
  have e : sideS a b 1 c 1 = (a.y - b.y) * (c.x - a.x) := by unfold sideS; rw [h]; grind
  rw [e, npos (by omega)]
  omega
theorem all4 {P : Nat → Prop} : (∀ j, j < 4 → P j) ↔ P 0 ∧ P 1 ∧ P 2 ∧ P 3 := by
  constructor
  · intro h
    exact ⟨h 0 (by omega), h 1 (by omega), h 2 (by omega), h 3 (by omega)⟩
  · rintro ⟨h0, h1, h2, h3⟩ j hj
    rcases t_cases hj with rfl | rfl | rfl | rfl <;> assumption
theorem ex4 {P : Nat → Prop} : (∃ j, j < 4 ∧ P j) ↔ P 0 ∨ P 1 ∨ P 2 ∨ P 3 := by
  constructor
  · rintro ⟨j, hj, h⟩
    rcases t_cases hj with rfl | rfl | rfl | rfl
    · exact .inl h
    · exact .inr (.inl h)
    · exact .inr (.inr (.inl h))
    · exact .inr (.inr (.inr h))
  · rintro (h | h | h | h)
    · exact ⟨0, by omega, h⟩
    · exact ⟨1, by omega, h⟩
    · exact ⟨2, by omega, h⟩
    · exact ⟨3, by omega, h⟩
theorem ptd4 {K L : Nat → Sp} : Ptd K 4 1 L 4 1 ↔ (∀ j, j < 4 → sideS (K 0) (K 1) 1 (L j) 1 ≤ 0) ∨ (∀ j, j < 4 → sideS (K 1) (K 2) 1 (L j) 1 ≤ 0) ∨ (∀ j, j < 4 → sideS (K 2) (K 3) 1 (L j) 1 ≤ 0) ∨ ∀ j, j < 4 → sideS (K 3) (K 0) 1 (L j) 1 ≤ 0 := by
  unfold Ptd
  rw [ex4]
/-- The cells of the second board: from where to where. -/
def ovl (w h p q x y : Int) (t : Nat) : Prop := match t with
  | 0 => x ≤ w - 1 ∧ 0 ≤ x + p - 1 ∧ y ≤ h - 1 ∧ 0 ≤ y + q - 1
  | 1 => x - (q - 1) ≤ w - 1 ∧ 0 ≤ x ∧ y ≤ h - 1 ∧ 0 ≤ y + p - 1
  | 2 => x - (p - 1) ≤ w - 1 ∧ 0 ≤ x ∧ y - (q - 1) ≤ h - 1 ∧ 0 ≤ y
  | _ => x ≤ w - 1 ∧ 0 ≤ x + q - 1 ∧ y - (p - 1) ≤ h - 1 ∧ 0 ≤ y
def K1 (w h : Int) (i : Nat) : Sp := plc pose0 (ptA (rect w h) i)
def K2 (p q x y : Int) (t i : Nat) : Sp := plc (posT t x y) (ptA (rect p q) i)
theorem K1_0 (w h : Int) : K1 w h 0 = ⟨-1, -1⟩ := by simp [K1, rect, ptA, plc, pose0]
theorem K1_1 (w h : Int) : K1 w h 1 = ⟨2 * w - 1, -1⟩ := by simp [K1, rect, ptA, plc, pose0]
theorem K1_2 (w h : Int) : K1 w h 2 = ⟨2 * w - 1, 2 * h - 1⟩ := by simp [K1, rect, ptA, plc, pose0]
theorem K1_3 (w h : Int) : K1 w h 3 = ⟨-1, 2 * h - 1⟩ := by simp [K1, rect, ptA, plc, pose0]
theorem K2_at (p q x y : Int) (t i : Nat) : K2 p q x y t i = ⟨(posT t x y).p * (ptA (rect p q) i).x - (posT t x y).q * (ptA (rect p q) i).y + (posT t x y).x, (posT t x y).q * (ptA (rect p q) i).x + (posT t x y).p * (ptA (rect p q) i).y + (posT t x y).y⟩ := rfl
theorem r0 (p q : Int) : ptA (rect p q) 0 = ⟨-1, -1⟩ := rfl
theorem r1 (p q : Int) : ptA (rect p q) 1 = ⟨2 * p - 1, -1⟩ := rfl
theorem r2 (p q : Int) : ptA (rect p q) 2 = ⟨2 * p - 1, 2 * q - 1⟩ := rfl
theorem r3 (p q : Int) : ptA (rect p q) 3 = ⟨-1, 2 * q - 1⟩ := rfl
theorem part1 {w h p q x y : Int} {t : Nat} (hw : 1 ≤ w) (hh : 1 ≤ h) (hp : 1 ≤ p) (hq : 1 ≤ q) (ht : t < 4) : Ptd (K1 w h) 4 1 (K2 p q x y t) 4 1 ↔ ¬ ovl w h p q x y t := by
  rw [ptd4, K1_0, K1_1, K1_2, K1_3]
  simp only [all4]
  have a1 := fun c => side_e (a := ⟨-1, -1⟩) (b := ⟨2 * w - 1, -1⟩) (c := c) rfl (by simp only; omega)
  have a2 := fun c => side_n (a := ⟨2 * w - 1, -1⟩) (b := ⟨2 * w - 1, 2 * h - 1⟩) (c := c) rfl (by simp only; omega)
  have a3 := fun c => side_w (a := ⟨2 * w - 1, 2 * h - 1⟩) (b := ⟨-1, 2 * h - 1⟩) (c := c) rfl (by simp only; omega)
  have a4 := fun c => side_s (a := ⟨-1, 2 * h - 1⟩) (b := ⟨-1, -1⟩) (c := c) rfl (by simp only; omega)
  simp only [a1, a2, a3, a4, K2_at, r0, r1, r2, r3]
  rcases t_cases ht with rfl | rfl | rfl | rfl <;> simp only [posT, ovl] <;> omega
theorem part2 {w h p q x y : Int} {t : Nat} (hw : 1 ≤ w) (hh : 1 ≤ h) (hp : 1 ≤ p) (hq : 1 ≤ q) (ht : t < 4) : Ptd (K2 p q x y t) 4 1 (K1 w h) 4 1 ↔ ¬ ovl w h p q x y t := by
  rw [ptd4]
  simp only [all4, K1_0, K1_1, K1_2, K1_3]
  rcases t_cases ht with rfl | rfl | rfl | rfl
  · have a1 := fun c => side_e (a := K2 p q x y 0 0) (b := K2 p q x y 0 1) (c := c) (by simp [K2_at, r0, r1, posT]) (by simp only [K2_at, r0, r1, posT]; omega)
    have a2 := fun c => side_n (a := K2 p q x y 0 1) (b := K2 p q x y 0 2) (c := c) (by simp [K2_at, r1, r2, posT]) (by simp only [K2_at, r1, r2, posT]; omega)
    have a3 := fun c => side_w (a := K2 p q x y 0 2) (b := K2 p q x y 0 3) (c := c) (by simp [K2_at, r2, r3, posT]) (by simp only [K2_at, r2, r3, posT]; omega)
    have a4 := fun c => side_s (a := K2 p q x y 0 3) (b := K2 p q x y 0 0) (c := c) (by simp [K2_at, r3, r0, posT]) (by simp only [K2_at, r3, r0, posT]; omega)
    simp only [a1, a2, a3, a4]
    simp only [K2_at, r0, r1, r2, r3, posT, ovl]
    omega
  · have a1 := fun c => side_n (a := K2 p q x y 1 0) (b := K2 p q x y 1 1) (c := c) (by simp [K2_at, r0, r1, posT]) (by simp only [K2_at, r0, r1, posT]; omega)
    have a2 := fun c => side_w (a := K2 p q x y 1 1) (b := K2 p q x y 1 2) (c := c) (by simp [K2_at, r1, r2, posT]) (by simp only [K2_at, r1, r2, posT]; omega)
    have a3 := fun c => side_s (a := K2 p q x y 1 2) (b := K2 p q x y 1 3) (c := c) (by simp [K2_at, r2, r3, posT]) (by simp only [K2_at, r2, r3, posT]; omega)
    have a4 := fun c => side_e (a := K2 p q x y 1 3) (b := K2 p q x y 1 0) (c := c) (by simp [K2_at, r3, r0, posT]) (by simp only [K2_at, r3, r0, posT]; omega)
    simp only [a1, a2, a3, a4]
    simp only [K2_at, r0, r1, r2, r3, posT, ovl]
    omega
  · have a1 := fun c => side_w (a := K2 p q x y 2 0) (b := K2 p q x y 2 1) (c := c) (by simp [K2_at, r0, r1, posT]) (by simp only [K2_at, r0, r1, posT]; omega)
    have a2 := fun c => side_s (a := K2 p q x y 2 1) (b := K2 p q x y 2 2) (c := c) (by simp [K2_at, r1, r2, posT]) (by simp only [K2_at, r1, r2, posT]; omega)
    have a3 := fun c => side_e (a := K2 p q x y 2 2) (b := K2 p q x y 2 3) (c := c) (by simp [K2_at, r2, r3, posT]) (by simp only [K2_at, r2, r3, posT]; omega)
    have a4 := fun c => side_n (a := K2 p q x y 2 3) (b := K2 p q x y 2 0) (c := c) (by simp [K2_at, r3, r0, posT]) (by simp only [K2_at, r3, r0, posT]; omega)
    simp only [a1, a2, a3, a4]
    simp only [K2_at, r0, r1, r2, r3, posT, ovl]
    omega
  · have a1 := fun c => side_s (a := K2 p q x y 3 0) (b := K2 p q x y 3 1) (c := c) (by simp [K2_at, r0, r1, posT]) (by simp only [K2_at, r0, r1, posT]; omega)
    have a2 := fun c => side_e (a := K2 p q x y 3 1) (b := K2 p q x y 3 2) (c := c) (by simp [K2_at, r1, r2, posT]) (by simp only [K2_at, r1, r2, posT]; omega)
    have a3 := fun c => side_n (a := K2 p q x y 3 2) (b := K2 p q x y 3 3) (c := c) (by simp [K2_at, r2, r3, posT]) (by simp only [K2_at, r2, r3, posT]; omega)
    have a4 := fun c => side_w (a := K2 p q x y 3 3) (b := K2 p q x y 3 0) (c := c) (by simp [K2_at, r3, r0, posT]) (by simp only [K2_at, r3, r0, posT]; omega)
    simp only [a1, a2, a3, a4]
    simp only [K2_at, r0, r1, r2, r3, posT, ovl]
    omega
theorem pcrn_flat0 (w h p q x y : Int) (t : Nat) : pcrn (flatPs w h p q) (flatHs x y t) 0 = crn pose0 (rect w h) := rfl
theorem pcrn_flat1 (w h p q x y : Int) {t : Nat} (ht : t < 4) : pcrn (flatPs w h p q) (flatHs x y t) 1 = crn (posT t x y) (rect p q) := by
  show crn (posF (flatHs x y t) 1) _ = _
  rw [flat_pose ht]
  rfl
theorem posT_d (t : Nat) (x y : Int) : (posT t x y).d = 1 := by unfold posT; split <;> rfl
/-- The panels clash exactly if the boards overlap. -/
theorem flat_clash {w h p q x y : Int} {t : Nat} (hw : 1 ≤ w) (hh : 1 ≤ h) (hp : 1 ≤ p) (hq : 1 ≤ q) (ht : t < 4) : clashB (pcrn (flatPs w h p q) (flatHs x y t) 0) (pcrn (flatPs w h p q) (flatHs x y t) 1) = true ↔ ovl w h p q x y t := by
  rw [pcrn_flat0, pcrn_flat1 _ _ _ _ _ _ ht, ← Bool.not_eq_false, clashB_crn, posT_d]
  have h1 := part1 (x := x) (y := y) hw hh hp hq ht
  have h2 := part2 (x := x) (y := y) hw hh hp hq ht
  have e1 : (Ptd (fun i => plc pose0 (ptA (rect w h) i)) (rect w h).length pose0.d (fun j => plc (posT t x y) (ptA (rect p q) j)) (rect p q).length 1) ↔ ¬ ovl w h p q x y t := h1
  have e2 : (Ptd (fun j => plc (posT t x y) (ptA (rect p q) j)) (rect p q).length 1 (fun i => plc pose0 (ptA (rect w h) i)) (rect w h).length pose0.d) ↔ ¬ ovl w h p q x y t := h2
  rw [e1, e2]
  by_cases h3 : ovl w h p q x y t <;> simp [h3]
theorem rect_ok {w h : Int} (hw : 1 ≤ w) (hh : 1 ≤ h) (hw2 : w ≤ 20) (hh2 : h ≤ 20) : panelP (rect w h) := by
  refine ⟨⟨by simp [rect], by simp [rect]⟩, fun s hs => ?_, fun i hi k hk h1 h2 => ?_⟩
  · simp only [rect, List.mem_cons, List.not_mem_nil, or_false] at hs
    unfold spotB
    rcases hs with rfl | rfl | rfl | rfl <;> simp only <;> omega
  · have hp : 0 < (2 * w) * (2 * h) := Int.mul_pos (by omega) (by omega)
    have hi : i < 4 := hi
    have hk : k < 4 := hk
    have h2 : k ≠ (i + 1) % 4 := h2
    show 0 < sd (ptA (rect w h) i) (ptA (rect w h) ((i + 1) % 4)) (ptA (rect w h) k)
    rcases t_cases hi with rfl | rfl | rfl | rfl <;> rcases t_cases hk with rfl | rfl | rfl | rfl <;> first | (exact absurd rfl h1) | (exact absurd rfl h2) | (simp only [Nat.reduceAdd, Nat.reduceMod, r0, r1, r2, r3, sd]; grind)
theorem flat_link {w h p q x y : Int} {t : Nat} (hw : 1 ≤ w ∧ w ≤ 20) (hh : 1 ≤ h ∧ h ≤ 20) (hp : 1 ≤ p ∧ p ≤ 20) (hq : 1 ≤ q ∧ q ≤ 20) (ht : t < 4) (hx : -20 ≤ x ∧ x ≤ 20) (hy : -20 ≤ y ∧ y ≤ 20) : linkP (flatPs w h p q) (flatHs x y t) := by
  refine ⟨⟨by simp [flatPs], by simp [flatPs]⟩, rfl, fun l hl => ?_, fun g hg => ?_⟩
  · simp only [flatPs, List.mem_cons, List.not_mem_nil, or_false] at hl
    rcases hl with rfl | rfl
    · exact rect_ok hw.1 hh.1 hw.2 hh.2
    · exact rect_ok hp.1 hq.1 hp.2 hq.2
  · simp only [flatHs, List.mem_cons, List.not_mem_nil, or_false] at hg
    subst hg
    unfold hingeB spotB
    rcases t_cases ht with rfl | rfl | rfl | rfl <;> simp only [plainS] <;> simp <;> omega
/-! ### The cells -/
def boardC (w h : Nat) : List Ce := (List.range (w * h)).map fun i => ⟨(i % w : Nat), (i / w : Nat), 0⟩
theorem mem_board {w h : Nat} (hw : 0 < w) {c : Ce} : c ∈ boardC w h ↔ ∃ i j : Nat, i < w ∧ j < h ∧ c = ⟨i, j, 0⟩ := by
  unfold boardC
  rw [List.mem_map]
  constructor
  · rintro ⟨n, hn, rfl⟩
    rw [List.mem_range] at hn
    exact ⟨n % w, n / w, Nat.mod_lt _ hw, Nat.div_lt_of_lt_mul hn, rfl⟩
  · rintro ⟨i, j, hi, hj, rfl⟩
    refine ⟨j * w + i, ?_, ?_⟩
    · rw [List.mem_range]
      have := Nat.mul_le_mul_right w (show j + 1 ≤ h from hj)
      rw [Nat.add_mul, Nat.mul_comm h w] at this
      omega
    · have e1 : (j * w + i) % w = i := by rw [Nat.mul_comm, Nat.mul_add_mod, Nat.mod_eq_of_lt hi]
      have e2 : (j * w + i) / w = j := by rw [Nat.mul_comm, Nat.mul_add_div hw, Nat.div_eq_of_lt hi]; rfl
      rw [e1, e2]
theorem flat_cells {w h p q : Nat} (hw : 0 < w) (hp : 0 < p) (hq : 0 < q) (hh : 0 < h) (x y : Int) {t : Nat} (ht : t < 4) :
    (∃ c, c ∈ placed (boardC w h) 0 ⟨0, 0, 0⟩ ∧ c ∈ placed (boardC p q) t ⟨x, y, 0⟩) ↔ ovl w h p q x y t := by
  unfold placed
  simp only [List.mem_map]
  constructor
  · rintro ⟨_, ⟨a, ha, rfl⟩, b, hb, e⟩
    obtain ⟨i, j, hi, hj, rfl⟩ := (mem_board hw).1 ha
    obtain ⟨i', j', hi', hj', rfl⟩ := (mem_board hp).1 hb
    rcases t_cases ht with rfl | rfl | rfl | rfl <;> simp only [plusC, turnC, sixth, rotN, rotZ, Nat.reduceDiv, Nat.zero_div, Ce.mk.injEq, ovl] at e ⊢ <;> omega
  · intro ho
    have key : ∃ i j i' j' : Nat, i < w ∧ j < h ∧ i' < p ∧ j' < q ∧ plusC (turnC ⟨i', j', 0⟩ t) ⟨x, y, 0⟩ = plusC (turnC ⟨i, j, 0⟩ 0) ⟨0, 0, 0⟩ := by
      rcases t_cases ht with rfl | rfl | rfl | rfl
      · simp only [ovl] at ho
        refine ⟨(max 0 x).toNat, (max 0 y).toNat, (max 0 x - x).toNat, (max 0 y - y).toNat, by omega, by omega, by omega, by omega, ?_⟩
        simp only [plusC, turnC, sixth, rotN, Nat.zero_div, Ce.mk.injEq, and_true]
        omega
      · simp only [ovl] at ho
        refine ⟨(max 0 (x - (q - 1))).toNat, (max 0 y).toNat, (max 0 y - y).toNat, (x - max 0 (x - (q - 1))).toNat, by omega, by omega, by omega, by omega, ?_⟩
        simp only [plusC, turnC, sixth, rotN, rotZ, Nat.reduceDiv, Nat.zero_div, Ce.mk.injEq, and_true]
        omega
      · simp only [ovl] at ho
        refine ⟨(max 0 (x - (p - 1))).toNat, (max 0 (y - (q - 1))).toNat, (x - max 0 (x - (p - 1))).toNat, (y - max 0 (y - (q - 1))).toNat, by omega, by omega, by omega, by omega, ?_⟩
        simp only [plusC, turnC, sixth, rotN, rotZ, Nat.reduceDiv, Nat.zero_div, Ce.mk.injEq, and_true]
        omega
      · simp only [ovl] at ho
        refine ⟨(max 0 x).toNat, (max 0 (y - (p - 1))).toNat, (y - max 0 (y - (p - 1))).toNat, (max 0 x - x).toNat, by omega, by omega, by omega, by omega, ?_⟩
        simp only [plusC, turnC, sixth, rotN, rotZ, Nat.reduceDiv, Nat.zero_div, Ce.mk.injEq, and_true]
        omega
    obtain ⟨i, j, i', j', hi, hj, hi', hj', e⟩ := key
    exact ⟨_, ⟨_, (mem_board hw).2 ⟨i, j, hi, hj, rfl⟩, rfl⟩, _, (mem_board hp).2 ⟨i', j', hi', hj', rfl⟩, e⟩
end Go.Proofs.YtebkhdhhajjhfaaGreat.Lt

/- The board of the law: its cells, row by row, and no knobs. -/
namespace Go.Proofs.YtebkhdhhajjhfaaGreat.Lt
open Go.RowKit
theorem boardC_len (w h : Nat) : (boardC w h).length = w * h := by simp [boardC]
theorem boardC_at {w h i : Nat} (hi : i < w * h) : (boardC w h)[i]? = some ⟨(i % w : Nat), (i / w : Nat), 0⟩ := by
  simp [boardC, hi]
theorem tdiv_nat (a b : Nat) : (a : Int).tdiv (b : Int) = ((a / b : Nat) : Int) := by
  rw [Int.tdiv_eq_ediv_of_nonneg (by omega)]; rfl
theorem wrap_nat {x : Nat} (h : x ≤ 1000) : IntKind.i64.wrap (x : Int) = (x : Int) := by rw [IntKind.wrap_i64]; omega
theorem tmod_nat (a b : Nat) : (a : Int).tmod (b : Int) = ((a % b : Nat) : Int) := by
  rw [Int.tmod_eq_emod_of_nonneg (by omega)]; rfl
theorem results_ki {fn : Func} {t : Tmp} (h : fn.results = #[.cell t 82]) (tmps : Array Value) (w : World) {g : Nat} {u0 u1 u2 : Value} (h8 : tmps.getD t undef = .pointer (some ⟨g, 0, none⟩)) (c0 : w.cell? ⟨g, 0, none⟩ = some u0) (c1 : w.cell? ⟨g, 1, none⟩ = some u1) (c2 : w.cell? ⟨g, 2, none⟩ = some u2) :
    (results fn tmps).run Tryz.prog w = .ok (.agg #[u0, u1, u2]) w := by
  rw [Array.getD_eq_getD_getElem?] at h8
  simp [results, h, loadVar, h8, c0, c1, c2, loadCells, loadCellsFrom, asAddr, Addr.add_lit, Result.andThen, go_sem]
theorem field_store {w w9 : World} {e1 e2 s1 n1 n8 c8 m8 : Nat} {v9 v a b : Value} {xs ys : List Value} {g8 g9 : Nat} (hne : g8 ≠ g9) (he : e1 ≠ e2) (ho : Own w w9 e1 s1 v9 n1 xs) (h9 : Own w w9 e2 3 (.slice (some ⟨g9, 0, none⟩) 1 1) 1 [v, a, b]) (h8 : Own w w9 e2 3 (.slice (some ⟨g8, 0, none⟩) m8 c8) n8 ys) (u : Value) :
    Own w (w9.setCell ⟨g9, 0, none⟩ u) e1 s1 v9 n1 xs ∧ Own w (w9.setCell ⟨g9, 0, none⟩ u) e2 3 (.slice (some ⟨g9, 0, none⟩) 1 1) 1 [u, a, b] ∧ Own w (w9.setCell ⟨g9, 0, none⟩ u) e2 3 (.slice (some ⟨g8, 0, none⟩) m8 c8) n8 ys := by
  have hg : w.heap.size ≤ g9 := h9.ge
  refine ⟨ho.other hg ?_ u, h9.store 0 u, h8.other hg (by simp [Value.ownBlock, hne]) u⟩
  rcases own_ne_row ho h9.2 he with h | h
  · rw [h]
    simp
  · exact h
set_option maxRecDepth 100000 in
set_option maxHeartbeats 1000000 in
theorem board_any (wd ht : Nat) (wt : Int) (w : World) (hw1 : 1 ≤ wd) (hw2 : wd ≤ 6) (hh1 : 1 ≤ ht) (hh2 : ht ≤ 4) :
    Calls Tryz.prog 24 #[.int .i64 wd, .int .i64 ht, .int .i64 wt, .bool false] w fun e w' => ∃ g cap, e = .returned (.agg #[.slice (some ⟨g, 0, none⟩) (wd * ht) cap, .slice none 0 0, .int .i64 wt]) ∧ Own w w' 60 3 (.slice (some ⟨g, 0, none⟩) (wd * ht) cap) (wd * ht) ((boardC wd ht).map Ce.cells).flatten := by
  obtain ⟨n, hn⟩ : ∃ n, n = wd * ht := ⟨_, rfl⟩
  have hn0 : 0 < n := by rw [hn]; exact Nat.mul_pos (by omega) (by omega)
  have hn24 : n ≤ 24 := by
    rw [hn]
    exact Nat.le_trans (Nat.mul_le_mul hw2 hh2) (by omega)
  have hmul : IntKind.i64.wrap ((wd : Int) * (ht : Int)) = (n : Int) := by
    have e : (wd : Int) * (ht : Int) = (n : Int) := by rw [hn]; rfl
    rw [e, IntKind.wrap_i64]
    omega
  have hbl : (boardC wd ht).length = n := by rw [boardC_len, hn]
  have hba : ∀ i, i < n → ceA (boardC wd ht) i = ⟨((i % wd : Nat) : Int), ((i / wd : Nat) : Int), 0⟩ := fun i hi => by
    have := boardC_at (w := wd) (h := ht) (i := i) (by rw [← hn]; exact hi)
    simp [ceA, List.getD, this]
  rw [← hn]
  have Hbl := Lib.hid hbl
  have Hba := Lib.hid hba
  clear hn hbl hba
  generalize boardC wd ht = C at *
  have hwi : (wd : Int) ≠ 0 := by omega
  have h9 : Own w ((w.alloc (.cells #[.slice none 0 0, .slice none 0 0, .int .i64 0] 82)).alloc (.cells #[.slice none 0 0, .slice none 0 0, .int .i64 wt] 82)) 82 3 (.slice (some ⟨w.heap.size + 1, 0, none⟩) 1 1) 1 [.slice none 0 0, .slice none 0 0, .int .i64 wt] := by
    have := Own.lit (e := 82) (size := 3) ((Ext.refl w).alloc (.cells #[.slice none 0 0, .slice none 0 0, .int .i64 0] 82)) #[.slice none 0 0, .slice none 0 0, .int .i64 wt] 1 (by unfold maxLen; omega) rfl
    simpa using this
  go_enter Tryz.func24, Tryz.ntmps24
  go_wp2
  have h8 : Own w ((w.alloc (.cells #[.slice none 0 0, .slice none 0 0, .int .i64 0] 82)).alloc (.cells #[.slice none 0 0, .slice none 0 0, .int .i64 wt] 82)) 82 3 (.slice (some ⟨w.heap.size, 0, none⟩) 1 1) 1 [.slice none 0 0, .slice none 0 0, .int .i64 0] := by
    have := Own.lit (e := 82) (size := 3) (Ext.refl w) #[.slice none 0 0, .slice none 0 0, .int .i64 0] 1 (by unfold maxLen; omega) rfl
    exact this.alloc _
  have Hst := Lib.hid (And.intro h9 h8)
  clear h9 h8
  generalize ((w.alloc (.cells #[.slice none 0 0, .slice none 0 0, .int .i64 0] 82)).alloc (.cells #[.slice none 0 0, .slice none 0 0, .int .i64 wt] 82)) = w1 at Hst ⊢
  go_loopw [17] (fun i wr => ∃ (k : Nat) (v : Value), k ≤ n ∧ i = .int .i64 k ∧ Own w wr 60 3 v k ((C.take k).map Ce.cells).flatten ∧ Own w wr 82 3 (.slice (some ⟨w.heap.size + 1, 0, none⟩) 1 1) 1 [v, .slice none 0 0, .int .i64 wt] ∧ Own w wr 82 3 (.slice (some ⟨w.heap.size, 0, none⟩) 1 1) 1 [.slice none 0 0, .slice none 0 0, .int .i64 0]) (fun i _ => n - (intOf i).toNat)
  case atStart => exact ⟨0, .slice none 0 0, by omega, rfl, Own.nil' Hst.out.1.ext _ _, Hst.out⟩
  case round =>
    clear Hst
    obtain ⟨k, v, hk, rfl, hV, h9, h8⟩ := hrel
    by_cases hlt : k < n
    · have hki : (k : Int) < (n : Int) := by omega
      obtain ⟨X, xc, rfl⟩ := hV.form
      have e0 : wr.cell? ⟨w.heap.size + 1, 0, none⟩ = some (.slice X k xc) := h9.cell (j := 0) (by simp)
      have ha := Hba.out k hlt
      have hct : C.take (k + 1) = C.take k ++ [⟨((k % wd : Nat) : Int), ((k / wd : Nat) : Int), 0⟩] := by
        have hl : k < C.length := by rw [Hbl.out]; exact hlt
        rw [List.take_succ_eq_append_getElem hl, ← ceA_at hl, ha]
      have hm := tmod_nat k wd
      have hd := tdiv_nat k wd
      have hm2 : IntKind.i64.wrap ((k % wd : Nat) : Int) = ((k % wd : Nat) : Int) := wrap_nat (by have := Nat.mod_lt k (show 0 < wd by omega); omega)
      have hd2 : IntKind.i64.wrap ((k / wd : Nat) : Int) = ((k / wd : Nat) : Int) := wrap_nat (Nat.le_trans (Nat.div_le_self k wd) (by omega))
      have Hct := Lib.hid hct
      clear ha hct
      generalize k % wd = cx at *
      generalize k / wd = cy at *
      have HV := Lib.hid hV
      have H9 := Lib.hid h9
      have H8 := Lib.hid h8
      clear hV h9 h8
      go_wp2
      go_region
      have hx5 : Ext wr (wr.alloc (.cells #[.int .i64 cx, .int .i64 cy, .int .i64 0] 60)).drew := ((Ext.refl _).alloc _).drew
      have kb : Blk (wr.alloc (.cells #[.int .i64 cx, .int .i64 cy, .int .i64 0] 60)).drew wr.heap.size [.int .i64 cx, .int .i64 cy, .int .i64 0] := (Blk.new _ _).ext (Ext.refl _).drew
      generalize (wr.alloc (.cells #[.int .i64 cx, .int .i64 cy, .int .i64 0] 60)).drew = w5 at hx5 kb ⊢
      have b0 := kb.at_ 0 rfl
      have b1 := kb.at_ 1 rfl
      have b2 := kb.at_ 2 rfl
      have e5 := (H9.out.later hx5).cell (j := 0) (by simp)
      simp only [List.getElem?_cons_zero] at e5
      have HV6 := Lib.hid ((HV.out.later hx5).alloc (.cells #[.int .i64 cx, .int .i64 cy, .int .i64 0] 60))
      have H96 := Lib.hid ((H9.out.later hx5).alloc (.cells #[.int .i64 cx, .int .i64 cy, .int .i64 0] 60))
      have H86 := Lib.hid ((H8.out.later hx5).alloc (.cells #[.int .i64 cx, .int .i64 cy, .int .i64 0] 60))
      have Hrw := Lib.hid (Gr.row_alloc w5 #[.int .i64 cx, .int .i64 cy, .int .i64 0] 60)
      clear kb e0 HV H9 H8 hx5
      go_wp2_with (refine Gr.own_append_at cell_elem rfl _ _ 79 rfl Tryz.underlying79 (.slice X k xc) k _ rfl HV6.out ⟨w5.heap.size, 0, none⟩ 1 1 [.int .i64 cx, .int .i64 cy, .int .i64 0] rfl rfl Hrw.out (by intro u hu; simp only [List.mem_cons, List.not_mem_nil, or_false] at hu; rcases hu with rfl | rfl | rfl <;> rfl) (by omega) (by unfold maxLen; omega) ?_; intro v9 w9 ho9 hg9 hl9; have hbs := (fun j (e : (Value.slice X k xc).ownBlock = some j) => (HV6.out.2.lt j e).1); have h99 := own_grown H96.out hg9 hbs (own_ne_row H96.out HV6.out.2 (by decide)); have h89 := own_grown H86.out hg9 hbs (own_ne_row H86.out HV6.out.2 (by decide)); obtain ⟨X9, c9, rfl⟩ := ho9.form; have c0 := h99.cell (j := 0) (by simp); have hf := h99.free 0; have hst := field_store (g8 := w.heap.size) (by omega) (by decide) ho9 h99 h89 (.slice X9 (k + 1) c9); have Hst := Lib.hid hst; clear ho9 h99 h89 hst hg9 hl9 hbs)
      go_roundw
      case rel => exact ⟨k + 1, .slice X9 (k + 1) c9, by omega, by go_num, by rw [Hct.out, List.map_append, List.flatten_append]; exact Hst.out.1, Hst.out.2⟩
      case measure => simp [intOf]; omega
    · obtain rfl : n = k := by omega
      have hki : ¬ (n : Int) < (n : Int) := by omega
      obtain ⟨g, c, rfl, _, _⟩ := hV.at_ hn0
      have c0 : wr.cell? ⟨w.heap.size + 1, 0, none⟩ = some (.slice (some ⟨g, 0, none⟩) n c) := h9.cell (j := 0) (by simp)
      have c1 : wr.cell? ⟨w.heap.size + 1, 1, none⟩ = some (.slice none 0 0) := h9.cell (j := 1) (by simp)
      have c2 : wr.cell? ⟨w.heap.size + 1, 2, none⟩ = some (.int .i64 wt) := h9.cell (j := 2) (by simp)
      have d0 : wr.cell? ⟨w.heap.size, 0, none⟩ = some (.slice none 0 0) := h8.cell (j := 0) (by simp)
      have d1 : wr.cell? ⟨w.heap.size, 1, none⟩ = some (.slice none 0 0) := h8.cell (j := 1) (by simp)
      have d2 : wr.cell? ⟨w.heap.size, 2, none⟩ = some (.int .i64 0) := h8.cell (j := 2) (by simp)
      have f0 := h8.free 0
      have f1 := h8.free 1
      have f2 := h8.free 2
      have h8s := ((h8.store 0 (.slice (some ⟨g, 0, none⟩) n c)).store 1 (.slice none 0 0)).store 2 (.int .i64 wt)
      have hle : w.heap.size ≤ w.heap.size := Nat.le_refl _
      have hne : (Value.slice (some ⟨g, 0, none⟩) n c).ownBlock ≠ some w.heap.size := by
        rcases own_ne_row hV h8.2 (by decide) with h | h
        · cases h
        · exact h
      have hVs := ((hV.other (p := ⟨w.heap.size, 0, none⟩) hle hne (.slice (some ⟨g, 0, none⟩) n c)).other (p := ⟨w.heap.size, 1, none⟩) hle hne (.slice none 0 0)).other (p := ⟨w.heap.size, 2, none⟩) hle hne (.int .i64 wt)
      have r0 := h8s.cell (j := 0) (by simp)
      have r1 := h8s.cell (j := 1) (by simp)
      have r2 := h8s.cell (j := 2) (by simp)
      have HV := Lib.hid hVs
      have Hr := Lib.hid (And.intro r0 (And.intro r1 r2))
      clear hV h9 h8 h8s hVs r0 r1 r2 hle hne
      go_wp2
      refine bodyPost_ret (results_ki rfl _ _ rfl Hr.out.1 Hr.out.2.1 Hr.out.2.2) rfl ?_
      refine ⟨g, c, rfl, ?_⟩
      have ht : C.take n = C := List.take_of_length_le (by rw [Hbl.out]; exact Nat.le_refl _)
      have := HV.out
      rw [ht] at this
      exact this
end Go.Proofs.YtebkhdhhajjhfaaGreat.Lt

/- The order of pairs: Overlaps's closure. -/
namespace Go.Proofs.YtebkhdhhajjhfaaGreat.Lt
open Go.RowKit
set_option maxRecDepth 100000 in
set_option maxHeartbeats 1000000 in
theorem pair_ord (a b : Int × Int) (w : World) : Calls Tryz.prog 75 #[.agg #[.int .i64 a.1, .int .i64 a.2], .agg #[.int .i64 b.1, .int .i64 b.2]] w fun e w' => e = .returned (.int .i64 (cmpL [a.1, a.2] [b.1, b.2])) ∧ Grown w w' := by
  obtain ⟨a, b'⟩ := a
  obtain ⟨x, y⟩ := b
  have hW : Grown w ((w.alloc (.cells #[.int .i64 a, .int .i64 b'] 173)).alloc (.cells #[.int .i64 x, .int .i64 y] 173)) := ((Grown.refl w).alloc _).alloc _
  have ka : Row ((w.alloc (.cells #[.int .i64 a, .int .i64 b'] 173)).alloc (.cells #[.int .i64 x, .int .i64 y] 173)) (some ⟨w.heap.size, 0, none⟩) [.int .i64 a, .int .i64 b'] := Row.ext (row_heap (heap_alloc_new _ _)) ((Ext.refl _).alloc _)
  have kb : Row ((w.alloc (.cells #[.int .i64 a, .int .i64 b'] 173)).alloc (.cells #[.int .i64 x, .int .i64 y] 173)) (some ⟨w.heap.size + 1, 0, none⟩) [.int .i64 x, .int .i64 y] := by
    have h := heap_alloc_new (w.alloc (.cells #[.int .i64 a, .int .i64 b'] 173)) (.cells #[.int .i64 x, .int .i64 y] 173)
    rw [show (w.alloc (.cells #[.int .i64 a, .int .i64 b'] 173)).heap.size = w.heap.size + 1 by simp] at h
    exact row_heap h
  have cc := fun (w' : World) (h : Ext ((w.alloc (.cells #[.int .i64 a, .int .i64 b'] 173)).alloc (.cells #[.int .i64 x, .int .i64 y] 173)) w') => compare_any (some ⟨w.heap.size, 0, none⟩) (some ⟨w.heap.size + 1, 0, none⟩) 2 2 [a, b'] [x, y] w' (Row.ext ka h) (Row.ext kb h) rfl (by simp)
  have Cc := Lib.hid cc
  have HW := Lib.hid hW
  clear cc ka kb hW
  have s1 : ∀ (g : Nat) (w : World), (Instr.sliceAt 173 (.pointer (some ⟨g, 0, none⟩)) none none none).run Tryz.prog w = .ok (.slice (some ⟨g, 0, none⟩) 2 2) w := fun _ _ => by kernel_rfl
  simp only
  generalize cmpL [a, b'] [x, y] = R at *
  go_enter Tryz.func75, Tryz.ntmps75
  go_wp2
  generalize ((w.alloc (.cells #[.int .i64 a, .int .i64 b'] 173)).alloc (.cells #[.int .i64 x, .int .i64 y] 173)) = W at *
  refine Cg.wp_region_calm (p := growPre) (fr := (fun _ => false)) 4 (fun _ _ v _ => v = .int .i64 R) (fun _ _ _ _ _ _ h => h) (by kernel_rfl) (by kernel_rfl) ?_
  simp only [List.take_succ_cons, List.take_zero, List.drop_succ_cons, List.drop_zero]
  refine Cg.calm_quiet Cg.calm_mono_final W (fun _ h => Grown.ext h) 2 (by kernel_rfl) ?_
  simp only [List.take_succ_cons, List.take_zero, List.drop_succ_cons, List.drop_zero]
  repeat (go_big_quiet_step (fail))
  refine wpQuiet_nil ?_
  refine Cg.calm_call Cg.calm_mono_final 76 #[.slice (some ⟨w.heap.size, 0, none⟩) 2 2, .slice (some ⟨w.heap.size + 1, 0, none⟩) 2 2] rfl (fun w => ?_) (fun w he hF => ?_) ?_
  · go_simp
  · exact (Cc.out w (Grown.ext he)).mono fun e w'' ⟨he', hx⟩ => ⟨_, he', by rw [← hx]; exact Grown.refl _, rfl, fun h => by cases h⟩
  rintro _ _ _ rfl _
  simp only [Act.put, List.setIfInBounds_toArray, List.set_cons_succ, List.set_cons_zero]
  refine Cg.calm_quiet Cg.calm_mono_final W (fun _ h => Grown.ext h) 1 (by kernel_rfl) ?_
  simp only [List.take_succ_cons, List.take_zero, List.drop_succ_cons, List.drop_zero]
  repeat (go_big_quiet_step (fail))
  refine wpQuiet_nil ?_
  refine Cg.calm_nil fun w3 he3 _ => ?_
  have he3 : Grown W w3 := he3
  have H3 := Lib.hid he3
  clear he3
  go_wp2
  go_ret
  exact ⟨rfl, HW.out.trans H3.out⟩
end Go.Proofs.YtebkhdhhajjhfaaGreat.Lt
