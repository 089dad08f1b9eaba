/- The pose that follows: by the code. -/
import Derived.Test.YtebkhdhhajjhfaaGreatT21
import Derived.RegionTactic
import Derived.BigRegion
namespace Go.Proofs.YtebkhdhhajjhfaaGreat
open Go.RowKit
theorem ints_five {w : World} {g : Nat} {a b c d e : Int} (hb : Blk w g [vint a, vint b, vint c, vint d, vint e]) : Ints w (some ⟨g, 0, none⟩) [a, b, c, d, e] := fun k hk => by
  refine ⟨_, rfl, ?_⟩
  rw [add_zero']
  rcases (by simp at hk; omega : k = 0 ∨ k = 1 ∨ k = 2 ∨ k = 3 ∨ k = 4) with rfl | rfl | rfl | rfl | rfl
  · exact hb.c 0 _ rfl
  · exact hb.c 1 _ rfl
  · exact hb.c 2 _ rfl
  · exact hb.c 3 _ rfl
  · exact hb.c 4 _ rfl
set_option maxRecDepth 100000 in
set_option maxHeartbeats 8000000 in
theorem follow_core (P Q X Y D ta tb tr ax ay bx bY ang ux uy vx vy lp lq lx ly ld : Int) (G : Nat) (w : World) (hg0 : 0 < G)
    (f1 : -390625 ≤ ta * P ∧ ta * P ≤ 390625) (f2 : -390625 ≤ tb * Q ∧ tb * Q ≤ 390625) (f3 : -390625 ≤ tb * P ∧ tb * P ≤ 390625) (f4 : -390625 ≤ ta * Q ∧ ta * Q ≤ 390625) (f5 : -390625 ≤ tr * D ∧ tr * D ≤ 390625)
    (f6 : -273437500 ≤ tr * ux ∧ tr * ux ≤ 273437500) (f7 : -273437500 ≤ tr * uy ∧ tr * uy ≤ 273437500) (sx : -10937500 ≤ vx ∧ vx ≤ 10937500) (sy : -10937500 ≤ vy ∧ vy ≤ 10937500)
    (Ca : Hid (∀ w' : World, Calls Tryz.prog 90 #[.agg #[vint P, vint Q, vint X, vint Y, vint D], .agg #[vint ax, vint ay]] w' fun e w'' => e = .returned (.agg #[vint ux, vint uy]) ∧ Ext w' w''))
    (Cb : Hid (∀ w' : World, Calls Tryz.prog 90 #[.agg #[vint (ta * P - tb * Q), vint (tb * P + ta * Q), vint 0, vint 0, vint (tr * D)], .agg #[vint bx, vint bY]] w' fun e w'' => e = .returned (.agg #[vint vx, vint vy]) ∧ Ext w' w''))
    (Cd : Hid (∀ (w' : World) (g : Nat), Blk w' g [vint (ta * P - tb * Q), vint (tb * P + ta * Q), vint (tr * ux - vx), vint (tr * uy - vy), vint (tr * D)] → Calls Tryz.prog 136 #[.slice (some ⟨g, 0, none⟩) 5 5] w' fun e w'' => e = .returned (.int .i64 (G : Int)) ∧ Ext w' w''))
    (W1 : Hid (IntKind.i64.wrap ((ta * P - tb * Q).tdiv (G : Int)) = lp)) (W2 : Hid (IntKind.i64.wrap ((tb * P + ta * Q).tdiv (G : Int)) = lq)) (W3 : Hid (IntKind.i64.wrap ((tr * ux - vx).tdiv (G : Int)) = lx)) (W4 : Hid (IntKind.i64.wrap ((tr * uy - vy).tdiv (G : Int)) = ly)) (W5 : Hid (IntKind.i64.wrap ((tr * D).tdiv (G : Int)) = ld)) :
    Calls Tryz.prog 93 #[.agg #[vint P, vint Q, vint X, vint Y, vint D], .agg #[vint ax, vint ay, vint bx, vint bY, vint ang], .agg #[vint ta, vint tb, vint tr]] w fun e w' => e = .returned (.agg #[vint lp, vint lq, vint lx, vint ly, vint ld]) ∧ Ext w w' := by
  have kp : Blk (((((w.alloc (.cells #[vint P, vint Q, vint X, vint Y, vint D] 78)).alloc (.cells #[vint ax, vint ay, vint bx, vint bY, vint ang] 70)).alloc (.cells #[vint ta, vint tb, vint tr] 197)).alloc (.cells #[vint 0, vint 0, vint 0, vint 0, vint 0] 78)).alloc (.cells #[vint (ta * P - tb * Q), vint (tb * P + ta * Q), vint 0, vint 0, vint (tr * D)] 78)) (w.heap.size) [vint P, vint Q, vint X, vint Y, vint D] := ((((Blk.new _ _).ext ((Ext.refl _).alloc _)).ext ((Ext.refl _).alloc _)).ext ((Ext.refl _).alloc _)).ext ((Ext.refl _).alloc _)
  have kh : Blk (((((w.alloc (.cells #[vint P, vint Q, vint X, vint Y, vint D] 78)).alloc (.cells #[vint ax, vint ay, vint bx, vint bY, vint ang] 70)).alloc (.cells #[vint ta, vint tb, vint tr] 197)).alloc (.cells #[vint 0, vint 0, vint 0, vint 0, vint 0] 78)).alloc (.cells #[vint (ta * P - tb * Q), vint (tb * P + ta * Q), vint 0, vint 0, vint (tr * D)] 78)) (w.heap.size + 1) [vint ax, vint ay, vint bx, vint bY, vint ang] := (((Blk.new' (cs := #[vint ax, vint ay, vint bx, vint bY, vint ang]) (by simp)).ext ((Ext.refl _).alloc _)).ext ((Ext.refl _).alloc _)).ext ((Ext.refl _).alloc _)
  have kt : Blk (((((w.alloc (.cells #[vint P, vint Q, vint X, vint Y, vint D] 78)).alloc (.cells #[vint ax, vint ay, vint bx, vint bY, vint ang] 70)).alloc (.cells #[vint ta, vint tb, vint tr] 197)).alloc (.cells #[vint 0, vint 0, vint 0, vint 0, vint 0] 78)).alloc (.cells #[vint (ta * P - tb * Q), vint (tb * P + ta * Q), vint 0, vint 0, vint (tr * D)] 78)) (w.heap.size + 1 + 1) [vint ta, vint tb, vint tr] := ((Blk.new' (cs := #[vint ta, vint tb, vint tr]) (by simp)).ext ((Ext.refl _).alloc _)).ext ((Ext.refl _).alloc _)
  have kr : Blk (((((w.alloc (.cells #[vint P, vint Q, vint X, vint Y, vint D] 78)).alloc (.cells #[vint ax, vint ay, vint bx, vint bY, vint ang] 70)).alloc (.cells #[vint ta, vint tb, vint tr] 197)).alloc (.cells #[vint 0, vint 0, vint 0, vint 0, vint 0] 78)).alloc (.cells #[vint (ta * P - tb * Q), vint (tb * P + ta * Q), vint 0, vint 0, vint (tr * D)] 78)) (w.heap.size + 1 + 1 + 1) [vint 0, vint 0, vint 0, vint 0, vint 0] := (Blk.new' (cs := #[vint 0, vint 0, vint 0, vint 0, vint 0]) (by simp)).ext ((Ext.refl _).alloc _)
  have ko : Blk (((((w.alloc (.cells #[vint P, vint Q, vint X, vint Y, vint D] 78)).alloc (.cells #[vint ax, vint ay, vint bx, vint bY, vint ang] 70)).alloc (.cells #[vint ta, vint tb, vint tr] 197)).alloc (.cells #[vint 0, vint 0, vint 0, vint 0, vint 0] 78)).alloc (.cells #[vint (ta * P - tb * Q), vint (tb * P + ta * Q), vint 0, vint 0, vint (tr * D)] 78)) (w.heap.size + 1 + 1 + 1 + 1) [vint (ta * P - tb * Q), vint (tb * P + ta * Q), vint 0, vint 0, vint (tr * D)] := Blk.new' (cs := #[vint (ta * P - tb * Q), vint (tb * P + ta * Q), vint 0, vint 0, vint (tr * D)]) (by simp)
  have hx : Ext w (((((w.alloc (.cells #[vint P, vint Q, vint X, vint Y, vint D] 78)).alloc (.cells #[vint ax, vint ay, vint bx, vint bY, vint ang] 70)).alloc (.cells #[vint ta, vint tb, vint tr] 197)).alloc (.cells #[vint 0, vint 0, vint 0, vint 0, vint 0] 78)).alloc (.cells #[vint (ta * P - tb * Q), vint (tb * P + ta * Q), vint 0, vint 0, vint (tr * D)] 78)) := (((((Ext.refl _).alloc _).alloc _).alloc _).alloc _).alloc _
  go_enter Tryz.func93, Tryz.ntmps93
  go_wp2
  generalize (((((w.alloc (.cells #[vint P, vint Q, vint X, vint Y, vint D] 78)).alloc (.cells #[vint ax, vint ay, vint bx, vint bY, vint ang] 70)).alloc (.cells #[vint ta, vint tb, vint tr] 197)).alloc (.cells #[vint 0, vint 0, vint 0, vint 0, vint 0] 78)).alloc (.cells #[vint (ta * P - tb * Q), vint (tb * P + ta * Q), vint 0, vint 0, vint (tr * D)] 78)) = W0 at kp kh kt kr ko hx ⊢
  have p0 := kp.at_ 0 rfl
  have p1 := kp.at_ 1 rfl
  have p2 := kp.at_ 2 rfl
  have p3 := kp.at_ 3 rfl
  have p4 := kp.at_ 4 rfl
  have h0 := kh.at_ 0 rfl
  have h1 := kh.at_ 1 rfl
  have h2 := kh.at_ 2 rfl
  have h3 := kh.at_ 3 rfl
  have o0 := ko.at_ 0 rfl
  have o1 := ko.at_ 1 rfl
  have o2 := ko.at_ 2 rfl
  have o3 := ko.at_ 3 rfl
  have o4 := ko.at_ 4 rfl
  have hlo := ko.lt
  have Kp := Lib.hid kp
  have Kt := Lib.hid kt
  have Kr := Lib.hid kr
  have Ko := Lib.hid ko
  have Hx := Lib.hid hx
  clear kp kh kt kr ko hx f1 f2 f3 f4 f5
  refine Cg.wp_region_calm (p := Cg.extPre) (fr := (fun j => j == 8 || j == 9)) 10 (fun j _ v _ => bif j == 3 then v = .agg #[vint ux, vint uy] else v = .agg #[vint vx, vint vy]) (fun _ _ _ _ _ _ h => h) (by kernel_rfl) (by kernel_rfl) ?_
  simp only [List.take_succ_cons, List.take_zero, List.drop_succ_cons, List.drop_zero]
  refine Cg.calm_quiet Cg.calm_mono_final W0 (fun _ h => h) 3 (by kernel_rfl) ?_
  simp only [List.take_succ_cons, List.take_zero, List.drop_succ_cons, List.drop_zero]
  repeat (go_big_quiet_step (fail))
  refine wpQuiet_nil ?_
  refine Cg.calm_call Cg.calm_mono_final 90 #[.agg #[vint P, vint Q, vint X, vint Y, vint D], .agg #[vint ax, vint ay]] rfl (fun w => ?_) (fun w he hF => ?_) ?_
  · go_simp
  · exact (Ca.out w).mono fun e w'' ⟨he', hx⟩ => ⟨_, he', hx, rfl, fun h => by cases h⟩
  rintro _ _ _ rfl _
  simp only [Act.put, List.setIfInBounds_toArray, List.set_cons_succ, List.set_cons_zero]
  refine Cg.calm_quiet Cg.calm_mono_final W0 (fun _ h => h) 3 (by kernel_rfl) ?_
  simp only [List.take_succ_cons, List.take_zero, List.drop_succ_cons, List.drop_zero]
  repeat (go_big_quiet_step (fail))
  refine wpQuiet_nil ?_
  refine Cg.calm_call Cg.calm_mono_final 90 #[.agg #[vint (ta * P - tb * Q), vint (tb * P + ta * Q), vint 0, vint 0, vint (tr * D)], .agg #[vint bx, vint bY]] rfl (fun w => ?_) (fun w he hF => ?_) ?_
  · go_simp
  · exact (Cb.out w).mono fun e w'' ⟨he', hx⟩ => ⟨_, he', hx, rfl, fun h => by cases h⟩
  rintro _ _ _ rfl _
  simp only [Act.put, List.setIfInBounds_toArray, List.set_cons_succ, List.set_cons_zero]
  refine Cg.calm_value Cg.calm_mono_final (fun v w => ∃ b, v = .pointer (some ⟨b, 0, none⟩) ∧ Blk w b [vint 0, vint 0] ∧ W0.heap.size ≤ b) (fun _ w' w'' hR ⟨b, e, hh, hb⟩ => ⟨b, e, hh.ext (show Ext w' w'' from hR), hb⟩) rfl (fun w' hR _ => ⟨.pointer (some ⟨w'.heap.size, 0, none⟩), w'.alloc (.cells [vint 0, vint 0].toArray 58), by go_simp, (Ext.refl _).alloc _, ⟨_, rfl, Blk.new _ _, (show Ext W0 w' from hR).le⟩, fun _ => ⟨w'.heap.size, rfl, Nat.le_refl _, by simp⟩⟩) ?_
  rintro _ b8w b8he ⟨b8, rfl, b8h, b8b⟩ b8f
  simp only [Act.put, List.setIfInBounds_toArray, List.set_cons_succ, List.set_cons_zero]
  refine Cg.calm_value Cg.calm_mono_final (fun v w => ∃ b, v = .pointer (some ⟨b, 0, none⟩) ∧ Blk w b [vint 0, vint 0] ∧ W0.heap.size ≤ b) (fun _ w' w'' hR ⟨b, e, hh, hb⟩ => ⟨b, e, hh.ext (show Ext w' w'' from hR), hb⟩) rfl (fun w' hR _ => ⟨.pointer (some ⟨w'.heap.size, 0, none⟩), w'.alloc (.cells [vint 0, vint 0].toArray 58), by go_simp, (Ext.refl _).alloc _, ⟨_, rfl, Blk.new _ _, (show Ext W0 w' from hR).le⟩, fun _ => ⟨w'.heap.size, rfl, Nat.le_refl _, by simp⟩⟩) ?_
  rintro _ b9w b9he ⟨b9, rfl, b9h, b9b⟩ b9f
  simp only [Act.put, List.setIfInBounds_toArray, List.set_cons_succ, List.set_cons_zero]
  refine Cg.calm_nil fun w3 he3 hF => ?_
  have hne : b8 ≠ b9 := by have := b9f rfl (.pointer (some ⟨b8, 0, none⟩)) (.inr ⟨rfl, rfl⟩); simpa [pbV] using this
  have hne' : b9 ≠ b8 := fun e => hne e.symm
  obtain ⟨_, ee, k9, _⟩ := (hF.1 9).2 rfl
  cases ee
  obtain ⟨_, ee, k8, _⟩ := (hF.1 8).1.2 rfl
  cases ee
  have he3 : Ext W0 w3 := he3
  have l8 : w.heap.size + 1 + 1 + 1 + 1 < b8 := Nat.lt_of_lt_of_le hlo b8b
  have l9 : w.heap.size + 1 + 1 + 1 + 1 < b9 := Nat.lt_of_lt_of_le hlo b9b
  have Kr3 := Lib.hid (Kr.out.ext he3)
  have Kt3 := Lib.hid (Kt.out.ext he3)
  have Ko3 := Lib.hid (Ko.out.ext he3)
  have Hx3 := Lib.hid (Hx.out.trans he3)
  clear hF b8f b9f b8h b9h b8he b9he p0 p1 p2 p3 p4 h0 h1 h2 h3 o0 o1 o2 o3 o4 Kp Kt Kr Ko Hx he3 b8b b9b b8w b9w hlo Ca Cb
  have c80 := k8.c 0 _ rfl
  have c81 := k8.c 1 _ rfl
  have d8 := k8.f
  have c90 := k9.c 0 _ rfl
  have c91 := k9.c 1 _ rfl
  have d9 := k9.f
  have K8 := Lib.hid k8
  have K9 := Lib.hid k9
  have Hl := Lib.hid (And.intro l8 l9)
  clear k8 k9 l8 l9
  go_wp2
  have kt4 := (((Kt3.out.other (b := b8) (k := 0) (by have := Hl.out; omega) (vint ux)).other (b := b8) (k := 1) (by have := Hl.out; omega) (vint uy)).other (b := b9) (k := 0) (by have := Hl.out; omega) (vint vx)).other (b := b9) (k := 1) (by have := Hl.out; omega) (vint vy)
  have kr4 := (((Kr3.out.other (b := b8) (k := 0) (by have := Hl.out; omega) (vint ux)).other (b := b8) (k := 1) (by have := Hl.out; omega) (vint uy)).other (b := b9) (k := 0) (by have := Hl.out; omega) (vint vx)).other (b := b9) (k := 1) (by have := Hl.out; omega) (vint vy)
  have ko4 := (((Ko3.out.other (b := b8) (k := 0) (by have := Hl.out; omega) (vint ux)).other (b := b8) (k := 1) (by have := Hl.out; omega) (vint uy)).other (b := b9) (k := 0) (by have := Hl.out; omega) (vint vx)).other (b := b9) (k := 1) (by have := Hl.out; omega) (vint vy)
  have k84 := (((K8.out.set (j := 0) (by simp) (vint ux)).set (j := 1) (by simp) (vint uy)).other (b := b9) (k := 0) hne' (vint vx)).other (b := b9) (k := 1) hne' (vint vy)
  have k94 := (((K9.out.other (b := b8) (k := 0) hne (vint ux)).other (b := b8) (k := 1) hne (vint uy)).set (j := 0) (by simp) (vint vx)).set (j := 1) (by simp) (vint vy)
  have hx4 := (((Hx3.out.setCell (p := ⟨b8, 0, none⟩) (by have := Hl.out; simp only; omega) (vint ux)).setCell (p := ⟨b8, 1, none⟩) (by have := Hl.out; simp only; omega) (vint uy)).setCell (p := ⟨b9, 0, none⟩) (by have := Hl.out; simp only; omega) (vint vx)).setCell (p := ⟨b9, 1, none⟩) (by have := Hl.out; simp only; omega) (vint vy)
  simp only [List.set_cons_zero, List.set_cons_succ] at k84 k94
  generalize (((w3.setCell ⟨b8, 0, none⟩ (vint ux)).setCell ⟨b8, 1, none⟩ (vint uy)).setCell ⟨b9, 0, none⟩ (vint vx)).setCell ⟨b9, 1, none⟩ (vint vy) = w4 at kt4 kr4 ko4 k84 k94 hx4 ⊢
  clear c80 c81 c90 c91 d8 d9 K8 K9 Kt3 Kr3 Ko3 Hx3
  have c80 := k84.c 0 _ rfl
  have c90 := k94.c 0 _ rfl
  have c81 := k84.c 1 _ rfl
  have c91 := k94.c 1 _ rfl
  have t2c := kt4.c 2 _ rfl
  have o2 := ko4.c 2 _ rfl
  have o3 := ko4.c 3 _ rfl
  have fo := ko4.f
  have m2 : w.heap.size + 1 + 1 + 1 + 1 ≠ b8 := (by have := Hl.out; omega)
  have m3 : w.heap.size + 1 + 1 + 1 + 1 ≠ b9 := (by have := Hl.out; omega)
  have Kr4 := Lib.hid kr4
  have Ko4 := Lib.hid ko4
  have Hx4 := Lib.hid hx4
  clear kt4 kr4 ko4 k84 k94 hx4 hne hne'
  go_region
  have kr5 := (((Kr4.out.other (b := w.heap.size + 1 + 1 + 1 + 1) (k := 2) (by omega) (vint (tr * ux - vx))).other (b := w.heap.size + 1 + 1 + 1 + 1) (k := 3) (by omega) (vint (tr * uy - vy))).ext (Ext.refl _).drew)
  have ko5 := (((Ko4.out.set (j := 2) (by simp) (vint (tr * ux - vx))).set (j := 3) (by simp) (vint (tr * uy - vy))).ext (Ext.refl _).drew)
  have hx5 := ((Hx4.out.setCell (p := ⟨w.heap.size + 1 + 1 + 1 + 1, 2, none⟩) (by simp only; omega) (vint (tr * ux - vx))).setCell (p := ⟨w.heap.size + 1 + 1 + 1 + 1, 3, none⟩) (by simp only; omega) (vint (tr * uy - vy))).drew
  simp only [List.set_cons_zero, List.set_cons_succ] at ko5
  generalize ((w4.setCell ⟨w.heap.size + 1 + 1 + 1 + 1, 2, none⟩ (.int .i64 (tr * ux - vx))).setCell ⟨w.heap.size + 1 + 1 + 1 + 1, 3, none⟩ (.int .i64 (tr * uy - vy))).drew = w5 at kr5 ko5 hx5 ⊢
  clear c80 c81 c90 c91 t2c o2 o3 fo m2 m3 Kr4 Ko4 Hx4 f6 f7 sx sy Hl
  have o0 := ko5.at_ 0 rfl
  have o1 := ko5.at_ 1 rfl
  have o2 := ko5.at_ 2 rfl
  have o3 := ko5.at_ 3 rfl
  have o4 := ko5.at_ 4 rfl
  have Kr5 := Lib.hid kr5
  have Hx5 := Lib.hid hx5
  clear kr5 ko5 hx5
  go_wp2_with (go_at_call 136; refine (Cd.out _ _ (Blk.new (W := w5) #[vint (ta * P - tb * Q), vint (tb * P + ta * Q), vint (tr * ux - vx), vint (tr * uy - vy), vint (tr * D)] 3)).mono ?_; rintro e w6 ⟨rfl, hx6⟩)
  have hx56 : Ext w5 w6 := Ext.trans ((Ext.refl _).alloc _) hx6
  have q0 : ∀ w', Ext w6 w' → _ := fun w' he => o0 w' (hx56.trans he)
  have q1 : ∀ w', Ext w6 w' → _ := fun w' he => o1 w' (hx56.trans he)
  have q2 : ∀ w', Ext w6 w' → _ := fun w' he => o2 w' (hx56.trans he)
  have q3 : ∀ w', Ext w6 w' → _ := fun w' he => o3 w' (hx56.trans he)
  have q4 : ∀ w', Ext w6 w' → _ := fun w' he => o4 w' (hx56.trans he)
  have Kr6 := Lib.hid (Kr5.out.ext hx56)
  have Hx6 := Lib.hid (Hx5.out.trans hx56)
  clear Cd hx6 Kr5 Hx5 hx56 o0 o1 o2 o3 o4
  have v1e := W1.out
  have v2e := W2.out
  have v3e := W3.out
  have v4e := W4.out
  have v5e := W5.out
  have z1 : ((G : Int) = 0) = False := by simp; omega
  refine wp_region_calm 20 (fun _ _ _ _ => True) (fun _ _ _ _ _ _ h => h) (by kernel_rfl) (by kernel_rfl) ?_
  simp only [List.take_succ_cons, List.take_zero, List.drop_succ_cons, List.drop_zero]
  refine calm_quiet calm_mono_final 20 (by kernel_rfl) ?_
  simp only [List.take_succ_cons, List.take_zero, List.drop_succ_cons, List.drop_zero]
  repeat (go_big_quiet_step (fail))
  refine wpQuiet_nil ?_
  refine calm_nil fun w7 hx7 _ => ?_
  have kr7 := Kr6.out.ext hx7
  have r0c := kr7.at_ 0 rfl
  have g0f := kr7.free 0
  have r1c := kr7.at_ 1 rfl
  have g1f := kr7.free 1
  have r2c := kr7.at_ 2 rfl
  have g2f := kr7.free 2
  have r3c := kr7.at_ 3 rfl
  have g3f := kr7.free 3
  have r4c := kr7.at_ 4 rfl
  have g4f := kr7.free 4
  clear v1e v2e v3e v4e v5e z1 q0 q1 q2 q3 q4
  go_wp2
  (try simp only [Exit.inBlock, Exit.then])
  have kz := (((((kr7.set (j := 0) (by simp) (.int .i64 lp)).set (j := 1) (by simp) (.int .i64 lq)).set (j := 2) (by simp) (.int .i64 lx)).set (j := 3) (by simp) (.int .i64 ly)).set (j := 4) (by simp) (.int .i64 ld))
  refine bodyPost_ret (results_pose rfl _ _ rfl kz) rfl ⟨rfl, ?_⟩
  exact ((((((Hx6.out.trans hx7).setCell (by simp only; omega) _).setCell (by simp only; omega) _).setCell (by simp only; omega) _).setCell (by simp only; omega) _).setCell (by simp only; omega) _)
theorem follow_any (p : Ps) (h : Hg) (n k : Nat) (w : World) (hp : PoseOk p k) (hk : k ≤ 2) (hh : hingeB h) (hn : n < 36) :
    Calls Tryz.prog 93 #[p.val, h.val, tval (trn n)] w fun e w' => e = .returned (flw p h (trn n)).val ∧ Ext w w' := by
  have hr := pose_mono (raw_ok hp hh hn) (m := 3) (by omega)
  have ho := psOk (pose_mono (trn_ok hp hn) (m := 3) (by omega))
  have hp3 := psOk (pose_mono hp (m := 3) (by omega))
  have hrs := psOk hr
  have hls := psOk hr.low
  have hg0 := g5_pos hr.d0
  have ca := fun w' => place_any p h.a w' hp3 hh.1
  have cb := fun w' => place_any (trnP p (trn n)) h.b w' ho hh.2.1
  have sa := plc_small (pose_mono hp (m := 3) (by omega)) hh.1
  have sb := plc_small (pose_mono (trn_ok hp hn) (m := 3) (by omega)) hh.2.1
  have cd := fun (w' : World) (g : Nat) (hb : Blk w' g [vint (raw p h (trn n)).p, vint (raw p h (trn n)).q, vint (raw p h (trn n)).x, vint (raw p h (trn n)).y, vint (raw p h (trn n)).d]) => divisor_any (some ⟨g, 0, none⟩) 5 [(raw p h (trn n)).p, (raw p h (trn n)).q, (raw p h (trn n)).x, (raw p h (trn n)).y, (raw p h (trn n)).d] w' (ints_five hb) (by simp) (fun k hk => by
    have b1 := hrs.bp
    have b2 := hrs.bq
    have b3 := hrs.bx
    have b4 := hrs.bz
    have b5 := hrs.bd
    rcases (by simp at hk; omega : k = 0 ∨ k = 1 ∨ k = 2 ∨ k = 3 ∨ k = 4) with rfl | rfl | rfl | rfl | rfl <;> simp only [getI, List.getElem?_cons_zero, List.getElem?_cons_succ, Option.getD_some] <;> omega)
  rw [gN_five] at cd
  obtain ⟨e1, e2, e3, e4, e5⟩ := low_eq (raw p h (trn n))
  have w1 := wrap_small (quo_low hg0 e1) (by have := hls.bp; omega) (by have := hls.bp; omega)
  have w2 := wrap_small (quo_low hg0 e2) (by have := hls.bq; omega) (by have := hls.bq; omega)
  have w3 := wrap_small (quo_low hg0 e3) (by have := hls.bx; omega) (by have := hls.bx; omega)
  have w4 := wrap_small (quo_low hg0 e4) (by have := hls.bz; omega) (by have := hls.bz; omega)
  have w5 := wrap_small (quo_low hg0 e5) (by have := hls.bd; omega) (by have := hls.bd; omega)
  obtain ⟨t1, t2, t3⟩ := trn_small n hn
  have f1 := prod_le t1.1 t1.2 hp3.bp.1 hp3.bp.2
  have f2 := prod_le t2.1 t2.2 hp3.bq.1 hp3.bq.2
  have f3 := prod_le t2.1 t2.2 hp3.bp.1 hp3.bp.2
  have f4 := prod_le t1.1 t1.2 hp3.bq.1 hp3.bq.2
  have f5 := prod_le (a := (trn n).2.2) (d := 25) (s := p.d) (m := 15625) (by omega) (by omega) (by have := hp3.bd; omega) hp3.bd.2
  have f6 := prod_le (a := (trn n).2.2) (d := 25) (s := (plc p h.a).x) (m := 10937500) (by omega) (by omega) sa.1.1 sa.1.2
  have f7 := prod_le (a := (trn n).2.2) (d := 25) (s := (plc p h.a).y) (m := 10937500) (by omega) (by omega) sa.2.1 sa.2.2
  exact follow_core p.p p.q p.x p.y p.d (trn n).1 (trn n).2.1 (trn n).2.2 h.a.x h.a.y h.b.x h.b.y h.ang (plc p h.a).x (plc p h.a).y (plc (trnP p (trn n)) h.b).x (plc (trnP p (trn n)) h.b).y _ _ _ _ _ (g5 (raw p h (trn n))) w (by omega) f1 f2 f3 f4 f5 f6 f7 sb.1 sb.2 ca cb cd w1 w2 w3 w4 w5
end Go.Proofs.YtebkhdhhajjhfaaGreat
