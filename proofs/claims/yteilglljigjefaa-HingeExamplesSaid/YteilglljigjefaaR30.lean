/- The outright laws' examples answer as they should: alive. -/
import Derived.Test.YteilglljigjefaaR29
namespace Go.Proofs.Yteilglljigjefaa
open Go.RowKit
theorem TellsOk.ext {n : Nat} {w w' : World} {v : Value} (h : TellsOk n w v) (he : Ext w w') : TellsOk n w' v := fun w2 A B hx hL => h w2 A B (he.trans hx) hL
set_option maxRecDepth 100000 in
set_option maxHeartbeats 16000000 in
theorem alive_any (w : World) : Calls Try.prog 46 #[] w fun e w' => e = .returned (.bool true) ∧ Ext w w' := by
  have hw := Ext.refl w
  go_enter Try.func46, Try.ntmps46
  go_wp2_with (first
    | (go_at_call 19; refine (ex_closeC A12 B12 w12 hL12).mono ?_; rintro e w13 ⟨X13, x13, rfl, hI, hx⟩; replace hP := hP.ext hx; replace hS := hS.ext hx; replace hT := hT.ext hx; replace o0 : ∀ w', Ext _ w' → _ := fun w' he => o0 w' (hx.trans he); replace o1 : ∀ w', Ext _ w' → _ := fun w' he => o1 w' (hx.trans he); replace o2 : ∀ w', Ext _ w' → _ := fun w' he => o2 w' (hx.trans he); replace o3 : ∀ w', Ext _ w' → _ := fun w' he => o3 w' (hx.trans he); replace o4 : ∀ w', Ext _ w' → _ := fun w' he => o4 w' (hx.trans he); replace o5 : ∀ w', Ext _ w' → _ := fun w' he => o5 w' (hx.trans he); replace hU := hU.ext hx; replace q0 : ∀ w', Ext _ w' → _ := fun w' he => q0 w' (hx.trans he); replace q1 : ∀ w', Ext _ w' → _ := fun w' he => q1 w' (hx.trans he); replace q2 : ∀ w', Ext _ w' → _ := fun w' he => q2 w' (hx.trans he); replace q3 : ∀ w', Ext _ w' → _ := fun w' he => q3 w' (hx.trans he); replace q4 : ∀ w', Ext _ w' → _ := fun w' he => q4 w' (hx.trans he); replace q5 : ∀ w', Ext _ w' → _ := fun w' he => q5 w' (hx.trans he); have hw13 := hw.trans hx; replace hw := hw13; clear hx hw13)
    | (go_at_call 48; refine (two_link 9 w11).mono ?_; rintro e w12 ⟨A12, B12, rfl, hL12, hx⟩; replace hP := hP.ext hx; replace hS := hS.ext hx; replace hT := hT.ext hx; replace o0 : ∀ w', Ext _ w' → _ := fun w' he => o0 w' (hx.trans he); replace o1 : ∀ w', Ext _ w' → _ := fun w' he => o1 w' (hx.trans he); replace o2 : ∀ w', Ext _ w' → _ := fun w' he => o2 w' (hx.trans he); replace o3 : ∀ w', Ext _ w' → _ := fun w' he => o3 w' (hx.trans he); replace o4 : ∀ w', Ext _ w' → _ := fun w' he => o4 w' (hx.trans he); replace o5 : ∀ w', Ext _ w' → _ := fun w' he => o5 w' (hx.trans he); replace hU := hU.ext hx; replace q0 : ∀ w', Ext _ w' → _ := fun w' he => q0 w' (hx.trans he); replace q1 : ∀ w', Ext _ w' → _ := fun w' he => q1 w' (hx.trans he); replace q2 : ∀ w', Ext _ w' → _ := fun w' he => q2 w' (hx.trans he); replace q3 : ∀ w', Ext _ w' → _ := fun w' he => q3 w' (hx.trans he); replace q4 : ∀ w', Ext _ w' → _ := fun w' he => q4 w' (hx.trans he); replace q5 : ∀ w', Ext _ w' → _ := fun w' he => q5 w' (hx.trans he); have hw12 := hw.trans hx; replace hw := hw12; clear hx hw12)
    | (go_at_call 35; refine (ex_gapC A10 B10 w10 hL10).mono ?_; rintro e w11 ⟨rfl, hx⟩; replace hP := hP.ext hx; replace hS := hS.ext hx; replace hT := hT.ext hx; replace o0 : ∀ w', Ext _ w' → _ := fun w' he => o0 w' (hx.trans he); replace o1 : ∀ w', Ext _ w' → _ := fun w' he => o1 w' (hx.trans he); replace o2 : ∀ w', Ext _ w' → _ := fun w' he => o2 w' (hx.trans he); replace o3 : ∀ w', Ext _ w' → _ := fun w' he => o3 w' (hx.trans he); replace o4 : ∀ w', Ext _ w' → _ := fun w' he => o4 w' (hx.trans he); replace o5 : ∀ w', Ext _ w' → _ := fun w' he => o5 w' (hx.trans he); replace hU := hU.ext hx; replace q0 : ∀ w', Ext _ w' → _ := fun w' he => q0 w' (hx.trans he); replace q1 : ∀ w', Ext _ w' → _ := fun w' he => q1 w' (hx.trans he); replace q2 : ∀ w', Ext _ w' → _ := fun w' he => q2 w' (hx.trans he); replace q3 : ∀ w', Ext _ w' → _ := fun w' he => q3 w' (hx.trans he); replace q4 : ∀ w', Ext _ w' → _ := fun w' he => q4 w' (hx.trans he); replace q5 : ∀ w', Ext _ w' → _ := fun w' he => q5 w' (hx.trans he); have hw11 := hw.trans hx; replace hw := hw11; clear hx hw11)
    | (go_at_call 48; refine (two_link 2 (w9.alloc (.cells #[.bool u0, .int .i64 u1, .int .i64 u2, .int .i64 u3, .int .i64 u4, .slice u5 u6 u7] 67))).mono ?_; rintro e w10 ⟨A10, B10, rfl, hL10, hx⟩; replace hP := hP.ext hx; replace hS := hS.ext hx; replace hT := hT.ext hx; replace o0 : ∀ w', Ext _ w' → _ := fun w' he => o0 w' (hx.trans he); replace o1 : ∀ w', Ext _ w' → _ := fun w' he => o1 w' (hx.trans he); replace o2 : ∀ w', Ext _ w' → _ := fun w' he => o2 w' (hx.trans he); replace o3 : ∀ w', Ext _ w' → _ := fun w' he => o3 w' (hx.trans he); replace o4 : ∀ w', Ext _ w' → _ := fun w' he => o4 w' (hx.trans he); replace o5 : ∀ w', Ext _ w' → _ := fun w' he => o5 w' (hx.trans he); replace hU := hU.ext hx; replace q0 : ∀ w', Ext _ w' → _ := fun w' he => q0 w' (hx.trans he); replace q1 : ∀ w', Ext _ w' → _ := fun w' he => q1 w' (hx.trans he); replace q2 : ∀ w', Ext _ w' → _ := fun w' he => q2 w' (hx.trans he); replace q3 : ∀ w', Ext _ w' → _ := fun w' he => q3 w' (hx.trans he); replace q4 : ∀ w', Ext _ w' → _ := fun w' he => q4 w' (hx.trans he); replace q5 : ∀ w', Ext _ w' → _ := fun w' he => q5 w' (hx.trans he); have hw10 := hw.trans hx; replace hw := hw10; clear hx hw10)
    | (go_at_call 42; refine (ex_clashC (n := 3) (by decide) ex_clash3 A8 B8 w8 hL8).mono ?_; rintro e w9 ⟨u0, u1, u2, u3, u4, u5, u6, u7, rfl, hU, hx⟩; replace hP := hP.ext hx; replace hS := hS.ext hx; replace hT := hT.ext hx; replace o0 : ∀ w', Ext _ w' → _ := fun w' he => o0 w' (hx.trans he); replace o1 : ∀ w', Ext _ w' → _ := fun w' he => o1 w' (hx.trans he); replace o2 : ∀ w', Ext _ w' → _ := fun w' he => o2 w' (hx.trans he); replace o3 : ∀ w', Ext _ w' → _ := fun w' he => o3 w' (hx.trans he); replace o4 : ∀ w', Ext _ w' → _ := fun w' he => o4 w' (hx.trans he); replace o5 : ∀ w', Ext _ w' → _ := fun w' he => o5 w' (hx.trans he); have hw9 := hw.trans hx; replace hw := hw9; clear hx hw9; have hx := (Ext.refl w9).alloc (.cells #[.bool u0, .int .i64 u1, .int .i64 u2, .int .i64 u3, .int .i64 u4, .slice u5 u6 u7] 67); replace hP := hP.ext hx; replace hS := hS.ext hx; replace hT := hT.ext hx; replace o0 : ∀ w', Ext _ w' → _ := fun w' he => o0 w' (hx.trans he); replace o1 : ∀ w', Ext _ w' → _ := fun w' he => o1 w' (hx.trans he); replace o2 : ∀ w', Ext _ w' → _ := fun w' he => o2 w' (hx.trans he); replace o3 : ∀ w', Ext _ w' → _ := fun w' he => o3 w' (hx.trans he); replace o4 : ∀ w', Ext _ w' → _ := fun w' he => o4 w' (hx.trans he); replace o5 : ∀ w', Ext _ w' → _ := fun w' he => o5 w' (hx.trans he); replace hU := hU.ext hx; replace hw := hw.trans hx; clear hx; have ko := (Blk.new (W := w9) #[.bool u0, .int .i64 u1, .int .i64 u2, .int .i64 u3, .int .i64 u4, .slice u5 u6 u7] 67); have q0 := ko.at_ 0 rfl; have q1 := ko.at_ 1 rfl; have q2 := ko.at_ 2 rfl; have q3 := ko.at_ 3 rfl; have q4 := ko.at_ 4 rfl; have q5 := ko.at_ 5 rfl; clear ko)
    | (go_at_call 48; refine (two_link 3 (w7.alloc (.cells #[.bool v0, .int .i64 v1, .int .i64 v2, .int .i64 v3, .int .i64 v4, .slice v5 v6 v7] 67))).mono ?_; rintro e w8 ⟨A8, B8, rfl, hL8, hx⟩; replace hP := hP.ext hx; replace hS := hS.ext hx; replace hT := hT.ext hx; replace o0 : ∀ w', Ext _ w' → _ := fun w' he => o0 w' (hx.trans he); replace o1 : ∀ w', Ext _ w' → _ := fun w' he => o1 w' (hx.trans he); replace o2 : ∀ w', Ext _ w' → _ := fun w' he => o2 w' (hx.trans he); replace o3 : ∀ w', Ext _ w' → _ := fun w' he => o3 w' (hx.trans he); replace o4 : ∀ w', Ext _ w' → _ := fun w' he => o4 w' (hx.trans he); replace o5 : ∀ w', Ext _ w' → _ := fun w' he => o5 w' (hx.trans he); have hw8 := hw.trans hx; replace hw := hw8; clear hx hw8)
    | (go_at_call 42; refine (ex_clashC (n := 9) (by decide) ex_clash9 A6 B6 w6 hL6).mono ?_; rintro e w7 ⟨v0, v1, v2, v3, v4, v5, v6, v7, rfl, hT, hx⟩; replace hP := hP.ext hx; replace hS := hS.ext hx; have hw7 := hw.trans hx; replace hw := hw7; clear hx hw7; have hx := (Ext.refl w7).alloc (.cells #[.bool v0, .int .i64 v1, .int .i64 v2, .int .i64 v3, .int .i64 v4, .slice v5 v6 v7] 67); replace hP := hP.ext hx; replace hS := hS.ext hx; replace hT := hT.ext hx; replace hw := hw.trans hx; clear hx; have ko := (Blk.new (W := w7) #[.bool v0, .int .i64 v1, .int .i64 v2, .int .i64 v3, .int .i64 v4, .slice v5 v6 v7] 67); have o0 := ko.at_ 0 rfl; have o1 := ko.at_ 1 rfl; have o2 := ko.at_ 2 rfl; have o3 := ko.at_ 3 rfl; have o4 := ko.at_ 4 rfl; have o5 := ko.at_ 5 rfl; clear ko)
    | (go_at_call 48; refine (two_link 9 w5).mono ?_; rintro e w6 ⟨A6, B6, rfl, hL6, hx⟩; replace hP := hP.ext hx; replace hS := hS.ext hx; have hw6 := hw.trans hx; replace hw := hw6; clear hx hw6)
    | (go_at_call 32; refine (ex_cornC A4 B4 w4 hL4).mono ?_; rintro e w5 ⟨X5, x5, rfl, hS, hx⟩; replace hP := hP.ext hx; have hw5 := hw.trans hx; replace hw := hw5; clear hx hw5)
    | (go_at_call 48; refine (two_link 9 w3).mono ?_; rintro e w4 ⟨A4, B4, rfl, hL4, hx⟩; replace hP := hP.ext hx; have hw4 := hw.trans hx; replace hw := hw4; clear hx hw4)
    | (go_at_call 27; refine (ex_posesC A2 B2 w2 hL2).mono ?_; rintro e w3 ⟨X3, x3, rfl, hP, hx⟩; have hw3 := hw.trans hx; replace hw := hw3; clear hx hw3)
    | (go_at_call 48; refine (two_link 9 w1).mono ?_; rintro e w2 ⟨A2, B2, rfl, hL2, hx⟩; have hw2 := hw.trans hx; replace hw := hw2; clear hx hw2)
    | (go_at_call 23; refine (ex_angle w).mono ?_; rintro e w1 ⟨rfl, hx⟩; have hw1 := hw.trans hx; replace hw := hw1; clear hx hw1))
  have HP := Lib.hid hP
  have HS := Lib.hid hS
  have HT := Lib.hid hT
  have HU := Lib.hid hU
  have HI := Lib.hid hI
  have Hw := Lib.hid hw
  clear hP hS hT hU hI hw hL2 hL4 hL6 hL8 hL10 hL12
  generalize w13 = W0 at *
  refine Cg.wp_region_calm (p := Cg.extPre) (fr := (fun _ => false)) 87 (fun j _ v w => (j = 23 → v = .bool true) ∧ (j = 40 → v = .bool true) ∧ (j = 47 → ∃ A B, v = .agg #[.slice A 2 2, .slice B 1 1] ∧ Lk w A twL B (twH 9)) ∧ (j = 49 → v = .int .i64 0) ∧ (j = 57 → ∃ A B, v = .agg #[.slice A 2 2, .slice B 1 1] ∧ Lk w A twL B (twH 3)) ∧ (j = 59 → v = .int .i64 0) ∧ (j = 85 → v = .bool true)) (fun j args v w w' hR h => ⟨h.1, h.2.1, fun e => (by obtain ⟨A, B, e1, e2⟩ := h.2.2.1 e; exact ⟨A, B, e1, e2.ext hR⟩), h.2.2.2.1, fun e => (by obtain ⟨A, B, e1, e2⟩ := h.2.2.2.2.1 e; exact ⟨A, B, e1, e2.ext hR⟩), h.2.2.2.2.2.1, h.2.2.2.2.2.2⟩) (by kernel_rfl) (by kernel_rfl) ?_
  simp only [List.append_eq, List.cons_append, List.nil_append, List.take_succ_cons, List.take_zero, List.drop_succ_cons, List.drop_zero]
  refine Cg.calm_quiet Cg.calm_mono_final W0 (fun _ h => h) 20 (by kernel_rfl) ?_
  simp only [List.take_succ_cons, List.take_zero, List.drop_succ_cons, List.drop_zero]
  repeat (go_big_quiet_step (fail))
  refine wpQuiet_nil ?_
  refine Cg.calm_value Cg.calm_mono_final (fun v _ => v = (.agg #[.int .i64 1, .int .i64 0, .int .i64 0, .int .i64 0, .int .i64 1]) ∧ True) (fun _ _ _ _ h => h) rfl (fun w' _ _ => ⟨(.agg #[.int .i64 1, .int .i64 0, .int .i64 0, .int .i64 0, .int .i64 1]), w', by go_simp, Ext.refl _, ⟨rfl, trivial⟩, fun hf => by cases hf⟩) ?_
  rintro _ _ _ ⟨rfl, _⟩ _
  simp only [Act.put, List.setIfInBounds_toArray, List.set_cons_succ, List.set_cons_zero, List.length_cons, List.length_nil, Nat.zero_add, Nat.reduceAdd]
  refine Cg.calm_value Cg.calm_mono_final (fun v _ => v = (.agg #[.int .i64 3, .int .i64 4, .int .i64 20, .int .i64 0, .int .i64 5]) ∧ True) (fun _ _ _ _ h => h) rfl (fun w' _ _ => ⟨(.agg #[.int .i64 3, .int .i64 4, .int .i64 20, .int .i64 0, .int .i64 5]), w', by go_simp, Ext.refl _, ⟨rfl, trivial⟩, fun hf => by cases hf⟩) ?_
  rintro _ _ _ ⟨rfl, _⟩ _
  simp only [Act.put, List.setIfInBounds_toArray, List.set_cons_succ, List.set_cons_zero, Nat.reduceAdd]
  refine Cg.calm_value Cg.calm_mono_final (fun v w => ∃ b, v = .slice (some ⟨b, 0, none⟩) 2 2 ∧ w.heap[b]? = some (Obj.cells #[.int .i64 1, .int .i64 0, .int .i64 0, .int .i64 0, .int .i64 1, .int .i64 3, .int .i64 4, .int .i64 20, .int .i64 0, .int .i64 5] 82)) (fun _ w' w'' hR ⟨b, e, hh⟩ => ⟨b, e, (show Ext w' w'' from hR).heap hh⟩) rfl (fun w' hR _ => ⟨.slice (some ⟨w'.heap.size, 0, none⟩) 2 2, w'.alloc (.cells #[.int .i64 1, .int .i64 0, .int .i64 0, .int .i64 0, .int .i64 1, .int .i64 3, .int .i64 4, .int .i64 20, .int .i64 0, .int .i64 5] 82), by go_simp, (Ext.refl w').alloc _, ⟨_, rfl, heap_alloc_new _ _⟩, fun hf => by cases hf⟩) ?_
  rintro _ _ _ ⟨bp, rfl, _⟩ _
  simp only [Act.put, List.setIfInBounds_toArray, List.set_cons_succ, List.set_cons_zero, Nat.reduceAdd]
  refine Cg.calm_call Cg.calm_mono_final 29 #[.slice X3 2 x3, .slice (some ⟨bp, 0, none⟩) 2 2] rfl (fun w => ?_) (fun w' hR hF => ?_) ?_
  · go_simp
  · obtain ⟨b', eb, hb⟩ := (hF 22 (by kernel_rfl)).2 rfl
    simp only [Value.slice.injEq, Option.some.injEq, Addr.mk.injEq, and_true] at eb
    subst eb
    exact (same_poses X3 (some ⟨bp, 0, none⟩) x3 2 [⟨1, 0, 0, 0, 1⟩, ⟨3, 4, 20, 0, 5⟩] w' (HP.out.ext hR) (row_heap hb) (by decide)).mono fun e w'' ⟨he', hx⟩ => ⟨_, he', hx, ⟨fun _ => rfl, fun h => (by cases h), fun h => (by cases h), fun h => (by cases h), fun h => (by cases h), fun h => (by cases h), fun h => (by cases h)⟩, fun hf => by cases hf⟩
  rintro _ _ _ h _
  cases h.1 rfl
  simp only [Act.put, List.setIfInBounds_toArray, List.set_cons_succ, List.set_cons_zero, Nat.reduceAdd]
  refine Cg.calm_quiet Cg.calm_mono_final W0 (fun _ h => h) 11 (by kernel_rfl) ?_
  simp only [List.take_succ_cons, List.take_zero, List.drop_succ_cons, List.drop_zero]
  repeat (go_big_quiet_step (fail))
  refine wpQuiet_nil ?_
  refine Cg.calm_value Cg.calm_mono_final (fun v _ => v = (.agg #[.int .i64 20, .int .i64 0]) ∧ True) (fun _ _ _ _ h => h) rfl (fun w' _ _ => ⟨(.agg #[.int .i64 20, .int .i64 0]), w', by go_simp, Ext.refl _, ⟨rfl, trivial⟩, fun hf => by cases hf⟩) ?_
  rintro _ _ _ ⟨rfl, _⟩ _
  simp only [Act.put, List.setIfInBounds_toArray, List.set_cons_succ, List.set_cons_zero, List.length_cons, List.length_nil, Nat.zero_add, Nat.reduceAdd]
  refine Cg.calm_value Cg.calm_mono_final (fun v _ => v = (.agg #[.int .i64 32, .int .i64 16]) ∧ True) (fun _ _ _ _ h => h) rfl (fun w' _ _ => ⟨(.agg #[.int .i64 32, .int .i64 16]), w', by go_simp, Ext.refl _, ⟨rfl, trivial⟩, fun hf => by cases hf⟩) ?_
  rintro _ _ _ ⟨rfl, _⟩ _
  simp only [Act.put, List.setIfInBounds_toArray, List.set_cons_succ, List.set_cons_zero, Nat.reduceAdd]
  refine Cg.calm_value Cg.calm_mono_final (fun v _ => v = (.agg #[.int .i64 16, .int .i64 28]) ∧ True) (fun _ _ _ _ h => h) rfl (fun w' _ _ => ⟨(.agg #[.int .i64 16, .int .i64 28]), w', by go_simp, Ext.refl _, ⟨rfl, trivial⟩, fun hf => by cases hf⟩) ?_
  rintro _ _ _ ⟨rfl, _⟩ _
  simp only [Act.put, List.setIfInBounds_toArray, List.set_cons_succ, List.set_cons_zero, Nat.reduceAdd]
  refine Cg.calm_value Cg.calm_mono_final (fun v _ => v = (.agg #[.int .i64 4, .int .i64 12]) ∧ True) (fun _ _ _ _ h => h) rfl (fun w' _ _ => ⟨(.agg #[.int .i64 4, .int .i64 12]), w', by go_simp, Ext.refl _, ⟨rfl, trivial⟩, fun hf => by cases hf⟩) ?_
  rintro _ _ _ ⟨rfl, _⟩ _
  simp only [Act.put, List.setIfInBounds_toArray, List.set_cons_succ, List.set_cons_zero, Nat.reduceAdd]
  refine Cg.calm_value Cg.calm_mono_final (fun v w => ∃ b, v = .slice (some ⟨b, 0, none⟩) 4 4 ∧ w.heap[b]? = some (Obj.cells #[.int .i64 20, .int .i64 0, .int .i64 32, .int .i64 16, .int .i64 16, .int .i64 28, .int .i64 4, .int .i64 12] 27)) (fun _ w' w'' hR ⟨b, e, hh⟩ => ⟨b, e, (show Ext w' w'' from hR).heap hh⟩) rfl (fun w' hR _ => ⟨.slice (some ⟨w'.heap.size, 0, none⟩) 4 4, w'.alloc (.cells #[.int .i64 20, .int .i64 0, .int .i64 32, .int .i64 16, .int .i64 16, .int .i64 28, .int .i64 4, .int .i64 12] 27), by go_simp, (Ext.refl w').alloc _, ⟨_, rfl, heap_alloc_new _ _⟩, fun hf => by cases hf⟩) ?_
  rintro _ _ _ ⟨bs, rfl, _⟩ _
  simp only [Act.put, List.setIfInBounds_toArray, List.set_cons_succ, List.set_cons_zero, Nat.reduceAdd]
  refine Cg.calm_call Cg.calm_mono_final 34 #[.slice X5 4 x5, .slice (some ⟨bs, 0, none⟩) 4 4] rfl (fun w => ?_) (fun w' hR hF => ?_) ?_
  · go_simp
  · obtain ⟨b', eb, hb⟩ := (hF 39 (by kernel_rfl)).2 rfl
    simp only [Value.slice.injEq, Option.some.injEq, Addr.mk.injEq, and_true] at eb
    subst eb
    exact (same_spots X5 (some ⟨bs, 0, none⟩) x5 4 [⟨20, 0⟩, ⟨32, 16⟩, ⟨16, 28⟩, ⟨4, 12⟩] w' (HS.out.ext hR) (row_heap hb) (by decide)).mono fun e w'' ⟨he', hx⟩ => ⟨_, he', hx, ⟨fun h => (by cases h), fun _ => rfl, fun h => (by cases h), fun h => (by cases h), fun h => (by cases h), fun h => (by cases h), fun h => (by cases h)⟩, fun hf => by cases hf⟩
  rintro _ _ _ h _
  cases h.2.1 rfl
  simp only [Act.put, List.setIfInBounds_toArray, List.set_cons_succ, List.set_cons_zero, Nat.reduceAdd]
  refine Cg.calm_quiet Cg.calm_mono_final W0 (fun _ h => h) 6 (by kernel_rfl) ?_
  simp only [List.take_succ_cons, List.take_zero, List.drop_succ_cons, List.drop_zero]
  repeat (go_big_quiet_step (fail))
  refine wpQuiet_nil ?_
  refine Cg.calm_call Cg.calm_mono_final 48 #[.int .i64 9] rfl (fun w => ?_) (fun w' hR hF => ?_) ?_
  · go_simp
  · exact (two_link 9 w').mono fun e w'' ⟨A, B, he', hL, hx⟩ => ⟨_, he', hx, ⟨fun h => (by cases h), fun h => (by cases h), fun _ => ⟨A, B, rfl, hL⟩, fun h => (by cases h), fun h => (by cases h), fun h => (by cases h), fun h => (by cases h)⟩, fun hf => by cases hf⟩
  rintro _ _ _ h _
  obtain ⟨Ap, Bp, rfl, _⟩ := h.2.2.1 rfl
  simp only [Act.put, List.setIfInBounds_toArray, List.set_cons_succ, List.set_cons_zero, List.length_cons, List.length_nil, Nat.zero_add, Nat.reduceAdd]
  refine Cg.calm_quiet Cg.calm_mono_final W0 (fun _ h => h) 1 (by kernel_rfl) ?_
  simp only [List.take_succ_cons, List.take_zero, List.drop_succ_cons, List.drop_zero]
  repeat (go_big_quiet_step (fail))
  refine wpQuiet_nil ?_
  refine Cg.calm_call Cg.calm_mono_final 44 #[.agg #[.slice Ap 2 2, .slice Bp 1 1], .int .i64 0, .int .i64 1, .agg #[.bool v0, .int .i64 v1, .int .i64 v2, .int .i64 v3, .int .i64 v4, .slice v5 v6 v7]] rfl (fun w => ?_) (fun w' hR hF => ?_) ?_
  · go_simp
  · obtain ⟨A', B', eL, hL⟩ := (((hF 47 (by kernel_rfl)).2 rfl).2.2.1) (by trivial)
    simp only [Value.agg.injEq, Array.mk.injEq, List.cons.injEq, Value.slice.injEq, and_true] at eL
    obtain ⟨rfl, rfl⟩ := eL
    exact (HT.out w' _ _ hR hL).mono fun e w'' ⟨he', hx⟩ => ⟨_, he', hx, ⟨fun h => (by cases h), fun h => (by cases h), fun h => (by cases h), fun _ => rfl, fun h => (by cases h), fun h => (by cases h), fun h => (by cases h)⟩, fun hf => by cases hf⟩
  rintro _ _ _ h _
  cases h.2.2.2.1 rfl
  simp only [Act.put, List.setIfInBounds_toArray, List.set_cons_succ, List.set_cons_zero, List.length_cons, List.length_nil, Nat.zero_add, Nat.reduceAdd]
  refine Cg.calm_quiet Cg.calm_mono_final W0 (fun _ h => h) 7 (by kernel_rfl) ?_
  simp only [List.take_succ_cons, List.take_zero, List.drop_succ_cons, List.drop_zero]
  repeat (go_big_quiet_step (fail))
  refine wpQuiet_nil ?_
  refine Cg.calm_call Cg.calm_mono_final 48 #[.int .i64 3] rfl (fun w => ?_) (fun w' hR hF => ?_) ?_
  · go_simp
  · exact (two_link 3 w').mono fun e w'' ⟨A, B, he', hL, hx⟩ => ⟨_, he', hx, ⟨fun h => (by cases h), fun h => (by cases h), fun h => (by cases h), fun h => (by cases h), fun _ => ⟨A, B, rfl, hL⟩, fun h => (by cases h), fun h => (by cases h)⟩, fun hf => by cases hf⟩
  rintro _ _ _ h _
  obtain ⟨Aq, Bq, rfl, _⟩ := h.2.2.2.2.1 rfl
  simp only [Act.put, List.setIfInBounds_toArray, List.set_cons_succ, List.set_cons_zero, List.length_cons, List.length_nil, Nat.zero_add, Nat.reduceAdd]
  refine Cg.calm_quiet Cg.calm_mono_final W0 (fun _ h => h) 1 (by kernel_rfl) ?_
  simp only [List.take_succ_cons, List.take_zero, List.drop_succ_cons, List.drop_zero]
  repeat (go_big_quiet_step (fail))
  refine wpQuiet_nil ?_
  refine Cg.calm_call Cg.calm_mono_final 44 #[.agg #[.slice Aq 2 2, .slice Bq 1 1], .int .i64 0, .int .i64 1, .agg #[.bool u0, .int .i64 u1, .int .i64 u2, .int .i64 u3, .int .i64 u4, .slice u5 u6 u7]] rfl (fun w => ?_) (fun w' hR hF => ?_) ?_
  · go_simp
  · obtain ⟨A', B', eL, hL⟩ := (((hF 57 (by kernel_rfl)).2 rfl).2.2.2.2.1) (by trivial)
    simp only [Value.agg.injEq, Array.mk.injEq, List.cons.injEq, Value.slice.injEq, and_true] at eL
    obtain ⟨rfl, rfl⟩ := eL
    exact (HU.out w' _ _ hR hL).mono fun e w'' ⟨he', hx⟩ => ⟨_, he', hx, ⟨fun h => (by cases h), fun h => (by cases h), fun h => (by cases h), fun h => (by cases h), fun h => (by cases h), fun _ => rfl, fun h => (by cases h)⟩, fun hf => by cases hf⟩
  rintro _ _ _ h _
  cases h.2.2.2.2.2.1 rfl
  simp only [Act.put, List.setIfInBounds_toArray, List.set_cons_succ, List.set_cons_zero, List.length_cons, List.length_nil, Nat.zero_add, Nat.reduceAdd]
  refine Cg.calm_quiet Cg.calm_mono_final W0 (fun _ h => h) 24 (by kernel_rfl) ?_
  simp only [List.take_succ_cons, List.take_zero, List.drop_succ_cons, List.drop_zero]
  repeat (go_big_quiet_step (fail))
  refine wpQuiet_nil ?_
  refine Cg.calm_value Cg.calm_mono_final (fun v w => ∃ b, v = .slice (some ⟨b, 0, none⟩) 1 1 ∧ w.heap[b]? = some (Obj.cells #[.int .i64 2] 3)) (fun _ w' w'' hR ⟨b, e, hh⟩ => ⟨b, e, (show Ext w' w'' from hR).heap hh⟩) rfl (fun w' hR _ => ⟨.slice (some ⟨w'.heap.size, 0, none⟩) 1 1, w'.alloc (.cells #[.int .i64 2] 3), by go_simp, (Ext.refl w').alloc _, ⟨_, rfl, heap_alloc_new _ _⟩, fun hf => by cases hf⟩) ?_
  rintro _ _ _ ⟨bi, rfl, _⟩ _
  simp only [Act.put, List.setIfInBounds_toArray, List.set_cons_succ, List.set_cons_zero, List.length_cons, List.length_nil, Nat.zero_add, Nat.reduceAdd]
  refine Cg.calm_call Cg.calm_mono_final 21 #[.slice X13 1 x13, .slice (some ⟨bi, 0, none⟩) 1 1] rfl (fun w => ?_) (fun w' hR hF => ?_) ?_
  · go_simp
  · obtain ⟨b', eb, hb⟩ := (hF 84 (by kernel_rfl)).2 rfl
    simp only [Value.slice.injEq, Option.some.injEq, Addr.mk.injEq, and_true] at eb
    subst eb
    exact (same_ints X13 (some ⟨bi, 0, none⟩) x13 1 [2] w' (HI.out.ext hR) (row_heap hb) (by decide)).mono fun e w'' ⟨he', hx⟩ => ⟨_, he', hx, ⟨fun h => (by cases h), fun h => (by cases h), fun h => (by cases h), fun h => (by cases h), fun h => (by cases h), fun h => (by cases h), fun _ => rfl⟩, fun hf => by cases hf⟩
  rintro _ _ _ h _
  cases h.2.2.2.2.2.2 rfl
  simp only [Act.put, List.setIfInBounds_toArray, List.set_cons_succ, List.set_cons_zero, Nat.reduceAdd]
  refine Cg.calm_quiet Cg.calm_mono_final W0 (fun _ h => h) 1 (by kernel_rfl) ?_
  simp only [List.take_succ_cons, List.take_zero, List.drop_succ_cons, List.drop_zero]
  repeat (go_big_quiet_step (fail))
  refine wpQuiet_nil ?_
  refine Cg.calm_nil fun w3 he3 _ => ?_
  go_wp2
  go_ret
  exact ⟨rfl, Hw.out.trans he3⟩
end Go.Proofs.Yteilglljigjefaa
