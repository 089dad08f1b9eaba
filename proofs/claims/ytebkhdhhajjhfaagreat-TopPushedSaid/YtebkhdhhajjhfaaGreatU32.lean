/- rested, CheckRest: a right model on its table. -/
import Derived.Test.YtebkhdhhajjhfaaGreatU29
import Derived.Test.YtebkhdhhajjhfaaGreatU31
namespace Go.Proofs.YtebkhdhhajjhfaaGreat.Lt
open Go Go.RowKit
theorem Row.of_heap_ {w : World} {g : Nat} {cs : Array Value} {t : TypeId} (h : w.heap[g]? = some (.cells cs t)) : Row w (some ⟨g, 0, none⟩) cs.toList := row_heap h
theorem bool_elem : ElemInfo 4 (.bool false) 1 1 := ⟨info_parts (by kernel_rfl), rfl, by decide⟩
/-- The first k bricks stand no lower than the table. -/
def aboveP (CL : List (List Ce)) (gr : Int) (k : Nat) : Prop := ∀ i, i < k → gr ≤ (ceA (klA CL i) 0).z
/-- A right model at rest. -/
def restP (l : List Ki) (ms : List Br) (gr : Int) (fx : List Int) : Prop := modelP l ms ∧ (-2000 ≤ gr ∧ gr ≤ 2000) ∧ chosenP fx ms.length fx.length ∧ aboveP (ms.map (celB l)) gr ms.length
theorem aboveP_step {CL : List (List Ce)} {gr : Int} {k : Nat} (h : aboveP CL gr k) (h1 : gr ≤ (ceA (klA CL k) 0).z) : aboveP CL gr (k + 1) := fun i hi => by
  by_cases e : i = k
  · rw [e]; exact h1
  · exact h i (by omega)
def RestRes (P : Prop) (w : World) (e : Ending) (w' : World) : Prop := ∃ (p v : Value) (b : Int), e = .returned (.tuple #[p, v, .int .i64 b]) ∧ (b = 0 ↔ P) ∧ Ext w w'
set_option maxRecDepth 100000 in
set_option maxHeartbeats 4000000 in
theorem rested_any (l : List Ki) (A : Option Addr) (c : Nat) (ms : List Br) (M : Option Addr) (mc : Nat) (gr : Int) (fx : List Int) (F : Option Addr) (fc : Nat) (w : World) (hA : KiRow w A l) (h8 : kindsW l) (hM : BrRow w M ms) (hbw : bricksW ms) (hF : Ints w F fx) (hfl : fx.length ≤ 1000000) (hg : -9223372036854775808 ≤ gr ∧ gr ≤ 9223372036854775807) :
    Calls Tryz.prog 63 #[.slice A l.length c, .agg #[.slice M ms.length mc], .agg #[.int .i64 gr, .slice F fx.length fc]] w (RestRes (restP l ms gr fx) w) := by
  have hx1 : Ext w ((w.alloc (.cells #[.slice M ms.length mc] 25)).alloc (.cells #[.int .i64 gr, .slice F fx.length fc] 28)) := ((Ext.refl w).alloc _).alloc _
  have Hx1 := Lib.hid hx1
  by_cases hm : ¬ modelP l ms
  · have hno : ¬ restP l ms gr fx := fun h => hm h.1
    have hb := build_bad l A c ms M mc _ (hA.ext hx1) h8 (hM.ext hx1) hbw hm
    have Hb := Lib.hid hb
    have Hno := Lib.hid hno
    clear hb hno hm hA h8 hM hbw hF hx1
    generalize restP l ms gr fx = P at *
    generalize ms.length = m at *
    generalize l.length = n at *
    generalize fx.length = f at *
    go_enter Tryz.func63, Tryz.ntmps63
    go_wp2_with (go_at_call 95; refine (Hb.out).mono ?_; rintro e w2 ⟨p, b, rfl, hb, he2⟩; have hb0 : (b != 0) = true := (by simpa using hb); have He2 := Lib.hid he2; have Hbn := Lib.hid hb; clear hb he2)
    refine bodyPost_ret (results_three rfl _ _) rfl ?_
    exact ⟨_, _, b, rfl, ⟨fun e => absurd e Hbn.out, fun h => absurd h Hno.out⟩, Hx1.out.trans He2.out⟩
  have hm := Classical.not_not.1 hm
  have hb := build_good l A c ms M mc _ (hA.ext hx1) h8 (hM.ext hx1) hbw hm
  have hm40 : ms.length ≤ 40 := hm.1.2.1
  have Hb := Lib.hid hb
  have Hch := Lib.hid (fun w' (he : Ext w w') => chosen_any fx F fc ms.length w' (hF.ext he) hfl)
  have Hcon := Lib.hid (show ∀ (s : Int) w', Ext w w' → Calls Tryz.prog 86 #[.slice F fx.length fc, .int .i64 s] w' fun e w'' => e = .returned (.bool (Gr.memB fx s)) ∧ Ext w' w'' from fun s w' he => (Gr.contains_any F fc fx s w' (hF.ext he) hfl).mono fun e w'' h => ⟨h.1, by rw [← h.2]; exact Ext.refl _⟩)
  have Hln := Lib.hid (fun i (hi : i < ms.length) => cl_len hm.1 hi)
  have Hlen := Lib.hid (show (ms.map (celB l)).length = ms.length by simp)
  have Hyes := Lib.hid (show (-2000 ≤ gr ∧ gr ≤ 2000) → chosenP fx ms.length fx.length → aboveP (ms.map (celB l)) gr ms.length → restP l ms gr fx from fun a b c => ⟨hm, a, b, c⟩)
  have Hng := Lib.hid (show ¬ (-2000 ≤ gr ∧ gr ≤ 2000) → ¬ restP l ms gr fx from fun a h => a h.2.1)
  have Hnc := Lib.hid (show ¬ chosenP fx ms.length fx.length → ¬ restP l ms gr fx from fun a h => a h.2.2.1)
  have Hna := Lib.hid (show ∀ i, i < ms.length → ¬ gr ≤ (ceA (klA (ms.map (celB l)) i) 0).z → ¬ restP l ms gr fx from fun i hi a h => a (h.2.2.2 i hi))
  clear hb hA h8 hM hbw hF hfl hm
  generalize restP l ms gr fx = P at *
  generalize ms.map (celB l) = CL at *
  generalize chosenP fx ms.length fx.length = CP at *
  generalize ms.length = m at *
  generalize l.length = n at *
  generalize fx.length = f at *
  have k1 : Blk ((w.alloc (.cells #[.slice M m mc] 25)).alloc (.cells #[.int .i64 gr, .slice F f fc] 28)) w.heap.size [.slice M m mc] := (Blk.new _ _).ext ((Ext.refl _).alloc _)
  have k2 : Blk ((w.alloc (.cells #[.slice M m mc] 25)).alloc (.cells #[.int .i64 gr, .slice F f fc] 28)) (w.heap.size + 1) [.int .i64 gr, .slice F f fc] := Blk.new' (by simp)
  have z0 := k1.at_ 0 rfl
  have z1 := k2.at_ 0 rfl
  have z2 := k2.at_ 1 rfl
  clear k1 k2 hx1
  go_enter Tryz.func63, Tryz.ntmps63
  go_upto_region 1 with (fail)
  generalize ((w.alloc (.cells #[.slice M m mc] 25)).alloc (.cells #[.int .i64 gr, .slice F f fc] 28)) = w1 at *
  obtain ⟨gb, hgb⟩ : ∃ gb, gb = w.heap.size := ⟨_, rfl⟩
  rw [← hgb] at z0 z1 z2 ⊢
  generalize gb + 1 = gc at *
  clear hgb
  -- out of bounds
  by_cases hg2 : ¬ (-2000 ≤ gr ∧ gr ≤ 2000)
  · have Hno := Lib.hid (Hng.out hg2)
    clear Hyes Hng Hnc Hna Hch Hcon Hln Hlen
    by_cases hmx : 2000 < max gr (wrap64 (-gr))
    · clear hg2 hg
      go_wp2_with (go_at_call 95; refine (Hb.out).mono ?_; rintro e w2 ⟨p, rfl, hb, he2⟩; have u1 := fun w' he => z1 w' (he2.trans he); have He2 := Lib.hid he2; clear hb he2 z0 z1)
      refine bodyPost_ret (results_three rfl _ _) rfl ?_
      exact ⟨_, _, 30, rfl, ⟨fun e => (by cases e), fun h => absurd h Hno.out⟩, Hx1.out.trans He2.out⟩
    · have hlo : gr < -2000 := by omega
      clear hg2 hg
      go_wp2_with (go_at_call 95; refine (Hb.out).mono ?_; rintro e w2 ⟨p, rfl, hb, he2⟩; have u1 := fun w' he => z1 w' (he2.trans he); have He2 := Lib.hid he2; clear hb he2 z0 z1)
      refine bodyPost_ret (results_three rfl _ _) rfl ?_
      exact ⟨_, _, 30, rfl, ⟨fun e => (by cases e), fun h => absurd h Hno.out⟩, Hx1.out.trans He2.out⟩
  have hg2 := Classical.not_not.1 hg2
  have hwr : IntKind.i64.wrap (-gr) = -gr := by rw [IntKind.wrap_i64]; omega
  have hmx : ¬ max gr (-gr) > 2000 := by omega
  have hlo : ¬ gr < -2000 := by omega
  have Hg2 := Lib.hid hg2
  clear Hng hg hg2
  by_cases hcp : ¬ CP
  · have Hno := Lib.hid (Hnc.out hcp)
    have Hcp := Lib.hid hcp
    clear Hyes Hnc Hna Hcon Hln Hlen hcp
    go_wp2_with (first
      | (go_at_call 96; refine (Hch.out w2 (Hx1.out.trans He2.out)).mono ?_; rintro e w3 ⟨v, rfl, hv, he3⟩; obtain rfl : v = false := (by cases v with | false => rfl | true => exact absurd (hv.1 rfl) Hcp.out); have He3 := Lib.hid he3; clear hv he3)
      | (go_at_call 95; refine (Hb.out).mono ?_; rintro e w2 ⟨p, rfl, hb, he2⟩; have u0 := fun w' he => z0 w' (he2.trans he); have u1 := fun w' he => z1 w' (he2.trans he); have u2 := fun w' he => z2 w' (he2.trans he); have He2 := Lib.hid he2; clear hb he2 z0 z1 z2))
    refine bodyPost_ret (results_three rfl _ _) rfl ?_
    exact ⟨_, _, 30, rfl, ⟨fun e => (by cases e), fun h => absurd h Hno.out⟩, (Hx1.out.trans He2.out).trans He3.out⟩
  have hcp := Classical.not_not.1 hcp
  have Hcp := Lib.hid hcp
  clear Hnc hcp
  go_wp2_with (first
    | (go_at_call 96; refine (Hch.out w2 (Hx1.out.trans He2.out)).mono ?_; rintro e w3 ⟨v, rfl, hv, he3⟩; obtain rfl : v = true := hv.2 Hcp.out; have v0 := fun w' he => u0 w' (he3.trans he); have v1 := fun w' he => u1 w' (he3.trans he); have v2 := fun w' he => u2 w' (he3.trans he); have q2 := fun w' he => b2 w' (he3.trans he); have HT3 := Lib.hid (HT2.out.later he3); have He3 := Lib.hid he3; clear hv he3 u0 u1 u2 b2 HT2)
    | (go_at_call 95; refine (Hb.out).mono ?_; rintro e w2 ⟨p, rfl, ⟨gp, u, rfl, b2, hT2⟩, he2⟩; have u0 := fun w' he => z0 w' (he2.trans he); have u1 := fun w' he => z1 w' (he2.trans he); have u2 := fun w' he => z2 w' (he2.trans he); obtain ⟨U, uc, rfl⟩ := hT2.form; rw [Hlen.out] at b2; have HT2 := Lib.hid hT2; have He2 := Lib.hid he2; clear hT2 he2 z0 z1 z2))
  rw [Hlen.out] at HT3
  have V1 := Lib.hid v1
  have V2 := Lib.hid v2
  clear v0 v1 v2 q2 hwr hmx hlo Hb Hch
  go_loopw [49, 11] (fun i v wr => ∃ (k : Nat) (xs : List Value), k ≤ m ∧ i = .int .i64 k ∧ Own w3 wr 4 1 v k xs ∧ Hid (aboveP CL gr k)) (fun i _ _ => m - (intOf i).toNat)
  case atStart => exact ⟨0, [], by omega, rfl, Own.nil' (Ext.refl _) _ _, Lib.hid (fun i hi => absurd hi (by omega))⟩
  case round =>
    obtain ⟨k, xs, hk, rfl, hV, Hab⟩ := hrel
    by_cases hlt : k < m
    · have hki : (k : Int) < (m : Int) := by omega
      have hx := hV.ext
      obtain ⟨ad, c2, g, gc2, e2, hcell, hO⟩ := (HT3.out.later hx).get (show k < CL.length by rw [Hlen.out]; exact hlt)
      rw [Hlen.out] at e2
      obtain rfl : U = some ad := by simp only [Value.slice.injEq] at e2; exact e2.1
      clear e2 c2
      obtain ⟨hl1, hl2⟩ := Hln.out k hlt
      have hrow : CeRow wr (some ⟨g, 0, none⟩) (klA CL k) := hO.row
      obtain ⟨_, ee, _, _, y2⟩ := hrow.at_ (show 0 < (klA CL k).length by omega)
      cases ee
      simp only [Nat.zero_mul, add_zero', Nat.zero_add] at y2
      have Hna2 := Lib.hid (Hna.out k hlt)
      have Hst := Lib.hid (fun h => aboveP_step (k := k) Hab.out h)
      obtain ⟨z, hz⟩ : ∃ z, (ceA (klA CL k) 0).z = z := ⟨_, rfl⟩
      obtain ⟨L, hL⟩ : ∃ L, L = (klA CL k).length := ⟨_, rfl⟩
      rw [hz] at y2
      rw [← hL] at hcell hl1
      have hl1' : (0 : Int) < (L : Int) := by omega
      have HZ := Lib.hid hz
      have t1 := fun w' he => V1.out w' (hx.trans he)
      have t2 := fun w' he => V2.out w' (hx.trans he)
      have hw1 : IntKind.i64.wrap ((k : Int) + 1) = ((k + 1 : Nat) : Int) := by rw [IntKind.wrap_i64]; omega
      have hcn := fun w' (he : Ext wr w') => Hcon.out (k : Int) w' (((Hx1.out.trans He2.out).trans He3.out).trans (hx.trans he))
      have Hcn := Lib.hid hcn
      obtain ⟨VA, vc, rfl⟩ := hV.form
      have HV := Lib.hid hV
      have Hx := Lib.hid hx
      clear hx hO hrow hz hL hV hcn Hab
      go_wp2
      by_cases hlow : z < gr
      · refine Cg.wp_region_calm (p := Cg.extPre) (fr := (fun _ => false)) 7 (fun j _ v _ => True) (fun _ _ _ _ _ _ h => h) (by kernel_rfl) (by kernel_rfl) ?_
        simp only [List.take_succ_cons, List.take_zero, List.drop_succ_cons, List.drop_zero]
        refine Cg.calm_quiet Cg.calm_mono_final wr (fun _ h => h) 6 (by kernel_rfl) ?_
        simp only [List.take_succ_cons, List.take_zero, List.drop_succ_cons, List.drop_zero]
        repeat (go_big_quiet_step (fail))
        refine wpQuiet_nil ?_
        refine Cg.calm_value Cg.calm_mono_final (fun v _ => v = .bool true) (fun _ _ _ _ h => h) rfl (fun w' hR _ => ⟨_, w', by go_simp, Ext.refl _, rfl, fun hf => by cases hf⟩) ?_
        rintro _ _ _ rfl _
        simp only [Act.put, List.setIfInBounds_toArray, List.set_cons_succ, List.set_cons_zero]
        refine Cg.calm_nil fun w5 he5 _ => ?_
        have he5 : Ext wr w5 := he5
        go_wp2
        refine bodyPost_ret (results_three rfl _ _) rfl ?_
        exact ⟨_, _, 30, rfl, ⟨fun e => (by cases e), fun h => absurd h (Hna2.out (by rw [HZ.out]; omega))⟩, (((Hx1.out.trans He2.out).trans He3.out).trans Hx.out).trans he5⟩
      · have hge : gr ≤ (ceA (klA CL k) 0).z := by rw [HZ.out]; omega
        have Hst2 := Lib.hid (Hst.out hge)
        clear hge
        refine Cg.wp_region_calm (p := Cg.extPre) (fr := (fun _ => false)) 7 (fun j _ v _ => True) (fun _ _ _ _ _ _ h => h) (by kernel_rfl) (by kernel_rfl) ?_
        simp only [List.take_succ_cons, List.take_zero, List.drop_succ_cons, List.drop_zero]
        refine Cg.calm_quiet Cg.calm_mono_final wr (fun _ h => h) 6 (by kernel_rfl) ?_
        simp only [List.take_succ_cons, List.take_zero, List.drop_succ_cons, List.drop_zero]
        repeat (go_big_quiet_step (fail))
        refine wpQuiet_nil ?_
        refine Cg.calm_value Cg.calm_mono_final (fun v _ => v = .bool false) (fun _ _ _ _ h => h) rfl (fun w' hR _ => ⟨_, w', by go_simp, Ext.refl _, rfl, fun hf => by cases hf⟩) ?_
        rintro _ _ _ rfl _
        simp only [Act.put, List.setIfInBounds_toArray, List.set_cons_succ, List.set_cons_zero]
        refine Cg.calm_nil fun w5 he5 _ => ?_
        have he5 : Ext wr w5 := he5
        have HV5 := Lib.hid (HV.out.later he5)
        have s1 := fun w' he => t1 w' (he5.trans he)
        have s2 := fun w' he => t2 w' (he5.trans he)
        have y5 := fun w' he => y2 w' (he5.trans he)
        have hc5 := fun w' he => hcell w' (he5.trans he)
        have Hcn5 := Lib.hid (fun w' (he : Ext w5 w') => Hcn.out w' (he5.trans he))
        clear t1 t2 y2 hcell Hcn he5 HV
        go_wp2
        by_cases heq : z = gr
        · subst heq
          refine Cg.wp_region_calm (p := Cg.extPre) (fr := (fun _ => false)) 15 (fun j _ v _ => True) (fun _ _ _ _ _ _ h => h) (by kernel_rfl) (by kernel_rfl) ?_
          simp only [List.take_succ_cons, List.take_zero, List.drop_succ_cons, List.drop_zero]
          refine Cg.calm_quiet Cg.calm_mono_final w5 (fun _ h => h) 9 (by kernel_rfl) ?_
          simp only [List.take_succ_cons, List.take_zero, List.drop_succ_cons, List.drop_zero]
          repeat (go_big_quiet_step (fail))
          refine wpQuiet_nil ?_
          refine Cg.calm_skip (by kernel_rfl) ?_
          simp only [Act.put, List.setIfInBounds_toArray, List.set_cons_succ, List.set_cons_zero]
          refine Cg.calm_skip (by kernel_rfl) ?_
          simp only [Act.put, List.setIfInBounds_toArray, List.set_cons_succ, List.set_cons_zero]
          refine Cg.calm_skip (by kernel_rfl) ?_
          simp only [Act.put, List.setIfInBounds_toArray, List.set_cons_succ, List.set_cons_zero]
          refine Cg.calm_skip (by kernel_rfl) ?_
          simp only [Act.put, List.setIfInBounds_toArray, List.set_cons_succ, List.set_cons_zero]
          refine Cg.calm_value Cg.calm_mono_final (fun v _ => v = .bool true) (fun _ _ _ _ h => h) rfl (fun w' hR _ => ⟨_, w', by go_simp, Ext.refl _, rfl, fun hf => by cases hf⟩) ?_
          rintro _ _ _ rfl _
          simp only [Act.put, List.setIfInBounds_toArray, List.set_cons_succ, List.set_cons_zero]
          refine Cg.calm_value Cg.calm_mono_final (fun v w => ∃ b, v = .slice (some ⟨b, 0, none⟩) 1 1 ∧ w.heap[b]? = some (.cells #[.bool true] 4)) (fun _ w' w'' hR ⟨b, e, hh⟩ => ⟨b, e, (show Ext w' w'' from hR).heap hh⟩) rfl (fun w' hR _ => ⟨.slice (some ⟨w'.heap.size, 0, none⟩) 1 1, w'.alloc (.cells #[.bool true] 4), by go_simp, (Ext.refl _).alloc _, ⟨_, rfl, heap_alloc_new _ _⟩, fun hf => by cases hf⟩) ?_
          rintro _ _ _ ⟨b9, rfl, _⟩ _
          simp only [Act.put, List.setIfInBounds_toArray, List.set_cons_succ, List.set_cons_zero]
          refine Cg.calm_nil fun w6 he6 hf6 => ?_
          obtain ⟨b9', e9, hh9⟩ := (hf6.1 14).2 rfl
          simp only [Value.slice.injEq, Option.some.injEq, Addr.mk.injEq, and_true] at e9
          subst e9
          clear hf6
          have he6 : Ext w5 w6 := he6
          have HV6 := Lib.hid (HV5.out.later he6)
          have Hrw := Lib.hid (Row.of_heap_ hh9)
          clear hh9 he6 s1 s2 y5 hc5
          go_wp2_with (refine Gr.own_append_at bool_elem rfl _ _ 146 rfl Tryz.underlying146 (.slice VA k vc) k _ rfl HV6.out ⟨b9, 0, none⟩ 1 1 [.bool true] rfl rfl Hrw.out (by intro u hu; simp only [List.mem_cons, List.not_mem_nil, or_false] at hu; rcases hu with rfl; rfl) (by omega) (by unfold maxLen; omega) ?_; intro v8 w8 ho8 hg8 hl8; have HV8 := Lib.hid ho8; clear ho8 hg8 hl8)
          go_roundw
          case rel => exact ⟨k + 1, _, by omega, by go_num, HV8.out, Lib.hid Hst2.out⟩
          case measure => simp [intOf]; omega
        · obtain ⟨bb, hbb⟩ : ∃ bb, Gr.memB fx (k : Int) = bb := ⟨_, rfl⟩
          rw [hbb] at Hcn5
          clear hbb
          have hb0 : (z == gr) = false := by simpa using heq
          refine Cg.wp_region_calm (p := Cg.extPre) (fr := (fun _ => false)) 15 (fun j _ v _ => (j = 12 → v = .bool bb)) (fun _ _ _ _ _ _ h => h) (by kernel_rfl) (by kernel_rfl) ?_
          simp only [List.take_succ_cons, List.take_zero, List.drop_succ_cons, List.drop_zero]
          refine Cg.calm_quiet Cg.calm_mono_final w5 (fun _ h => h) 12 (by kernel_rfl) ?_
          simp only [List.take_succ_cons, List.take_zero, List.drop_succ_cons, List.drop_zero]
          repeat (go_big_quiet_step (fail))
          refine wpQuiet_nil ?_
          refine Cg.calm_call Cg.calm_mono_final 86 #[.slice F f fc, .int .i64 k] rfl (fun w => ?_) (fun w he hF => ?_) ?_
          · go_simp
          · exact (Hcn5.out w he).mono fun e w'' ⟨he', hx⟩ => ⟨_, he', hx, fun _ => rfl, fun h => by cases h⟩
          rintro _ _ _ h _
          cases h rfl
          simp only [Act.put, List.setIfInBounds_toArray, List.set_cons_succ, List.set_cons_zero]
          refine Cg.calm_value Cg.calm_mono_final (fun v _ => v = .bool bb) (fun _ _ _ _ h => h) rfl (fun w' hR _ => ⟨_, w', by go_simp, Ext.refl _, rfl, fun hf => by cases hf⟩) ?_
          rintro _ _ _ rfl _
          simp only [Act.put, List.setIfInBounds_toArray, List.set_cons_succ, List.set_cons_zero]
          refine Cg.calm_value Cg.calm_mono_final (fun v w => ∃ b, v = .slice (some ⟨b, 0, none⟩) 1 1 ∧ w.heap[b]? = some (.cells #[.bool bb] 4)) (fun _ w' w'' hR ⟨b, e, hh⟩ => ⟨b, e, (show Ext w' w'' from hR).heap hh⟩) rfl (fun w' hR _ => ⟨.slice (some ⟨w'.heap.size, 0, none⟩) 1 1, w'.alloc (.cells #[.bool bb] 4), by go_simp, (Ext.refl _).alloc _, ⟨_, rfl, heap_alloc_new _ _⟩, fun hf => by cases hf⟩) ?_
          rintro _ _ _ ⟨b9, rfl, _⟩ _
          simp only [Act.put, List.setIfInBounds_toArray, List.set_cons_succ, List.set_cons_zero]
          refine Cg.calm_nil fun w6 he6 hf6 => ?_
          obtain ⟨b9', e9, hh9⟩ := (hf6.1 14).2 rfl
          simp only [Value.slice.injEq, Option.some.injEq, Addr.mk.injEq, and_true] at e9
          subst e9
          clear hf6
          have he6 : Ext w5 w6 := he6
          have HV6 := Lib.hid (HV5.out.later he6)
          have Hrw := Lib.hid (Row.of_heap_ hh9)
          clear hh9 he6 s1 s2 y5 hc5
          go_wp2_with (refine Gr.own_append_at bool_elem rfl _ _ 146 rfl Tryz.underlying146 (.slice VA k vc) k _ rfl HV6.out ⟨b9, 0, none⟩ 1 1 [.bool bb] rfl rfl Hrw.out (by intro u hu; simp only [List.mem_cons, List.not_mem_nil, or_false] at hu; rcases hu with rfl; rfl) (by omega) (by unfold maxLen; omega) ?_; intro v8 w8 ho8 hg8 hl8; have HV8 := Lib.hid ho8; clear ho8 hg8 hl8)
          go_roundw
          case rel => exact ⟨k + 1, _, by omega, by go_num, HV8.out, Lib.hid Hst2.out⟩
          case measure => simp [intOf]; omega
    · obtain rfl : m = k := by omega
      have HV := Lib.hid hV
      clear hV
      go_wp2
      refine bodyPost_ret (results_three rfl _ _) rfl ?_
      exact ⟨_, _, 0, rfl, ⟨fun _ => Hyes.out Hg2.out Hcp.out Hab.out, fun _ => rfl⟩, ((Hx1.out.trans He2.out).trans He3.out).trans HV.out.ext⟩
end Go.Proofs.YtebkhdhhajjhfaaGreat.Lt

/- CheckRest. -/
namespace Go.Proofs.YtebkhdhhajjhfaaGreat.Lt
open Go Go.RowKit
set_option maxRecDepth 100000 in
set_option maxHeartbeats 4000000 in
theorem checkrest_any (l : List Ki) (A : Option Addr) (c : Nat) (ms : List Br) (M : Option Addr) (mc : Nat) (gr : Int) (fx : List Int) (F : Option Addr) (fc : Nat) (w : World) (hA : KiRow w A l) (h8 : kindsW l) (hM : BrRow w M ms) (hbw : bricksW ms) (hF : Ints w F fx) (hfl : fx.length ≤ 1000000) (hg : -9223372036854775808 ≤ gr ∧ gr ≤ 9223372036854775807) :
    Calls Tryz.prog 27 #[.slice A l.length c, .agg #[.slice M ms.length mc], .agg #[.int .i64 gr, .slice F fx.length fc]] w (Tells (restP l ms gr fx) w) := by
  have hx1 : Ext w ((w.alloc (.cells #[.slice M ms.length mc] 25)).alloc (.cells #[.int .i64 gr, .slice F fx.length fc] 28)) := ((Ext.refl w).alloc _).alloc _
  have hr := rested_any l A c ms M mc gr fx F fc _ (hA.ext hx1) h8 (hM.ext hx1) hbw (hF.ext hx1) hfl hg
  have Hr := Lib.hid hr
  have Hx1 := Lib.hid hx1
  clear hr hx1 hA h8 hM hbw hF hfl hg
  generalize restP l ms gr fx = P at *
  generalize ms.length = m at *
  generalize l.length = n at *
  generalize fx.length = f at *
  go_enter Tryz.func27, Tryz.ntmps27
  go_wp2_with (go_at_call 63; refine (Hr.out).mono ?_; rintro e w2 ⟨p, v, b, rfl, hb, he2⟩; have Hb := Lib.hid hb; have He2 := Lib.hid he2; clear hb he2)
  go_ret
  exact ⟨b, rfl, Hb.out, Hx1.out.trans He2.out⟩
end Go.Proofs.YtebkhdhhajjhfaaGreat.Lt

/- For start: the table of what is joined to what. -/
namespace Go.Proofs.YtebkhdhhajjhfaaGreat.Lt
open Go Go.RowKit
theorem joined_elem : ElemInfo 164 (.agg #[.int .u64 0, .int .u64 0, .int .u64 0, .int .u64 0, .int .u64 0, .int .u64 0]) 6 48 := ⟨info_parts (by kernel_rfl), rfl, by decide⟩
abbrev vu64 (S : Nat) : Value := .int .u64 S
/-- The call's own row of sixes of words. -/
def JoinT (w1 w : World) (g m : Nat) (SL : List Nat) : Prop := Own w1 w 164 6 (.slice (some ⟨g, 0, none⟩) m m) m (SL.map vu64) ∧ ∀ x ∈ SL, x < 2 ^ 64
theorem zeros6 (n : Nat) : madeCells (Value.agg #[.int .u64 0, .int .u64 0, .int .u64 0, .int .u64 0, .int .u64 0, .int .u64 0]).cells n = ((List.replicate n 0).map vu64).toArray := by
  apply Array.ext
  · simp [madeCells]
  · intro i h1 h2
    simp only [madeCells, Array.getElem_map, Array.getElem_range, List.getElem_toArray, List.getElem_map, List.getElem_replicate]
    have : i % 6 < 6 := Nat.mod_lt _ (by omega)
    show (#[Value.int .u64 0, .int .u64 0, .int .u64 0, .int .u64 0, .int .u64 0, .int .u64 0] : Array Value)[i % 6]! = vu64 0
    rcases six_cases this with h | h | h | h | h | h <;> rw [h] <;> rfl
theorem make_joined (m : Nat) (hm : m ≤ 40) (w1 w : World) (he : Ext w1 w) : ∃ w', (Instr.makeSlice 151 (.int .i64 (m : Int)) (.int .i64 (m : Int))).run Tryz.prog w = .ok (.slice (some ⟨w.heap.size, 0, none⟩) m m) w' ∧ Ext w w' ∧ JoinT w1 w' w.heap.size m (List.replicate (m * 6) 0) := by
  obtain ⟨i, hi, hz0, hz1, hz2⟩ := joined_elem.info
  obtain ⟨w', h1, h2, h3⟩ := run_make_full (P := Tryz.prog) (w := w) w1.heap.size 151 164 i _ 6 Tryz.underlying151 hi hz0 hz1 .i64 .i64 m (by rw [hz2]; omega) (by unfold maxLen; omega) he.size
  have hx : Ext w w' := (Ext.refl w).grown h3 (fun k hk => by cases hk)
  rw [zeros6] at h2
  refine ⟨w', h1, hx, ⟨he.trans hx, h2⟩, fun x hx => ?_⟩
  rw [List.mem_replicate] at hx
  omega
section
variable {w1 w w' : World} {g m : Nat} {SL : List Nat}
theorem JoinT.later (h : JoinT w1 w g m SL) (he : Ext w w') : JoinT w1 w' g m SL := ⟨h.1.later he, h.2⟩
theorem JoinT.len (h : JoinT w1 w g m SL) : SL.length = m * 6 := by
  have := h.1.len
  simpa using this
theorem JoinT.cell (h : JoinT w1 w g m SL) {j : Nat} (hj : j < m * 6) : w.cell? ⟨g, j, none⟩ = some (.int .u64 ((SL.getD j 0 : Nat) : Int)) := by
  have hl := h.len
  rw [h.1.cell (by simpa [hl] using hj)]
  simp [List.getD, show j < SL.length by omega]
theorem JoinT.lt (h : JoinT w1 w g m SL) (j : Nat) : SL.getD j 0 < 2 ^ 64 := by
  by_cases hj : j < SL.length
  · simp only [List.getD, List.getElem?_eq_getElem hj, Option.getD_some]
    exact h.2 _ (List.getElem_mem hj)
  · simp only [List.getD, List.getElem?_eq_none (Nat.le_of_not_lt hj), Option.getD_none]
    omega
theorem JoinT.store (h : JoinT w1 w g m SL) (j : Nat) {S : Nat} (hS : S < 2 ^ 64) : JoinT w1 (w.setCell ⟨g, j, none⟩ (.int .u64 S)) g m (SL.set j S) := by
  refine ⟨?_, fun x hx => ?_⟩
  · rw [List.map_set]
    exact h.1.store j _
  · rcases List.mem_or_eq_of_mem_set hx with h1 | rfl
    · exact h.2 _ h1
    · exact hS
/-- Growth in a block that holds something else. -/
theorem JoinT.row (h : JoinT w1 w g m SL) {e size n : Nat} {v : Value} {xs : List Value} (hv : Own w1 w e size v n xs) (hg : w.grownBy w' v.ownBlock) (he : 164 ≠ e) : JoinT w1 w' g m SL :=
  ⟨own_grown h.1 hg (fun k hk => (hv.2.lt k hk).1) (own_ne_row h.1 hv.2 he), h.2⟩
theorem JoinT.map (h : JoinT w1 w g m SL) {r : Nat} (hg : w.grownBy w' (some r)) (hr : w1.heap.size ≤ r) {es : Array MapEntry} {clock : Nat} (hm : w.heap[r]? = some (.map es clock)) : JoinT w1 w' g m SL :=
  ⟨own_grown h.1 hg (fun k e => by cases e; exact hr) (own_ne_map h.1 hm), h.2⟩
end
end Go.Proofs.YtebkhdhhajjhfaaGreat.Lt

/- Links: the links of a right model. -/
namespace Go.Proofs.YtebkhdhhajjhfaaGreat.Lt
open Go Go.RowKit
set_option maxRecDepth 100000 in
set_option maxHeartbeats 4000000 in
theorem linksp_any (l : List Ki) (A : Option Addr) (c : Nat) (ms : List Br) (M : Option Addr) (mc : Nat) (w : World) (hA : KiRow w A l) (h8 : kindsW l) (hM : BrRow w M ms) (hbw : bricksW ms) (hv : modelP l ms) :
    Calls Tryz.prog 66 #[.slice A l.length c, .agg #[.slice M ms.length mc]] w fun e w' => ∃ (V : Option Addr) (vc : Nat) (LL : List Lnk), e = .returned (.tuple #[.slice V LL.length vc, .int .i64 0]) ∧ OwnN w w' (.slice V LL.length vc) LL ∧ (∀ x ∈ LL, LnkOk (ms.map (knoB l)) x) ∧ LL.length ≤ 100000 ∧ ((∀ i, i < ms.length → (knoB l (brA ms i)).length = 0) → LL = []) := by
  have hx1 : Ext w (w.alloc (.cells #[.slice M ms.length mc] 25)) := (Ext.refl w).alloc _
  have k0 : Blk (w.alloc (.cells #[.slice M ms.length mc] 25)) w.heap.size [.slice M ms.length mc] := Blk.new _ _
  have z0 := k0.at_ 0 rfl
  have Hck := Lib.hid (tells_zero (checkm_any l A c ms M mc _ (hA.ext hx1) h8 (hM.ext hx1) hbw) hv)
  have Hlk := Lib.hid (fun w' (he : Ext w w') => links_any l A c ms M mc w' (hA.ext he) h8 hv.1 (hM.ext he))
  have Hx1 := Lib.hid hx1
  clear hA h8 hM hbw hv hx1 k0
  generalize ms.map (knoB l) = KL at *
  generalize (∀ i, i < ms.length → (knoB l (brA ms i)).length = 0) = NK at *
  generalize ms.length = m at *
  generalize l.length = n at *
  go_enter Tryz.func66, Tryz.ntmps66
  go_wp2_with (first
    | (go_at_call 98; refine (Hlk.out w2 (Hx1.out.trans He2.out)).mono ?_; rintro e w3 ⟨v3, u3, LL, rfl, hN3, hT3, hok3, hl3, hnk3⟩; obtain ⟨V, vc, rfl⟩ := hN3.form; have HN3 := Lib.hid hN3; have Hok3 := Lib.hid hok3; have Hl3 := Lib.hid hl3; have Hnk := Lib.hid hnk3; clear hN3 hT3 hok3 hl3 hnk3 z2)
    | (go_at_call 37; refine (Hck.out).mono ?_; rintro e w2 ⟨rfl, he2⟩; have z2 := fun w' he => z0 w' (he2.trans he); have He2 := Lib.hid he2; clear he2 z0))
  go_ret2
  exact ⟨V, vc, LL, rfl, HN3.out.since (Hx1.out.trans He2.out), Hok3.out, Hl3.out, Hnk.out⟩
end Go.Proofs.YtebkhdhhajjhfaaGreat.Lt
