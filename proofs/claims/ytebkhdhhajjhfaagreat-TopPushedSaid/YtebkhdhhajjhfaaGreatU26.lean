/- links: the links of a valid model, and the placed knobs. -/
import Derived.Test.YtebkhdhhajjhfaaGreatU25
namespace Go.Proofs.YtebkhdhhajjhfaaGreat.Lt
open Go Go.RowKit
set_option maxRecDepth 100000 in
set_option maxHeartbeats 4000000 in
theorem links_any (l : List Ki) (A : Option Addr) (c : Nat) (ms : List Br) (M : Option Addr) (mc : Nat) (w : World) (hA : KiRow w A l) (h8 : kindsW l) (hv : boundP l ms) (hM : BrRow w M ms) :
    Calls Tryz.prog 98 #[.slice A l.length c, .agg #[.slice M ms.length mc]] w fun e w' => ∃ v u LL, e = .returned (.tuple #[v, u]) ∧ OwnN w w' v LL ∧ Tab Kn.cells 144 5 80 w w' u (ms.map (knoB l)) ∧ (∀ x ∈ LL, LnkOk (ms.map (knoB l)) x) ∧ LL.length ≤ 100000 ∧ ((∀ i, i < ms.length → (knoB l (brA ms i)).length = 0) → LL = []) := by
  have hmm := @run_makeMap Tryz.prog
  have hbr := fun i (hi : i < ms.length) => hM.at_ hi
  have hrd0 := fun i (hi : i < ms.length) => kn_round hA h8 hv hi
  have hko0 := fun i (hi : i < ms.length) t (ht : t < (knoB l (brA ms i)).length) => knoB_ok hv h8 hi ht
  have hmo0 := fun i (hi : i < ms.length) => knoB_most hv hi
  have hm40 : ms.length ≤ 40 := hv.2.1
  have hKlen : (ms.map (knoB l)).length = ms.length := by simp
  have hKat : ∀ i, i < ms.length → knoB l (brA ms i) = klA (ms.map (knoB l)) i := fun i hi => by
    rw [klA_at (by simpa using hi), List.getElem_map, brA_at hi]
  have hrd : ∀ i, i < ms.length → _ := fun i hi => by
    have h := hrd0 i hi
    rw [hKat i hi] at h
    exact h
  have hko : ∀ i, i < ms.length → ∀ t, t < (klA (ms.map (knoB l)) i).length → KnK (knA (klA (ms.map (knoB l)) i) t) := fun i hi t ht => by
    have h := hko0 i hi t
    rw [hKat i hi] at h
    exact h ht
  have hmo : ∀ i, i < ms.length → (klA (ms.map (knoB l)) i).length ≤ 48 := fun i hi => by rw [← hKat i hi]; exact hmo0 i hi
  have hnn : (∀ i, i < ms.length → (knoB l (brA ms i)).length = 0) → ∀ i, i < ms.length → (klA (ms.map (knoB l)) i).length = 0 := fun h i hi => by rw [← hKat i hi]; exact h i hi
  have Hbr := Lib.hid hbr
  have Hrd := Lib.hid hrd
  have Hko := Lib.hid hko
  have Hmo := Lib.hid hmo
  have Hnn := Lib.hid hnn
  have HKlen := Lib.hid hKlen
  clear hbr hrd hko hmo hnn hKlen hKat hA h8 hv hM hrd0 hko0 hmo0
  generalize ms.map (knoB l) = KL at *
  generalize (∀ i, i < ms.length → (knoB l (brA ms i)).length = 0) = NK at *
  obtain ⟨m, hmE⟩ : ∃ m, m = ms.length := ⟨_, rfl⟩
  obtain ⟨n, hnE⟩ : ∃ n, n = l.length := ⟨_, rfl⟩
  simp only [← hmE, ← hnE] at Hbr Hrd Hko Hmo Hnn HKlen hm40 ⊢
  clear hmE hnE
  have k0 : Blk (w.alloc (.cells #[.slice M m mc] 25)) w.heap.size [.slice M m mc] := Blk.new _ _
  have z0 := k0.at_ 0 rfl
  have HWb := Lib.hid (show Ext w (w.alloc (.cells #[.slice M m mc] 25)) from (Ext.refl w).alloc _)
  have hgb : (w.alloc (.cells #[.slice M m mc] 25)).heap.size = w.heap.size + 1 := by simp
  clear k0
  go_enter Tryz.func98, Tryz.ntmps98
  go_wp2
  have HF0 := Lib.hid (FaceM.start (p := EndIn KL) (Ext.refl (w.alloc (.cells #[.slice M m mc] 25))) rfl)
  have HT0 := Lib.hid (Tab.nil (enc := Kn.cells) (e1 := 144) (sz := 5) (e2 := 80) ((Ext.refl (w.alloc (.cells #[.slice M m mc] 25))).alloc (.map #[] 0)))
  rw [hgb] at HF0
  have hbz : (w.alloc (.cells #[.slice M m mc] 25)).heap.size ≤ w.heap.size + 1 := by rw [hgb]; exact Nat.le_refl _
  have Hbz := Lib.hid hbz
  have Z0 := Lib.hid z0
  clear z0 hgb hbz hmm
  generalize (w.alloc (.cells #[.slice M m mc] 25)) = Wb at *
  generalize w.heap.size + 1 = gb at *
  go_loopw [24, 7] (fun i u wr => ∃ k : Nat, k ≤ m ∧ i = .int .i64 k ∧ FaceM Wb wr gb (48 * k) (EndIn KL) ∧ Tab Kn.cells 144 5 80 Wb wr u (KL.take k)) (fun i _ _ => m - (intOf i).toNat)
  case atStart => exact ⟨0, by omega, rfl, HF0.out, HT0.out⟩
  case round =>
    clear HF0 HT0
    obtain ⟨k, hk, rfl, hF, hT⟩ := hrel
    by_cases hlt : k < m
    · have hki : (k : Int) < (m : Int) := by omega
      obtain ⟨kn, tn, ⟨ox, oy, oz⟩, col, kd, B, D, bc, dc, L, mk, wt, hbE, rfl, hkn, htn, s0, s1, s2, hmk, hc⟩ := Hrd.out k hlt
      obtain ⟨am, rfl, x0, x1, x2, x3, x4, x5⟩ := Hbr.out k hlt
      rw [hbE] at x0 x1 x2 x3 x4 x5
      simp only at x0 x1 x2 x3 x4 x5
      have hxb := HWb.out
      have hex := hT.ext
      have hxw := hxb.trans hex
      have u0 := fun w' he => x0 w' (hxw.trans he)
      have u1 := fun w' he => x1 w' (hxw.trans he)
      have u2 := fun w' he => x2 w' (hxw.trans he)
      have u3 := fun w' he => x3 w' (hxw.trans he)
      have u4 := fun w' he => x4 w' (hxw.trans he)
      have u5 := fun w' he => x5 w' (hxw.trans he)
      have z0 := fun w' he => Z0.out w' (hex.trans he)
      have t0 := fun w' he => s0 w' (hxw.trans he)
      have t1 := fun w' he => s1 w' (hxw.trans he)
      have t2 := fun w' he => s2 w' (hxw.trans he)
      have hKk : k < KL.length := by rw [HKlen.out]; exact hlt
      have Htk := Lib.hid (take_klA hKk)
      have hmo := Hmo.out k hlt
      have Hko2 := Lib.hid (Hko.out k hlt)
      have hEI := fun t (ht : t < (klA KL k).length) => (show EndIn KL (k : Int) (t : Int) from ⟨⟨by omega, by rw [HKlen.out]; omega⟩, by omega, by simpa using ht⟩)
      have HEI := Lib.hid hEI
      rw [← hmk] at hmo hEI
      have Hmk := Lib.hid hmk
      have hkni : (kn : Int) < (n : Int) := by omega
      have htw : IntKind.i64.wrap (tn : Int) = (tn : Int) := by rw [IntKind.wrap_i64]; omega
      have hw1 : IntKind.i64.wrap ((k : Int) + 1) = ((k + 1 : Nat) : Int) := by rw [IntKind.wrap_i64]; omega
      have Hc := Lib.hid hc
      have Hxw := Lib.hid hxw
      have HF := Lib.hid hF
      have HT := Lib.hid hT
      obtain ⟨TA, tc, rfl⟩ := hT.form
      have htl : (KL.take k).length = k := by rw [List.length_take]; omega
      rw [htl] at HT ⊢
      clear x0 x1 x2 x3 x4 x5 s0 s1 s2 hxb hex hxw hc hbE hF hT hmk hEI Hbr Hrd Hko Hmo hKk Z0
      go_wp2
      have kq : Blk (wr.alloc (.cells #[.int .i64 kn, .int .i64 ox, .int .i64 oy, .int .i64 oz, .int .u8 tn, .int .u8 col] 85)) wr.heap.size [.int .i64 kn, .int .i64 ox, .int .i64 oy, .int .i64 oz, .int .u8 tn, .int .u8 col] := Blk.new _ _
      have hx7 : Ext wr (wr.alloc (.cells #[.int .i64 kn, .int .i64 ox, .int .i64 oy, .int .i64 oz, .int .u8 tn, .int .u8 col] 85)) := (Ext.refl _).alloc _
      generalize (wr.alloc (.cells #[.int .i64 kn, .int .i64 ox, .int .i64 oy, .int .i64 oz, .int .u8 tn, .int .u8 col] 85)) = w7 at kq hx7 ⊢
      have p0 := kq.at_ 0 rfl
      have p1 := kq.at_ 1 rfl
      have p2 := kq.at_ 2 rfl
      have p3 := kq.at_ 3 rfl
      have p4 := kq.at_ 4 rfl
      have r0 := fun w' (he : Ext w7 w') => t0 w' (hx7.trans he)
      have r1 := fun w' (he : Ext w7 w') => t1 w' (hx7.trans he)
      have r2 := fun w' (he : Ext w7 w') => t2 w' (hx7.trans he)
      have Hx7 := Lib.hid hx7
      clear kq u0 u1 u2 u3 u4 u5 t0 t1 t2 z0
      refine Cg.wp_region_calm (p := Cg.extPre) (fr := (fun _ => false)) 13 (fun j _ v w' => j = 11 → ∃ g cap, v = .slice (some ⟨g, 0, none⟩) mk cap ∧ Own w7 w' 144 5 (.slice (some ⟨g, 0, none⟩) mk cap) mk ((klA KL k).map Kn.cells).flatten) (fun _ _ _ _ _ he h hj => by obtain ⟨g, cap, h1, h3⟩ := h hj; exact ⟨g, cap, h1, h3.later he⟩) (by kernel_rfl) (by kernel_rfl) ?_
      simp only [List.take_succ_cons, List.take_zero, List.drop_succ_cons, List.drop_zero]
      refine Cg.calm_quiet Cg.calm_mono_final w7 (fun _ h => h) 11 (by kernel_rfl) ?_
      simp only [List.take_succ_cons, List.take_zero, List.drop_succ_cons, List.drop_zero]
      repeat (go_big_quiet_step (fail))
      refine wpQuiet_nil ?_
      refine Cg.calm_call Cg.calm_mono_final 97 #[.agg #[.slice B L bc, .slice D mk dc, .int .i64 wt], .int .i64 tn, .agg #[.int .i64 ox, .int .i64 oy, .int .i64 oz]] rfl (fun w => ?_) (fun w' he hF => ?_) ?_
      · go_simp
      · exact (Hc.out w' (Hxw.out.trans (Hx7.out.trans he))).mono fun e w'' ⟨g, cap, he', ho⟩ => ⟨_, he', ho.ext, fun _ => ⟨g, cap, rfl, ho.since he⟩, fun h => by cases h⟩
      rintro _ w8 he8 h _
      obtain ⟨g, cap, rfl, ho⟩ := h rfl
      simp only [Act.put, List.setIfInBounds_toArray, List.set_cons_succ, List.set_cons_zero]
      refine Cg.calm_value Cg.calm_mono_final (fun v w => ∃ b, v = .slice (some ⟨b, 0, none⟩) 1 1 ∧ w.heap[b]? = some (.cells #[.slice (some ⟨g, 0, none⟩) mk cap] 80)) (fun _ w' w'' hR ⟨b, e, hh⟩ => ⟨b, e, (show Ext w' w'' from hR).heap hh⟩) rfl (fun w' hR _ => ⟨.slice (some ⟨w'.heap.size, 0, none⟩) 1 1, w'.alloc (.cells #[.slice (some ⟨g, 0, none⟩) mk cap] 80), by go_simp, (Ext.refl _).alloc _, ⟨_, rfl, heap_alloc_new _ _⟩, fun hf => by cases hf⟩) ?_
      rintro _ _ _ ⟨b9, rfl, _⟩ _
      simp only [Act.put, List.setIfInBounds_toArray, List.set_cons_succ, List.set_cons_zero]
      refine Cg.calm_nil fun w9 he9 hf9 => ?_
      clear ho h p0 p1 p2 p3 p4 r0 r1 r2 Hc he8 w8
      obtain ⟨g', cap', e', ho⟩ := (hf9.1 11).1.2 rfl rfl
      cases e'
      obtain ⟨b9', e9, hh9⟩ := (hf9.1 12).2 rfl
      simp only [Value.slice.injEq, Option.some.injEq, Addr.mk.injEq, and_true] at e9
      subst e9
      clear hf9
      have he9 : Ext w7 w9 := he9
      have hx79 := Hx7.out.trans he9
      obtain ⟨gs, g1, g2, g3⟩ := HT.out.later hx79
      rw [htl] at g2
      have G1 := Lib.hid g1
      have G2 := Lib.hid g2
      have G3 := Lib.hid g3
      have HF9 := Lib.hid (HF.out.later hx79)
      have HO9 := Lib.hid (ho.since (HT.out.ext.trans Hx7.out))
      have Hrw := Lib.hid (row_heap (l := [.slice (some ⟨g, 0, none⟩) mk cap]) hh9)
      have hk1 : (k : Int) < (k : Int) + 1 := by omega
      clear g1 g2 g3 ho hh9 he9 hx79 HF HT Hx7 hx7
      go_wp2_with (refine Gr.own_append_at knobs_elem rfl _ _ 156 rfl Tryz.underlying156 (.slice TA k tc) k _ rfl G2.out ⟨b9, 0, none⟩ 1 1 [.slice (some ⟨g, 0, none⟩) mk cap] rfl rfl Hrw.out (by intro u hu; simp only [List.mem_cons, List.not_mem_nil, or_false] at hu; rcases hu with rfl; rfl) (by omega) (by unfold maxLen; omega) ?_; intro v10 w10 ho10 hg10 hl10; have hbs := (fun j (e : (Value.slice TA k tc).ownBlock = some j) => (G2.out.2.lt j e).1); have HF10 := Lib.hid (HF9.out.kept hg10 ((HF9.out.ext_).grown hg10 hbs) (FaceM.ne HF9.out G2.out)); have hT10 := (Tab.snoc2 (l := klA KL k) G1.out (by rw [htl]; exact G2.out) G3.out (by decide) (by rw [← Hmk.out]; exact HO9.out) hg10 (by rw [htl, ← Hmk.out]; exact ho10)); rw [← Htk.out] at hT10; obtain ⟨X10, c10, rfl⟩ := ho10.form; have HT10 := Lib.hid hT10; obtain ⟨xd, gg, gc, rfl, hc10, ho11⟩ := hT10.last (by rw [HKlen.out]; exact hlt); rw [← Hmk.out] at hc10 ho11; have HO10 := Lib.hid ho11; clear ho10 ho11 hT10 hg10 hl10 hbs)
      have hx10 := HT10.out.ext
      go_loopw [48] (fun i wr => ∃ t : Nat, t ≤ mk ∧ i = .int .i64 t ∧ FaceM Wb wr gb (48 * k + t) (EndIn KL) ∧ Tab Kn.cells 144 5 80 Wb wr (.slice (some xd) (k + 1) c10) (KL.take (k + 1)) ∧ Own Wb wr 144 5 (.slice (some ⟨gg, 0, none⟩) mk gc) mk ((klA KL k).map Kn.cells).flatten) (fun i _ => mk - (intOf i).toNat)
      case atStart => exact ⟨0, by omega, rfl, HF10.out, HT10.out, HO10.out⟩
      case round =>
        clear HF10 HT10 HO10 hc10 hx10
        obtain ⟨t, ht, rfl, hF, hT, hO⟩ := hrel
        by_cases hlt2 : t < mk
        · have hti : (t : Int) < (mk : Int) := by omega
          have hrow : KnRow wr (some ⟨gg, 0, none⟩) (klA KL k) := hO.row
          have htk : t < (klA KL k).length := by rw [← Hmk.out]; exact hlt2
          obtain ⟨ad, ee, y0, y1, y2, y3, y4⟩ := hrow.at_ htk
          cases ee
          simp only [add_zero'] at y0 y1 y2 y3 y4
          obtain ⟨hn1, d0, d1, _, _⟩ := Hko2.out t htk
          have hei := HEI.out t htk
          obtain ⟨⟨⟨x, y, z⟩, dir, srt⟩, hkn⟩ : ∃ q, knA (klA KL k) t = q := ⟨_, rfl⟩
          rw [hkn] at y0 y1 y2 y3 y4 hn1 d0 d1
          simp only at y0 y1 y2 y3 y4 hn1 d0 d1
          have hn5 : nearP ⟨x, y, z⟩ (-5000) 5000 := by unfold nearP at *; simp only at *; omega
          have hxk : Ext wr (wr.alloc (.cells #[.int .i64 x, .int .i64 y, .int .i64 z, .int .u8 dir, .int .u8 srt] 144)) := (Ext.refl _).alloc _
          have HF3 := Lib.hid (hF.later hxk)
          have HT3 := Lib.hid (hT.later hxk)
          have HO3 := Lib.hid (hO.later hxk)
          have Hn5 := Lib.hid hn5
          have Hei := Lib.hid hei
          have hw2 : IntKind.i64.wrap ((t : Int) + 1) = ((t + 1 : Nat) : Int) := by rw [IntKind.wrap_i64]; omega
          have Hd := Lib.hid (And.intro d0 d1)
          clear hF hT hO hrow hkn hn1 d0 d1 hei hn5 hxk Hko2
          go_wp2_with (refine FaceM.store rfl _ _ _ rfl rfl HF3.out (by omega) ⟨x, y, z⟩ dir Hn5.out Hd.out.1 (by have := Hd.out.2; omega) (k : Int) (t : Int) Hei.out rfl rfl ?_; intro w12 hF12 hg12)
          obtain ⟨es, clock, hmap⟩ := HF3.out.isMap
          have HF := Lib.hid hF12
          have HT := Lib.hid (HT3.out.map hg12 Hbz.out hmap)
          have HO := Lib.hid (own_grown HO3.out hg12 (fun k e => by cases e; exact Hbz.out) (own_ne_map HO3.out hmap))
          clear hF12 hg12 hmap y0 y1 y2 y3 y4
          go_roundw
          case rel => exact ⟨t + 1, by omega, by go_num, HF.out, HT.out, HO.out⟩
          case measure => simp [intOf]; omega
        · obtain rfl : mk = t := by omega
          have HF := Lib.hid (hF.mono (show 48 * k + mk ≤ 48 * (k + 1) by omega) (fun _ _ h => h))
          have HT := Lib.hid hT
          clear hF hT hO
          go_wp2
          go_roundw
          case rel => exact ⟨k + 1, by omega, by go_num, HF.out, HT.out⟩
          case measure => simp [intOf]; omega
    · obtain rfl : m = k := by omega
      have hall : KL.take m = KL := List.take_of_length_le (by rw [HKlen.out]; exact Nat.le_refl _)
      rw [hall] at hT
      obtain ⟨TA, tc, rfl⟩ := hT.form
      rw [HKlen.out] at hT ⊢
      have HF := Lib.hid hF
      have HT := Lib.hid hT
      clear hF hT hall Hbr Hrd Z0 hk hlt
      go_wp2
      go_loopw [66, 12] (fun i o wr2 => ∃ (a : Nat) (LL : List Lnk), a ≤ m ∧ i = .int .i64 a ∧ OwnN Wb wr2 o LL ∧ Hid (∀ x ∈ LL, LnkOk KL x) ∧ LL.length ≤ 48 * a ∧ Hid (NK → LL = []) ∧ FaceM Wb wr2 gb (48 * m) (EndIn KL) ∧ Tab Kn.cells 144 5 80 Wb wr2 (.slice TA m tc) KL) (fun i _ _ => m - (intOf i).toNat)
      case atStart => exact ⟨0, [], by omega, rfl, Own.nil' HT.out.ext _ _, Lib.hid (fun x h => absurd h (by simp)), by simp, Lib.hid (fun _ => rfl), HF.out, HT.out⟩
      case round =>
        clear HF HT
        obtain ⟨a, LL, ha, rfl, hN, HL1, hLn, HL2, hF, hT⟩ := hrel
        by_cases hlt : a < m
        · have hai : (a : Int) < (m : Int) := by omega
          have hKa : a < KL.length := by rw [HKlen.out]; exact hlt
          obtain ⟨ad, c', g, gc, e, hcell, hO⟩ := hT.get hKa
          rw [HKlen.out] at e
          obtain rfl : TA = some ad := by simp only [Value.slice.injEq] at e; exact e.1
          clear e c'
          have hmoa := Hmo.out a hlt
          have Hkoa := Lib.hid (Hko.out a hlt)
          have Hnna := Lib.hid (fun h => Hnn.out h a hlt)
          obtain ⟨na, hna⟩ : ∃ na, na = (klA KL a).length := ⟨_, rfl⟩
          rw [← hna] at hcell hO hmoa
          simp only [← hna] at Hkoa Hnna
          have Hna := Lib.hid hna
          clear hna
          have hw1 : IntKind.i64.wrap ((a : Int) + 1) = ((a + 1 : Nat) : Int) := by rw [IntKind.wrap_i64]; omega
          have HN := Lib.hid hN
          have HF := Lib.hid hF
          have HT := Lib.hid hT
          have HO := Lib.hid hO
          clear hN hF hT hO hKa
          go_wp2
          clear hcell
          go_loopw [73, 12] (fun i o wr2 => ∃ (t : Nat) (LL : List Lnk), t ≤ na ∧ i = .int .i64 t ∧ OwnN Wb wr2 o LL ∧ Hid (∀ x ∈ LL, LnkOk KL x) ∧ LL.length ≤ 48 * a + t ∧ Hid (NK → LL = []) ∧ FaceM Wb wr2 gb (48 * m) (EndIn KL) ∧ Tab Kn.cells 144 5 80 Wb wr2 (.slice (some ad) m tc) KL ∧ Own Wb wr2 144 5 (.slice (some ⟨g, 0, none⟩) na gc) na ((klA KL a).map Kn.cells).flatten) (fun i _ _ => na - (intOf i).toNat)
          case atStart => exact ⟨0, LL, by omega, rfl, HN.out, HL1, by omega, HL2, HF.out, HT.out, HO.out⟩
          case round =>
            clear HN HF HT HO HL1 HL2 hLn LL
            obtain ⟨t, LL, ht, rfl, hN, HL1, hLn, HL2, hF, hT, hO⟩ := hrel
            by_cases hlt2 : t < na
            · have hti : (t : Int) < (na : Int) := by omega
              have hrow : KnRow wr (some ⟨g, 0, none⟩) (klA KL a) := hO.row
              obtain ⟨_, ee, y0, y1, y2, y3, y4⟩ := hrow.at_ (show t < (klA KL a).length by rw [← Hna.out]; exact hlt2)
              cases ee
              simp only [add_zero'] at y0 y1 y2 y3 y4
              obtain ⟨hn1, d0, d1, sr0, sr1⟩ := Hkoa.out t hlt2
              obtain ⟨⟨⟨x, y, z⟩, dir, srt⟩, hkn⟩ : ∃ q, knA (klA KL a) t = q := ⟨_, rfl⟩
              rw [hkn] at y0 y1 y2 y3 y4 hn1 d0 d1 sr0 sr1
              simp only at y0 y1 y2 y3 y4 hn1 d0 d1 sr0 sr1
              obtain ⟨dn, rfl⟩ : ∃ dn : Nat, dir = dn := ⟨dir.toNat, by omega⟩
              have hdn : dn < 6 := by omega
              obtain ⟨q, hq6, hxor⟩ := xor8 dn hdn
              have hst := fun w' => step_any dn hdn w'
              have hpl := fun w' => plus_any ⟨x, y, z⟩ (stepC dn) w' (by unfold nearP at *; omega) (by have := stepC_near dn; unfold nearP at *; omega)
              have hrn : nearP (plusC ⟨x, y, z⟩ (stepC dn)) (-5000) 5000 := by
                have := stepC_near dn
                unfold nearP plusC at *
                simp only at *
                omega
              obtain ⟨⟨sx, sy, sz⟩, hsE⟩ : ∃ s, stepC dn = s := ⟨_, rfl⟩
              rw [hsE] at hst hpl hrn
              obtain ⟨⟨rx, ry, rz⟩, hrE⟩ : ∃ s, plusC ⟨x, y, z⟩ ⟨sx, sy, sz⟩ = s := ⟨_, rfl⟩
              rw [hrE] at hpl hrn
              have Hst := Lib.hid hst
              have Hpl := Lib.hid hpl
              have Hrn := Lib.hid hrn
              have hcv : IntKind.i64.wrap (dn : Int) = (dn : Int) := by rw [IntKind.wrap_i64]; omega
              have hw2 : IntKind.i64.wrap ((t : Int) + 1) = ((t + 1 : Nat) : Int) := by rw [IntKind.wrap_i64]; omega
              have HS := Lib.hid (And.intro sr0 sr1)
              have HN := Lib.hid hN
              have HF := Lib.hid hF
              have HT := Lib.hid hT
              have HO := Lib.hid hO
              obtain ⟨OA, oc, rfl⟩ := hN.form
              have HLn := Lib.hid hLn
              clear hN hF hT hO hrow hkn hn1 d0 d1 sr0 sr1 hst hpl hrn hsE hrE hLn
              go_wp2
              have kq : Blk (wr.alloc (.cells #[.int .i64 x, .int .i64 y, .int .i64 z, .int .u8 dn, .int .u8 srt] 144)) wr.heap.size [.int .i64 x, .int .i64 y, .int .i64 z, .int .u8 dn, .int .u8 srt] := Blk.new _ _
              have hx7 : Ext wr (wr.alloc (.cells #[.int .i64 x, .int .i64 y, .int .i64 z, .int .u8 dn, .int .u8 srt] 144)) := (Ext.refl _).alloc _
              generalize (wr.alloc (.cells #[.int .i64 x, .int .i64 y, .int .i64 z, .int .u8 dn, .int .u8 srt] 144)) = w7 at kq hx7 ⊢
              have p0 := kq.at_ 0 rfl
              have p1 := kq.at_ 1 rfl
              have p2 := kq.at_ 2 rfl
              have p3 := kq.at_ 3 rfl
              have p4 := kq.at_ 4 rfl
              have KQ := Lib.hid kq
              have Hx7 := Lib.hid hx7
              have HF7 := Lib.hid (HF.out.later hx7)
              clear kq y0 y1 y2 y3 y4 hx7
              obtain ⟨ex, ey, is, hlook, hend⟩ := HF7.out.look ⟨rx, ry, rz⟩ q Hrn.out (by omega) (by omega)
              have Hend := Lib.hid hend
              have Hlook := Lib.hid hlook
              clear hend hlook
              refine Cg.wp_region_calm (p := Cg.putPre w7 250 #[.int .i64 0, .int .i64 0] #[.int .i64 ex, .int .i64 ey]) (fr := (fun _ => false)) 18 (fun j _ v _ => (j = 6 → v = .agg #[.int .i64 sx, .int .i64 sy, .int .i64 sz]) ∧ (j = 7 → v = .agg #[.int .i64 rx, .int .i64 ry, .int .i64 rz])) (fun _ _ _ _ _ _ h => h) (by kernel_rfl) (by kernel_rfl) ?_
              simp only [List.take_succ_cons, List.take_zero, List.drop_succ_cons, List.drop_zero]
              refine Cg.calm_quiet Cg.calm_mono_final w7 (fun _ h => Cg.putR.base h (Ext.refl _)) 6 (by kernel_rfl) ?_
              simp only [List.take_succ_cons, List.take_zero, List.drop_succ_cons, List.drop_zero]
              repeat (go_big_quiet_step (fail))
              refine wpQuiet_nil ?_
              refine Cg.calm_call Cg.calm_mono_final 140 #[.int .i64 dn] rfl (fun w => ?_) (fun w he hF => ?_) ?_
              · go_simp
              · exact (Hst.out w).mono fun e w'' ⟨he', hx⟩ => ⟨_, he', Cg.putR.of_ext hx, ⟨fun _ => rfl, fun h => (by cases h)⟩, fun h => by cases h⟩
              rintro _ _ _ h _
              cases h.1 rfl
              simp only [Act.put, List.setIfInBounds_toArray, List.set_cons_succ, List.set_cons_zero]
              refine Cg.calm_call Cg.calm_mono_final 103 #[.agg #[.int .i64 x, .int .i64 y, .int .i64 z], .agg #[.int .i64 sx, .int .i64 sy, .int .i64 sz]] rfl (fun w => ?_) (fun w he hF => ?_) ?_
              · go_simp
              · exact (Hpl.out w).mono fun e w'' ⟨he', hx⟩ => ⟨_, he', Cg.putR.of_ext hx, ⟨fun h => (by cases h), fun _ => rfl⟩, fun h => by cases h⟩
              rintro _ _ _ h _
              cases h.2 rfl
              simp only [Act.put, List.setIfInBounds_toArray, List.set_cons_succ, List.set_cons_zero]
              refine Cg.calm_quiet Cg.calm_mono_final w7 (fun _ h => Cg.putR.base h (Ext.refl _)) 3 (by kernel_rfl) ?_
              simp only [List.take_succ_cons, List.take_zero, List.drop_succ_cons, List.drop_zero]
              repeat (go_big_quiet_step (fail))
              refine wpQuiet_nil ?_
              refine Cg.calm_value Cg.calm_mono_final (fun v _ => v = .agg #[.int .i64 rx, .int .i64 ry, .int .i64 rz, .int .u8 q]) (fun _ _ _ _ h => h) rfl (fun w' hR _ => ⟨_, w', by go_simp, Cg.putR.of_ext (Ext.refl _), rfl, fun hf => by cases hf⟩) ?_
              rintro _ _ _ rfl _
              simp only [Act.put, List.setIfInBounds_toArray, List.set_cons_succ, List.set_cons_zero]
              refine Cg.calm_value Cg.calm_mono_final (fun v _ => v = .tuple #[.agg #[.int .i64 ex, .int .i64 ey], .bool is]) (fun _ _ _ _ h => h) rfl (fun w' hR _ => by
                have hrun := Hlook.out w' (Cg.putR.base hR (Ext.refl _))
                exact ⟨_, w', by go_simp, Cg.putR.of_ext (Ext.refl _), rfl, fun hf => by cases hf⟩) ?_
              rintro _ _ _ rfl _
              simp only [Act.put, List.setIfInBounds_toArray, List.set_cons_succ, List.set_cons_zero]
              refine Cg.calm_quiet Cg.calm_mono_final w7 (fun _ h => Cg.putR.base h (Ext.refl _)) 3 (by kernel_rfl) ?_
              simp only [List.take_succ_cons, List.take_zero, List.drop_succ_cons, List.drop_zero]
              repeat (go_big_quiet_step (fail))
              refine wpQuiet_nil ?_
              refine Cg.calm_value Cg.calm_mono_final (fun v w => ∃ g, v = .pointer (some ⟨g, 0, none⟩) ∧ w7.heap.size ≤ g ∧ Cg.PutIn 250 #[.int .i64 0, .int .i64 0] #[.int .i64 ex, .int .i64 ey] g w) (fun _ w' w'' hR ⟨g, e, h1, h2⟩ => ⟨g, e, h1, h2.kept hR⟩) rfl (fun w' hR _ => ⟨.pointer (some ⟨w'.heap.size, 0, none⟩), w'.alloc (.cells #[.int .i64 0, .int .i64 0] 250), by go_simp, Cg.putR.of_ext ((Ext.refl _).alloc _), ⟨_, rfl, hR.1.2.2.2, .inl (heap_alloc_new _ _)⟩, fun hf => by cases hf⟩) ?_
              rintro _ _ _ ⟨g8, rfl, hg8, _⟩ _
              simp only [Act.put, List.setIfInBounds_toArray, List.set_cons_succ, List.set_cons_zero]
              refine Cg.calm_put Cg.calm_mono_final (fun w => w.heap[g8]? = some (.cells #[.int .i64 ex, .int .i64 ey] 250)) (fun _ _ hR h => Cg.put_done h hR) (by kernel_rfl) rfl (fun w' hR hF => ?_) fun w' hR hT => ?_
              · obtain ⟨g', e1, _, hh⟩ := (hF 16 (by kernel_rfl)).2 rfl
                simp only [Value.pointer.injEq, Option.some.injEq, Addr.mk.injEq, and_true] at e1
                subst e1
                obtain ⟨⟨c0, hc0⟩, ⟨c1, hc1⟩, hfz⟩ := put_cells hh
                have hpt := put_two hh hg8
                refine ⟨_, ?_, hpt.1, hpt.2⟩
                go_simp
              simp only [Act.put]
              refine Cg.calm_nil fun w9 he9 hf9 => ?_
              have hh9 : w9.heap[g8]? = some (.cells #[.int .i64 ex, .int .i64 ey] 250) := (hf9.1 17).2 rfl
              have hx9 : Ext w7 w9 := Cg.putR.base he9 (Ext.refl _)
              have e0 : ∀ w', Ext w9 w' → w'.cell? ⟨g8, 0, none⟩ = some (.int .i64 ex) := fun w' he => he.cell ((Whole.mk hh9).cell 0 rfl)
              have e1 : ∀ w', Ext w9 w' → w'.cell? ⟨g8, 1, none⟩ = some (.int .i64 ey) := fun w' he => he.cell ((Whole.mk hh9).cell 1 rfl)
              have KQ9 := KQ.out.ext hx9
              have p0 := KQ9.at_ 0 rfl
              have p1 := KQ9.at_ 1 rfl
              have p2 := KQ9.at_ 2 rfl
              have p3 := KQ9.at_ 3 rfl
              have p4 := KQ9.at_ 4 rfl
              have hx79 := Hx7.out.trans hx9
              have HN9 := Lib.hid (HN.out.later hx79)
              have HF9 := Lib.hid (HF.out.later hx79)
              have HT9 := Lib.hid (HT.out.later hx79)
              have HO9 := Lib.hid (HO.out.later hx79)
              clear KQ KQ9 hx79 hx9 hh9 he9 hf9 Hst Hpl Hlook HF7 HN HF HT HO Hx7 hcv hxor hg8 Hrn
              cases is with
              | false =>
                clear Hend
                go_wp2
                go_roundw
                case rel => exact ⟨t + 1, LL, by omega, by go_num, HN9.out, HL1, (by have := HLn.out; omega), HL2, HF9.out, HT9.out, HO9.out⟩
                case measure => simp [intOf]; omega
              | true =>
                obtain ⟨⟨hx0, hx1⟩, hy0, hy1⟩ := Hend.out rfl
                clear Hend
                obtain ⟨xn, rfl⟩ : ∃ xn : Nat, ex = xn := ⟨ex.toNat, by omega⟩
                obtain ⟨yn, rfl⟩ : ∃ yn : Nat, ey = yn := ⟨ey.toNat, by omega⟩
                simp only [Int.toNat_natCast] at hy1
                have hxm : xn < KL.length := by omega
                have hx1 : (xn : Int) < (m : Int) := by rw [HKlen.out] at hx1; exact hx1
                by_cases hle : (xn : Int) ≤ (a : Int)
                · go_wp2
                  go_roundw
                  case rel => exact ⟨t + 1, LL, by omega, by go_num, HN9.out, HL1, (by have := HLn.out; omega), HL2, HF9.out, HT9.out, HO9.out⟩
                  case measure => simp [intOf]; omega
                · obtain ⟨ad2, c2, g2, gc2, ee2, hcell2, hO2⟩ := HT9.out.get hxm
                  obtain rfl : ad = ad2 := by simp only [Value.slice.injEq, Option.some.injEq] at ee2; exact ee2.1
                  clear ee2 c2
                  have hrow2 : KnRow w9 (some ⟨g2, 0, none⟩) (klA KL xn) := hO2.row
                  obtain ⟨_, ee2, _, _, _, _, z4⟩ := hrow2.at_ (show yn < (klA KL xn).length by omega)
                  cases ee2
                  simp only [add_zero'] at z4
                  obtain ⟨_, _, _, so0, so1⟩ := Hko.out xn (by omega) yn (by omega)
                  obtain ⟨srt2, hs2⟩ : ∃ q, (knA (klA KL xn) yn).srt = q := ⟨_, rfl⟩
                  rw [hs2] at z4 so0 so1
                  have HS2 := Lib.hid (And.intro so0 so1)
                  have hyl : (yn : Int) < ((klA KL xn).length : Int) := by omega
                  have Hy1 := Lib.hid hy1
                  obtain ⟨nx, hnx⟩ : ∃ nx, nx = (klA KL xn).length := ⟨_, rfl⟩
                  rw [← hnx] at hyl hcell2
                  clear hO2 hrow2 so0 so1 hs2 hnx hy1
                  go_wp2
                  refine Cg.wp_region_calm (p := Cg.extPre) (fr := (fun _ => false)) 10 (fun _ _ _ _ => True) (fun _ _ _ _ _ _ h => h) (by kernel_rfl) (by kernel_rfl) ?_
                  simp only [List.take_succ_cons, List.take_zero, List.drop_succ_cons, List.drop_zero]
                  refine Cg.calm_quiet Cg.calm_mono_final w9 (fun _ h => h) 10 (by kernel_rfl) ?_
                  simp only [List.take_succ_cons, List.take_zero, List.drop_succ_cons, List.drop_zero]
                  repeat (go_big_quiet_step (fail))
                  refine wpQuiet_nil ?_
                  refine Cg.calm_nil fun w10 he10 _ => ?_
                  have he10 : Ext w9 w10 := he10
                  have q0 := fun w' he => e0 w' (he10.trans he)
                  have q1 := fun w' he => e1 w' (he10.trans he)
                  have r4 := fun w' he => p4 w' (he10.trans he)
                  have HN10 := Lib.hid (HN9.out.later he10)
                  have HF10 := Lib.hid (HF9.out.later he10)
                  have HT10 := Lib.hid (HT9.out.later he10)
                  have HO10 := Lib.hid (HO9.out.later he10)
                  clear p0 p1 p2 p3 p4 e0 e1 z4 hcell2 HN9 HF9 HT9 HO9 he10
                  by_cases hs1 : (srt + 1) % 256 / 2 = (srt2 + 1) % 256 / 2
                  · by_cases hs2 : srt = srt2
                    · go_wp2
                      go_roundw
                      case rel => exact ⟨t + 1, LL, by omega, by go_num, HN10.out, HL1, (by have := HLn.out; omega), HL2, HF10.out, HT10.out, HO10.out⟩
                      case measure => simp [intOf]; omega
                    · by_cases hm : srt < srt2
                      · obtain ⟨hp1, hp2⟩ := pair_srt HS.out HS2.out (by have := HS.out; have := HS2.out; omega)
                        have hx11 : Ext w10 (w10.alloc (.cells #[.int .i64 a, .int .i64 xn, .int .i64 t, .int .i64 yn, .int .u8 srt] 163)) := (Ext.refl _).alloc _
                        have HN11 := Lib.hid (HN10.out.later hx11)
                        have HF11 := Lib.hid (HF10.out.later hx11)
                        have HT11 := Lib.hid (HT10.out.later hx11)
                        have HO11 := Lib.hid (HO10.out.later hx11)
                        have Hrw := Lib.hid (Gr.row_alloc w10 #[.int .i64 a, .int .i64 xn, .int .i64 t, .int .i64 yn, .int .u8 srt] 163)
                        have hlk : LnkOk KL ⟨a, xn, t, yn, srt⟩ := ⟨by show (0 : Int) ≤ a; omega, by show (a : Int) < xn; omega, by show (xn : Int) < KL.length; rw [HKlen.out]; omega, by show (0 : Int) ≤ t; omega, by show (t : Int) < (klA KL (a : Int).toNat).length; rw [Int.toNat_natCast, ← Hna.out]; omega, by show (0 : Int) ≤ yn; omega, by show (yn : Int) < (klA KL (xn : Int).toNat).length; rw [Int.toNat_natCast]; exact Hy1.out, hp1 hm⟩
                        have Hlk := Lib.hid hlk
                        have Hle := Lib.hid (show LL.length ≤ 3000 by have := HLn.out; omega)
                        have hmn : min srt srt2 = srt := by omega
                        clear hx11 hlk hp1 hp2 HN10 HF10 HT10 HO10
                        go_wp2_with (refine Gr.own_append_at link_elem rfl _ _ 159 rfl Tryz.underlying159 (.slice OA LL.length oc) LL.length _ rfl HN11.out ⟨w10.heap.size, 0, none⟩ 1 1 [.int .i64 a, .int .i64 xn, .int .i64 t, .int .i64 yn, .int .u8 srt] rfl rfl Hrw.out (by intro u hu; simp only [List.mem_cons, List.not_mem_nil, or_false] at hu; rcases hu with rfl | rfl | rfl | rfl | rfl <;> rfl) (by have := Hle.out; omega) (by have := Hle.out; unfold maxLen; omega) ?_; intro v12 w12 ho12 hg12 hl12; have hbs := (fun j (e : (Value.slice OA LL.length oc).ownBlock = some j) => (HN11.out.2.lt j e).1); have HF12 := Lib.hid (HF11.out.kept hg12 ((HF11.out.ext_).grown hg12 hbs) (FaceM.ne HF11.out HN11.out)); have HT12 := Lib.hid (HT11.out.row HN11.out hg12 (by decide) (by decide)); have HO12 := Lib.hid (own_grown HO11.out hg12 hbs (own_ne_row HO11.out HN11.out.2 (by decide))); have hN12 : OwnN Wb w12 v12 (LL ++ [⟨a, xn, t, yn, srt⟩]) := (by show Own _ _ _ _ _ _ _; rw [List.length_append, List.map_append, List.flatten_append]; exact ho12); have HN12 := Lib.hid hN12; clear ho12 hN12 hg12 hl12 hbs)
                        go_roundw
                        case rel =>
                          refine ⟨t + 1, LL ++ [⟨a, xn, t, yn, srt⟩], by omega, by go_num, HN12.out, Lib.hid (fun x hx => ?_), ?_, Lib.hid (fun h => ?_), HF12.out, HT12.out, HO12.out⟩
                          · rw [List.mem_append, List.mem_singleton] at hx
                            rcases hx with hx | rfl
                            · exact HL1.out x hx
                            · exact Hlk.out
                          · rw [List.length_append, List.length_singleton]
                            have := HLn.out
                            omega
                          · have := Hnna.out h
                            omega
                        case measure => simp [intOf]; omega
                      · obtain ⟨hp1, hp2⟩ := pair_srt HS.out HS2.out (by have := HS.out; have := HS2.out; omega)
                        have hx11 : Ext w10 (w10.alloc (.cells #[.int .i64 a, .int .i64 xn, .int .i64 t, .int .i64 yn, .int .u8 srt2] 163)) := (Ext.refl _).alloc _
                        have HN11 := Lib.hid (HN10.out.later hx11)
                        have HF11 := Lib.hid (HF10.out.later hx11)
                        have HT11 := Lib.hid (HT10.out.later hx11)
                        have HO11 := Lib.hid (HO10.out.later hx11)
                        have Hrw := Lib.hid (Gr.row_alloc w10 #[.int .i64 a, .int .i64 xn, .int .i64 t, .int .i64 yn, .int .u8 srt2] 163)
                        have hlk : LnkOk KL ⟨a, xn, t, yn, srt2⟩ := ⟨by show (0 : Int) ≤ a; omega, by show (a : Int) < xn; omega, by show (xn : Int) < KL.length; rw [HKlen.out]; omega, by show (0 : Int) ≤ t; omega, by show (t : Int) < (klA KL (a : Int).toNat).length; rw [Int.toNat_natCast, ← Hna.out]; omega, by show (0 : Int) ≤ yn; omega, by show (yn : Int) < (klA KL (xn : Int).toNat).length; rw [Int.toNat_natCast]; exact Hy1.out, hp2 (by omega)⟩
                        have Hlk := Lib.hid hlk
                        have Hle := Lib.hid (show LL.length ≤ 3000 by have := HLn.out; omega)
                        have hmn : min srt srt2 = srt2 := by omega
                        clear hx11 hlk hp1 hp2 HN10 HF10 HT10 HO10
                        go_wp2_with (refine Gr.own_append_at link_elem rfl _ _ 159 rfl Tryz.underlying159 (.slice OA LL.length oc) LL.length _ rfl HN11.out ⟨w10.heap.size, 0, none⟩ 1 1 [.int .i64 a, .int .i64 xn, .int .i64 t, .int .i64 yn, .int .u8 srt2] rfl rfl Hrw.out (by intro u hu; simp only [List.mem_cons, List.not_mem_nil, or_false] at hu; rcases hu with rfl | rfl | rfl | rfl | rfl <;> rfl) (by have := Hle.out; omega) (by have := Hle.out; unfold maxLen; omega) ?_; intro v12 w12 ho12 hg12 hl12; have hbs := (fun j (e : (Value.slice OA LL.length oc).ownBlock = some j) => (HN11.out.2.lt j e).1); have HF12 := Lib.hid (HF11.out.kept hg12 ((HF11.out.ext_).grown hg12 hbs) (FaceM.ne HF11.out HN11.out)); have HT12 := Lib.hid (HT11.out.row HN11.out hg12 (by decide) (by decide)); have HO12 := Lib.hid (own_grown HO11.out hg12 hbs (own_ne_row HO11.out HN11.out.2 (by decide))); have hN12 : OwnN Wb w12 v12 (LL ++ [⟨a, xn, t, yn, srt2⟩]) := (by show Own _ _ _ _ _ _ _; rw [List.length_append, List.map_append, List.flatten_append]; exact ho12); have HN12 := Lib.hid hN12; clear ho12 hN12 hg12 hl12 hbs)
                        go_roundw
                        case rel =>
                          refine ⟨t + 1, LL ++ [⟨a, xn, t, yn, srt2⟩], by omega, by go_num, HN12.out, Lib.hid (fun x hx => ?_), ?_, Lib.hid (fun h => ?_), HF12.out, HT12.out, HO12.out⟩
                          · rw [List.mem_append, List.mem_singleton] at hx
                            rcases hx with hx | rfl
                            · exact HL1.out x hx
                            · exact Hlk.out
                          · rw [List.length_append, List.length_singleton]
                            have := HLn.out
                            omega
                          · have := Hnna.out h
                            omega
                        case measure => simp [intOf]; omega
                  · go_wp2
                    go_roundw
                    case rel => exact ⟨t + 1, LL, by omega, by go_num, HN10.out, HL1, (by have := HLn.out; omega), HL2, HF10.out, HT10.out, HO10.out⟩
                    case measure => simp [intOf]; omega
            · obtain rfl : na = t := by omega
              have HN := Lib.hid hN
              have HF := Lib.hid hF
              have HT := Lib.hid hT
              clear hN hF hT hO
              go_wp2
              go_roundw
              case rel => exact ⟨a + 1, LL, by omega, by go_num, HN.out, HL1, by omega, HL2, HF.out, HT.out⟩
              case measure => simp [intOf]; omega
        · obtain rfl : m = a := by omega
          have HT := Lib.hid hT
          obtain ⟨OA, oc, rfl⟩ := hN.form
          have hsrt := sort_links _ LL Wb wr hN (by omega)
          obtain ⟨nl, hnl⟩ : ∃ nl, nl = LL.length := ⟨_, rfl⟩
          rw [← hnl] at hsrt hN ⊢
          have Hs := Lib.hid hsrt
          have Hnl := Lib.hid hnl
          clear hnl
          have HN := Lib.hid hN
          clear hN hF hT hsrt
          go_wp2_with (go_at_call 141; refine (Hs.out).mono ?_; rintro e w9 ⟨rfl, ⟨qs, hpm, hq⟩, hg9⟩; have HT9 := Lib.hid (HT.out.row HN.out hg9 (by decide) (by decide)); have HN9 := Lib.hid hq; have Hpm := Lib.hid hpm; clear hq hpm hg9)
          go_ret2
          refine ⟨_, _, qs, rfl, Own.since HN9.out HWb.out, HT9.out.since HWb.out, fun x hx => HL1.out x (Hpm.out.mem_iff.1 hx), ?_, fun h => ?_⟩
          · have := Hpm.out.length_eq
            have := Hnl.out
            omega
          · have h0 := HL2.out h
            subst h0
            exact Hpm.out.eq_nil
end Go.Proofs.YtebkhdhhajjhfaaGreat.Lt
