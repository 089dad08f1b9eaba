/- Overlaps: no pair exactly if no two bricks share a cell. -/
import Derived.Test.YtebkhdhhajjhfaaGreatT32
import Derived.Test.YtebkhdhhajjhfaaGreatT04
import Derived.Maps.RangeWalk
import Derived.Shelf.SlSortCmp.NoneTotal
import Derived.Test.YtebkhdhhajjhfaaGreatT17
import Derived.Test.YtebkhdhhajjhfaaGreatT15
import Derived.Test.YtebkhdhhajjhfaaGreatT24
namespace Go.Proofs.YtebkhdhhajjhfaaGreat.Lt
open Go Go.RowKit Go.Maps Go.ChangeShapes
def ordP (p q : Int × Int) : Int := cmpL [p.1, p.2] [q.1, q.2]
theorem ordP_neg {p q : Int × Int} : ordP p q < 0 ↔ p.1 < q.1 ∨ p.1 = q.1 ∧ p.2 < q.2 := by
  have a1 := @cmpI_zero p.1 q.1
  have a2 := @cmpI_neg p.1 q.1
  have b1 := @cmpI_zero p.2 q.2
  have b2 := @cmpI_neg p.2 q.2
  unfold ordP
  simp only [cmpL]
  split
  · split <;> omega
  · omega
theorem swo_pair : Go.Sort.SWO (ltOf ordP) where
  irrefl x := by
    unfold ltOf
    exact decide_eq_false fun h => by have := ordP_neg.1 h; omega
  trans x y z h1 h2 := by
    unfold ltOf at *
    have h1 := ordP_neg.1 (of_decide_eq_true h1)
    have h2 := ordP_neg.1 (of_decide_eq_true h2)
    exact decide_eq_true (ordP_neg.2 (by omega))
  ntrans x y z h1 h2 := by
    unfold ltOf at *
    have h1 := mt ordP_neg.2 (of_decide_eq_false h1)
    have h2 := mt ordP_neg.2 (of_decide_eq_false h2)
    exact decide_eq_false fun h => by have := ordP_neg.1 h; omega
/-- Sorting pairs: in the call's own row. -/
theorem sort_pairs (v : Value) (ps : List (Int × Int)) (w0 w : World) (h : Own w0 w 173 2 v ps.length (ps.map fun p => [Value.int .i64 p.1, Value.int .i64 p.2]).flatten) (hl : ps.length ≤ 100000000) : Calls Tryz.prog 74 #[v, .func (.func 75) #[] #[]] w fun e w' => e = .returned (.tuple #[]) ∧ Ext w0 w' := by
  have hk : ∀ x : Int × Int, [Value.int .i64 x.1, Value.int .i64 x.2].length = 2 := fun _ => rfl
  by_cases hn : 0 < ps.length
  · obtain ⟨g, cap, rfl, _, _⟩ := h.at_ hn
    have h : Own w0 w 173 2 (.slice (some ⟨g, 0, none⟩) ps.toArray.size cap) ps.toArray.size (ps.toArray.toList.map fun p => [Value.int .i64 p.1, Value.int .i64 p.2]).flatten := h
    have eg : ∀ args w, (callFunc 75 args).run Tryz.prog w = .ok (.enter 75 args) w := Go.Proofs.enters_of Tryz.func75 (by kernel_rfl) rfl
    have hcon := AnyQ.slices_SortFunc sortPairsL 2 Tryz.isAgg173 Tryz.sizeOf173 (fun p : Int × Int => [Value.int .i64 p.1, Value.int .i64 p.2]) hk (fun x v hv => by simp at hv; rcases hv with rfl | rfl <;> rfl) ordP swo_pair 75 #[] g 0 cap ps.toArray w eg (fun _ _ _ _ x y => pair_ord x y _) (own_holds hk h) (World.ownsRow.lt h.2 g rfl).2 (by simp; omega)
    refine Calls.mono hcon ?_
    rintro e w' ⟨rfl, d', m, os, hp, _, rfl⟩
    exact ⟨rfl, (own_sorted hk h hp.1).ext⟩
  · have h0 : ps.length = 0 := by omega
    have hx := h.1
    obtain ⟨p, cap, rfl⟩ : ∃ p cap, v = .slice p 0 cap := by
      rcases h.2.2 with ⟨rfl, _⟩ | ⟨g, cap, cur, rfl, _⟩
      · exact ⟨none, 0, rfl⟩
      · exact ⟨_, cap, by rw [h0]⟩
    exact (AnyF.slices_SortFunc_none sortPairsL p cap _ w).mono fun _ _ ⟨e, hw⟩ => ⟨e, hw ▸ hx⟩
set_option maxRecDepth 100000 in
set_option maxHeartbeats 1000000 in
theorem overlaps_any (l : List Ki) (A : Option Addr) (c : Nat) (ms : List Br) (M : Option Addr) (mc : Nat) (w : World) (hA : KiRow w A l) (hl : l.length ≤ 16) (hk : ∀ i, i < l.length → BareOk (kiA l i)) (hM : BrRow w M ms) (hm : ms.length ≤ 40) (hb : ∀ i, i < ms.length → BrOk l.length (brA ms i)) :
    Calls Tryz.prog 39 #[.slice A l.length c, .agg #[.slice M ms.length mc]] w fun e w' => ∃ X n x, e = .returned (.tuple #[.slice X n x, .int .i64 0]) ∧ (0 < (n : Int) ↔ ovlP l ms ms.length) ∧ Ext w w' := by
  have hmm := @run_makeMap Tryz.prog
  have hcc := fun w' (he : Ext w w') => checkkinds_any l A c w' (hA.ext he) hl hk
  have hck := fun w' (he : Ext w w') => check_any l A c ms M mc w' (hA.ext he) hl hk (hM.ext he) (by omega) hb
  obtain ⟨m, hmE⟩ : ∃ m, m = ms.length := ⟨_, rfl⟩
  obtain ⟨n, hnE⟩ : ∃ n, n = l.length := ⟨_, rfl⟩
  rw [← hmE] at hm ⊢
  rw [← hnE] at hl ⊢
  simp only [← hmE, ← hnE] at hcc hck hb
  have HA := Lib.hid hA
  have HM := Lib.hid hM
  have Hk := Lib.hid hk
  have Hb := Lib.hid hb
  have HmE := Lib.hid hmE
  have HnE := Lib.hid hnE
  have Hcc := Lib.hid hcc
  have Hck := Lib.hid hck
  have k0 : Blk (w.alloc (.cells #[.slice M m mc] 25)) w.heap.size [.slice M m mc] := Blk.new _ _
  have x0 : Ext w (w.alloc (.cells #[.slice M m mc] 25)) := (Ext.refl w).alloc _
  have b0 := k0.at_ 0 rfl
  have hmi : ¬ (m : Int) > 40 := by omega
  clear hcc hck hA hM hk hb k0 hmE hnE
  go_enter Tryz.func39, Tryz.ntmps39
  go_wp2_with (first
    | (go_at_call 73; refine (Hcc.out _ x0).mono ?_; rintro e w1 ⟨rfl, hx1⟩; have x1 := x0.trans hx1; have b1 := fun w' (he : Ext w1 w') => b0 w' (hx1.trans he); clear b0 x0 hx1)
    | (go_at_call 71; refine (Hck.out _ x1).mono ?_; rintro e w2 ⟨rfl, hx2⟩; have x2 := x1.trans hx2; have b2 := fun w' (he : Ext w2 w') => b1 w' (hx2.trans he); have b3 := b2 _ (((Ext.refl w2).alloc (.map #[] 0)).alloc (.map #[] 0)); clear b1 x1 hx2))
  have hI0 : InM w2 (w2.alloc (.map #[] 0)) w2.heap.size (w2.heap.size + 1) 0 (fun _ _ => False) := InM.start (Ext.refl w2) rfl
  have hP0 : PrM w2 ((w2.alloc (.map #[] 0)).alloc (.map #[] 0)) (w2.heap.size + 1) 0 False := PrM.start (w := w2.alloc (.map #[] 0)) ((Ext.refl _).alloc _) (by simp)
  have HI0 := Lib.hid (hI0.later ((Ext.refl _).alloc (.map #[] 0)))
  have HP0 := Lib.hid hP0
  clear hI0 hP0 hmm Hcc Hck b2 b3 hmi
  go_loopw [39] (fun i wr => ∃ k : Nat, k ≤ m ∧ i = .int .i64 k ∧ InM w2 wr w2.heap.size (w2.heap.size + 1) (24 * k) (fB l ms k) ∧ PrM w2 wr (w2.heap.size + 1) (100000 * k) (ovlP l ms k)) (fun i _ => m - (intOf i).toNat)
  case atStart =>
    exact ⟨0, by omega, rfl, HI0.out.congr fun c _ x => ⟨False.elim, fB_zero _ _ _ _⟩, HP0.out.congr ⟨False.elim, ovl_zero _ _⟩⟩
  case round =>
    clear HI0 HP0
    obtain ⟨k, hkm, rfl, hI, hP⟩ := hrel
    by_cases hlt : k < m
    · have hki : (k : Int) < (m : Int) := by omega
      have hbk := Hb.out k hlt
      obtain ⟨am, rfl, y0, y1, y2, y3, y4, y5⟩ := HM.out.at_ (show k < ms.length by rw [← HmE.out]; exact hlt)
      have hx := x2.trans hI.ext
      have u0 := fun w' he => y0 w' (hx.trans he)
      have u1 := fun w' he => y1 w' (hx.trans he)
      have u2 := fun w' he => y2 w' (hx.trans he)
      have u3 := fun w' he => y3 w' (hx.trans he)
      have u4 := fun w' he => y4 w' (hx.trans he)
      have u5 := fun w' he => y5 w' (hx.trans he)
      clear y0 y1 y2 y3 y4 y5
      have hpl : plB l ms k = placed (kiA l (brA ms k).kind.toNat).cs (brA ms k).trn.toNat (brA ms k).at_ := rfl
      generalize brA ms k = b at *
      obtain ⟨kind, ⟨ox, oy, oz⟩, trn, col⟩ := b
      obtain ⟨z0, z1, hnear, t0, t1, c0, c1⟩ := hbk
      simp only at u0 u1 u2 u3 u4 u5 z0 z1 hnear t0 t1 c0 c1 hpl
      obtain ⟨kn, rfl⟩ : ∃ kn : Nat, kind = kn := ⟨kind.toNat, by omega⟩
      obtain ⟨tn, rfl⟩ : ∃ tn : Nat, trn = tn := ⟨trn.toNat, by omega⟩
      have hkn : kn < n := by omega
      have htn : tn < 24 := by omega
      have htw : IntKind.i64.wrap (tn : Int) = (tn : Int) := by rw [IntKind.wrap_i64]; omega
      rw [show ((kn : Int).toNat) = kn by omega, show ((tn : Int).toNat) = tn by omega] at hpl
      obtain ⟨ak, B, bc, D, dc, rfl, s0, s1, s2, hcs, hks⟩ := HA.out kn (by rw [← HnE.out]; exact hkn)
      have q0 := fun w' he => s0 w' (hx.trans he)
      have q1 := fun w' he => s1 w' (hx.trans he)
      have q2 := fun w' he => s2 w' (hx.trans he)
      have hkk := Hk.out kn (by rw [← HnE.out]; exact hkn)
      rw [show (kiA l kn).ks.length = 0 by rw [hkk.ks]; rfl] at q1
      have hcl := fun w' (he : Ext wr w') => cells_any (kiA l kn).cs B bc D 0 dc (kiA l kn).wt tn ⟨ox, oy, oz⟩ w' (hcs.ext (hx.trans he)) (by have := hkk.n1; omega) (bare_near hkk) htn hnear
      have hcn : (plB l ms k).Nodup := by rw [hpl]; exact placed_nodup (bare_nodup hkk) _ _
      have hcr : ∀ c ∈ plB l ms k, nearP c (-2000) 2000 := by rw [hpl]; exact fun c hc => placed_near (bare_near hkk) hnear tn hc
      have hcL : (kiA l kn).cs.length ≤ 24 := hkk.n1
      rw [← hpl] at hcl
      have hpL : (plB l ms k).length = (kiA l kn).cs.length := by rw [hpl]; simp [placed]
      have Hx := Lib.hid hx
      have Hcl := Lib.hid hcl
      have Hcn := Lib.hid hcn
      have Hcr := Lib.hid hcr
      have Hpl := Lib.hid hpl
      have HpL := Lib.hid hpL
      have HI := Lib.hid hI
      have HP := Lib.hid hP
      clear hx hcl hcn hcr hpl hpL hI hP s0 s1 s2 hkk hcs hks hnear z0 z1 t0 t1 c0 c1 HA HM Hk Hb
      generalize (kiA l kn).cs.length = L at *
      generalize (kiA l kn).wt = wt at *
      have hkn0 : (kn : Int) < (n : Int) := by omega
      go_wp2
      have kq : Blk (wr.alloc (.cells #[.int .i64 kn, .int .i64 ox, .int .i64 oy, .int .i64 oz, .int .u8 tn, .int .u8 col] 85)) wr.heap.size [.int .i64 kn, .int .i64 ox, .int .i64 oy, .int .i64 oz, .int .u8 tn, .int .u8 col] := Blk.new _ _
      have hx7 : Ext wr (wr.alloc (.cells #[.int .i64 kn, .int .i64 ox, .int .i64 oy, .int .i64 oz, .int .u8 tn, .int .u8 col] 85)) := (Ext.refl _).alloc _
      generalize (wr.alloc (.cells #[.int .i64 kn, .int .i64 ox, .int .i64 oy, .int .i64 oz, .int .u8 tn, .int .u8 col] 85)) = w7 at kq hx7 ⊢
      have p0 := kq.at_ 0 rfl
      have p1 := kq.at_ 1 rfl
      have p2 := kq.at_ 2 rfl
      have p3 := kq.at_ 3 rfl
      have p4 := kq.at_ 4 rfl
      have r0 := fun w' (he : Ext w7 w') => q0 w' (hx7.trans he)
      have r1 := fun w' (he : Ext w7 w') => q1 w' (hx7.trans he)
      have r2 := fun w' (he : Ext w7 w') => q2 w' (hx7.trans he)
      clear kq u0 u1 u2 u3 u4 u5 q0 q1 q2
      refine Cg.wp_region_calm (p := Cg.extPre) (fr := (fun _ => false)) 13 (fun j _ v w' => j = 10 → ∃ g cap qs, v = .slice (some ⟨g, 0, none⟩) L cap ∧ List.Perm qs (plB l ms k) ∧ Own w7 w' 60 3 (.slice (some ⟨g, 0, none⟩) L cap) L (qs.map Ce.cells).flatten) (fun _ _ _ _ _ he h hj => by obtain ⟨g, cap, qs, h1, h2, h3⟩ := h hj; exact ⟨g, cap, qs, h1, h2, h3.later he⟩) (by kernel_rfl) (by kernel_rfl) ?_
      simp only [List.take_succ_cons, List.take_zero, List.drop_succ_cons, List.drop_zero]
      refine Cg.calm_quiet Cg.calm_mono_final w7 (fun _ h => h) 10 (by kernel_rfl) ?_
      simp only [List.take_succ_cons, List.take_zero, List.drop_succ_cons, List.drop_zero]
      repeat (go_big_quiet_step (fail))
      refine wpQuiet_nil ?_
      refine Cg.calm_call Cg.calm_mono_final 72 #[.agg #[.slice B L bc, .slice D 0 dc, .int .i64 wt], .int .i64 tn, .agg #[.int .i64 ox, .int .i64 oy, .int .i64 oz]] rfl (fun w => ?_) (fun w' he hF => ?_) ?_
      · go_simp
      · exact (Hcl.out w' (hx7.trans he)).mono fun e w'' ⟨g, cap, qs, he', hq, ho⟩ => ⟨_, he', ho.ext, fun _ => ⟨g, cap, qs, rfl, hq, ho.since he⟩, fun h => by cases h⟩
      rintro _ w8 he8 h _
      obtain ⟨g, cap, qs, rfl, hq, ho⟩ := h rfl
      simp only [Act.put, List.setIfInBounds_toArray, List.set_cons_succ, List.set_cons_zero]
      refine Cg.calm_quiet Cg.calm_mono_final w7 (fun _ h => h) 2 (by kernel_rfl) ?_
      simp only [List.take_succ_cons, List.take_zero, List.drop_succ_cons, List.drop_zero]
      repeat (go_big_quiet_step (fail))
      refine wpQuiet_nil ?_
      refine Cg.calm_nil fun w9 he9 hf9 => ?_
      clear hq ho h p0 p1 p2 p3 p4 r0 r1 r2 Hcl he8 w8 qs
      obtain ⟨g', cap', qs, e', hq, ho⟩ := (hf9.1 10).2 rfl rfl
      cases e'
      clear hf9
      have hy9 : Ext w7 w9 := he9
      clear he9
      have hqL : qs.length = L := hq.length_eq.trans HpL.out
      have hI9 := HI.out.later (hx7.trans hy9)
      have hP9 := HP.out.later (hx7.trans hy9)
      have ho9 := ho.since (HI.out.ext.trans hx7)
      have Hq := Lib.hid hq
      have Hn := Lib.hid (hq.nodup_iff.2 Hcn.out)
      have Hr := Lib.hid (fun c hc => Hcr.out c (hq.mem_iff.1 hc))
      have Hst := Lib.hid (And.intro hI9 (And.intro hP9 ho9))
      clear hI9 hP9 ho9 ho hq hy9 hx7 Hcn Hcr HI HP w7
      have HqL := Lib.hid hqL
      clear hqL
      go_wp2
      go_loopw [56] (fun i wr2 => ∃ j : Nat, j ≤ L ∧ i = .int .i64 j ∧ InM w2 wr2 w2.heap.size (w2.heap.size + 1) (24 * k + j) (fun c x => fB l ms k c x ∨ x = (k : Int) ∧ c ∈ qs.take j) ∧ PrM w2 wr2 (w2.heap.size + 1) (100000 * k + 1000 * j) (ovlP l ms k ∨ ∃ c ∈ qs.take j, ∃ x, fB l ms k c x) ∧ Own w2 wr2 60 3 (.slice (some ⟨g, 0, none⟩) L cap) L (qs.map Ce.cells).flatten) (fun i _ => L - (intOf i).toNat)
      case atStart => exact ⟨0, by omega, rfl, Hst.out.1.congr fun c _ x => by simp, Hst.out.2.1.congr (by simp), Hst.out.2.2⟩
      case round =>
        clear Hst
        obtain ⟨j, hj, rfl, hI, hP, ho⟩ := hrel
        by_cases hjl : j < L
        · have hji : (j : Int) < (L : Int) := by omega
          have hjq : j < qs.length := by rw [HqL.out]; exact hjl
          have hlen : (qs.map Ce.cells).flatten.length = L * 3 := by rw [Ce.cells_len, HqL.out]
          obtain ⟨f0, f1, f2⟩ := cells_at qs hjq
          have e0 : wr.cell? ⟨g, j * 3, none⟩ = some (.int .i64 qs[j].x) := (ho.cell (j := j * 3) (by omega)).trans f0
          have e1 : wr.cell? ⟨g, j * 3 + 1, none⟩ = some (.int .i64 qs[j].y) := (ho.cell (j := j * 3 + 1) (by omega)).trans f1
          have e2 : wr.cell? ⟨g, j * 3 + 2, none⟩ = some (.int .i64 qs[j].z) := (ho.cell (j := j * 3 + 2) (by omega)).trans f2
          have hnr := Hr.out qs[j] (List.getElem_mem hjq)
          have hnr5 : nearP qs[j] (-5000) 5000 := by unfold nearP at *; omega
          have hfr := nodup_take Hn.out hjq
          have hmt := fun c => mem_take_succ hjq c
          clear f0 f1 f2 hlen hnr
          generalize qs[j] = z at *
          obtain ⟨zx, zy, zz⟩ := z
          have HI := Lib.hid hI
          have HP := Lib.hid hP
          have HO := Lib.hid ho
          have Hfr := Lib.hid hfr
          have Hmt := Lib.hid hmt
          simp only at e0 e1 e2
          clear hI hP ho hfr hmt
          have hx7 : Ext wr (wr.alloc (.cells #[.int .i64 zx, .int .i64 zy, .int .i64 zz] 60)) := (Ext.refl _).alloc _
          have HI7 := Lib.hid (HI.out.later hx7)
          have HP7 := Lib.hid (HP.out.later hx7)
          have HO7 := Lib.hid (HO.out.later hx7)
          have HB7 := Lib.hid (Own.lit (e := 60) (size := 3) HI.out.ext #[.int .i64 zx, .int .i64 zy, .int .i64 zz] 1 (by unfold maxLen; omega) rfl)
          clear HI HP HO hx7
          go_wp2_with (refine InM.look rfl _ _ rfl rfl HI7.out (by omega) ⟨zx, zy, zz⟩ hnr5 rfl ?_; intro A5 zs cap5 hzs hzl hzm; obtain ⟨p, hp⟩ : ∃ p, p = zs.length := ⟨_, rfl⟩; rw [← hp] at hzs hzl ⊢; have Hp := Lib.hid hp; have Hzs := Lib.hid hzs; have Hzm := Lib.hid hzm; clear hp hzs hzm)
          have hp0 : 0 < p ↔ ∃ x, fB l ms k ⟨zx, zy, zz⟩ x := by
            rw [Hp.out, List.length_pos_iff_exists_mem]
            constructor
            · rintro ⟨x, hx⟩
              rcases (Hzm.out x).1 hx with h | h
              · exact ⟨x, h⟩
              · exact absurd h.2 Hfr.out
            · rintro ⟨x, hx⟩
              exact ⟨x, (Hzm.out x).2 (.inl hx)⟩
          have hsm : ∀ x ∈ zs, 0 ≤ x ∧ x ≤ 1000 := fun x hx => by
            rcases (Hzm.out x).1 hx with h | h
            · have := fB_small h
              omega
            · obtain ⟨rfl, _⟩ := h
              omega
          have Hp0 := Lib.hid hp0
          have Hsm := Lib.hid hsm
          have Hst := Lib.hid (And.intro HI7.out (And.intro HP7.out (And.intro Hzs.out (And.intro HO7.out HB7.out))))
          obtain ⟨bx, hbx⟩ : ∃ bx, bx = wr.heap.size := ⟨_, rfl⟩
          rw [← hbx] at Hst ⊢
          generalize (wr.alloc (.cells #[.int .i64 zx, .int .i64 zy, .int .i64 zz] 60)) = w7 at Hst ⊢
          clear HI7 HP7 HB7 HO7 Hzs hp0 hsm hbx Hzm Hfr e0 e1 e2
          go_loopw [64] (fun i wr3 => ∃ z : Nat, z ≤ p ∧ i = .int .i64 z ∧ InM w2 wr3 w2.heap.size (w2.heap.size + 1) (24 * k + j) (fun c x => fB l ms k c x ∨ x = (k : Int) ∧ c ∈ qs.take j) ∧ PrM w2 wr3 (w2.heap.size + 1) (100000 * k + 1000 * j + z) ((ovlP l ms k ∨ ∃ c ∈ qs.take j, ∃ x, fB l ms k c x) ∨ 0 < z) ∧ Own w2 wr3 3 1 (.slice A5 p cap5) p (zs.map (Value.int .i64)) ∧ Own w2 wr3 60 3 (.slice (some ⟨g, 0, none⟩) L cap) L (qs.map Ce.cells).flatten ∧ Own w2 wr3 60 3 (.slice (some ⟨bx, 0, none⟩) 1 1) 1 [.int .i64 zx, .int .i64 zy, .int .i64 zz]) (fun i _ => p - (intOf i).toNat)
          case atStart => exact ⟨0, by omega, rfl, Hst.out.1, Hst.out.2.1.congr (by simp), Hst.out.2.2⟩
          case round =>
            clear Hst
            obtain ⟨z, hz, rfl, hI, hP, hZ, hO, hB⟩ := hrel
            by_cases hzp : z < p
            · have hzi : (z : Int) < (p : Int) := by omega
              obtain ⟨g5, c5, e5, _, _⟩ := hZ.at_ (by omega)
              cases e5
              have hzq : z < zs.length := by rw [← Hp.out]; exact hzp
              have e0 : wr.cell? ⟨g5, z, none⟩ = some (.int .i64 zs[z]) := (hZ.cell (j := z) (by simpa using hzq)).trans (by simp [hzq])
              have hsz := Hsm.out zs[z] (List.getElem_mem hzq)
              generalize zs[z] = x at e0 hsz
              have HI := Lib.hid hI
              have HP := Lib.hid hP
              have HZ := Lib.hid hZ
              have HO := Lib.hid hO
              have HB := Lib.hid hB
              clear hI hP hZ hO hB
              go_wp2_with (refine PrM.store rfl _ _ _ rfl rfl HP.out (by omega) x (k : Int) ⟨by omega, by omega⟩ ⟨by omega, by omega⟩ rfl rfl ?_; intro w12 hP12 hg12)
              obtain ⟨es, clock, hmap⟩ := HP.out.isMap
              have hle : w2.heap.size ≤ w2.heap.size + 1 := by omega
              have hgt : ∀ k', some (w2.heap.size + 1) = some k' → w2.heap.size ≤ k' := fun k' e => by cases e; exact hle
              go_roundw
              case rel => exact ⟨z + 1, by omega, by go_num, HI.out.beside hg12 hle hmap (by omega), hP12.congr ⟨fun _ => .inr (by omega), fun _ => trivial⟩, own_grown HZ.out hg12 hgt (own_ne_map HZ.out hmap), own_grown HO.out hg12 hgt (own_ne_map HO.out hmap), own_grown HB.out hg12 hgt (own_ne_map HB.out hmap)⟩
              case measure => simp [intOf]; omega
            · obtain rfl : p = z := by omega
              have hzi : ¬ (p : Int) < (p : Int) := by omega
              clear hZ
              have hx8 : Ext wr (wr.alloc (.cells #[.int .i64 k] 3)) := (Ext.refl _).alloc _
              have HB := Lib.hid hB
              have HI8 := Lib.hid (hI.later hx8)
              have HP8 := Lib.hid (hP.later hx8)
              have HO8 := Lib.hid (hO.later hx8)
              have HB8 := Lib.hid (hB.later hx8)
              have HS8 := Lib.hid (Own.lit (e := 3) (size := 1) hI.ext #[.int .i64 k] 1 (by unfold maxLen; omega) rfl)
              have e0 : wr.cell? ⟨bx, 0, none⟩ = some (.int .i64 zx) := hB.cell (j := 0) (by simp)
              have e1 : wr.cell? ⟨bx, 1, none⟩ = some (.int .i64 zy) := hB.cell (j := 1) (by simp)
              have e2 : wr.cell? ⟨bx, 2, none⟩ = some (.int .i64 zz) := hB.cell (j := 2) (by simp)
              clear hI hP hO hB hx8
              have hneB : (Value.slice (some ⟨g, 0, none⟩) L cap).ownBlock = none ∨ (Value.slice (some ⟨g, 0, none⟩) L cap).ownBlock ≠ some w2.heap.size := by
                obtain ⟨es, clock, hmap⟩ := HI8.out.isMap
                exact own_ne_map HO8.out hmap
              have hneS : (Value.slice (some ⟨wr.heap.size, 0, none⟩) 1 1).ownBlock = none ∨ (Value.slice (some ⟨wr.heap.size, 0, none⟩) 1 1).ownBlock ≠ some w2.heap.size := by
                obtain ⟨es, clock, hmap⟩ := HI8.out.isMap
                exact own_ne_map HS8.out hmap
              have HneB := Lib.hid hneB
              have HneS := Lib.hid hneS
              have hgt : ∀ k', some w2.heap.size = some k' → w2.heap.size ≤ k' := fun k' e => by cases e; exact Nat.le_refl _
              have Hgt := Lib.hid hgt
              clear hneB hneS hgt
              go_wp2_with (first
                | (refine InM.entry rfl _ _ rfl rfl HI8.out (by omega) ⟨zx, zy, zz⟩ hnr5 rfl ?_; intro A6 ys cap6 st w15 hg15 hE; obtain ⟨y, hy⟩ : ∃ y, y = ys.length := ⟨_, rfl⟩; rw [← hy] at hE ⊢; have HP15 := Lib.hid (HP8.out.kept hg15 hE.ext (fun e => by have := Option.some.inj e; omega)); have HO15 := Lib.hid (own_grown HO8.out hg15 Hgt.out HneB.out); have HS15 := Lib.hid (own_grown HS8.out hg15 Hgt.out HneS.out); have HE := Lib.hid hE; have Hy := Lib.hid hy; clear hy hE hg15)
                | (obtain ⟨ie, hi, hz0, hz1, hz2⟩ := int_elem.info; have hh := HS15.out.at_ (by omega); have hap := HE.out.len; refine wpList_append_own_at _ rfl _ _ 26 rfl (w2.heap.size + 1) 3 ie _ 1 8 Tryz.underlying26 hi hz0 hz1 hz2 int_elem.zs int_elem.pos (.slice A6 y cap6) ys.length (ys.map (Value.int .i64)) rfl HE.out.own.1 ⟨wr.heap.size, 0, none⟩ 1 1 [.int .i64 k] rfl rfl (fun j u hu => by obtain ⟨ad', he, hc⟩ := (Own.row HS15.out) j (List.getElem?_eq_some_iff.1 hu).1; rw [Option.some.inj he]; exact hc.trans hu) (by intro u hu; simp only [List.mem_singleton] at hu; subst hu; rfl) (by unfold maxLen; omega) (by omega) (by obtain ⟨_, _, _, h1, h2⟩ := hh; omega) ?_; intro v16 w16 ho16 hg16 _ hloc16; have Ho16 := Lib.hid ho16; have Hg16 := Lib.hid hg16; have Hl16 := Lib.hid hloc16; clear ho16 hg16 hloc16 hi hz0 hz1 hz2 hh hap; obtain ⟨w17, h17, hI17, hg17⟩ := HE.out.run Hg16.out (WalkArith.wf_i64 (by omega)) Ho16.out Hl16.out; have HI17 := Lib.hid hI17; have Hg17 := Lib.hid hg17; clear hI17 hg17))
              obtain ⟨es, clock, hmap⟩ := HP15.out.isMap
              have hbase := fun k' (e : (Value.slice A6 y cap6).ownBlock = some k') => (show w2.heap.size ≤ k' by have := (HE.out.own.1.lt k' e).1; omega)
              have hnem := ints_not_map HE.out.own hmap
              have hx16 : Ext w2 w16 := HE.out.ext.grown Hg16.out hbase
              have hP16 := HP15.out.kept Hg16.out hx16 (fun e => by rcases hnem with h | h <;> rw [← e] at h; cases h; exact h rfl)
              have hO16 := own_grown HO15.out Hg16.out hbase (own_ne_row HO15.out HE.out.own.1 (by decide))
              have hP17 := hP16.kept Hg17.out HI17.out.ext (fun e => by have := Option.some.inj e; omega)
              have hO17 := own_grown hO16 Hg17.out Hgt.out HneB.out
              have HI := HI17
              have HP := Lib.hid hP17
              have HO := Lib.hid hO17
              clear hP16 hO16 hP17 hO17 hmap hnem hx16 hbase
              go_roundw
              case rel =>
                refine ⟨j + 1, by omega, by go_num, HI.out.congr fun c _ x => ?_, (HP.out.mono (show 100000 * k + 1000 * j + p ≤ 100000 * k + 1000 * (j + 1) by omega)).congr ?_, HO.out⟩
                · rw [Hmt.out]
                  constructor
                  · rintro ((h | ⟨h1, h2⟩) | ⟨h1, h2⟩)
                    · exact .inl h
                    · exact .inr ⟨h1, .inl h2⟩
                    · exact .inr ⟨h2, .inr h1⟩
                  · rintro (h | ⟨h1, h2 | h2⟩)
                    · exact .inl (.inl h)
                    · exact .inl (.inr ⟨h1, h2⟩)
                    · exact .inr ⟨h2, h1⟩
                · rw [Hp0.out]
                  constructor
                  · rintro ((h | ⟨c, h1, h2⟩) | h)
                    · exact .inl h
                    · exact .inr ⟨c, (Hmt.out c).2 (.inl h1), h2⟩
                    · exact .inr ⟨_, (Hmt.out _).2 (.inr rfl), h⟩
                  · rintro (h | ⟨c, h1, h2⟩)
                    · exact .inl (.inl h)
                    · rcases (Hmt.out c).1 h1 with h3 | rfl
                      · exact .inl (.inr ⟨c, h3, h2⟩)
                      · exact .inr h2
              case measure => simp [intOf]; omega
        · obtain rfl : L = j := by omega
          have hji : ¬ (L : Int) < (L : Int) := by omega
          have hall : qs.take L = qs := List.take_of_length_le (by rw [HqL.out]; exact Nat.le_refl _)
          rw [hall] at hI hP
          have HI := Lib.hid (hI.mono (show 24 * k + L ≤ 24 * (k + 1) by omega))
          have HP := Lib.hid (hP.mono (show 100000 * k + 1000 * L ≤ 100000 * (k + 1) by omega))
          clear hI hP ho hall
          go_wp2
          go_roundw
          case rel => exact ⟨k + 1, by omega, by go_num, HI.out.congr fun c _ x => by rw [fB_step, Hq.out.mem_iff], HP.out.congr (by rw [ovl_step]; simp only [Hq.out.mem_iff])⟩
          case measure => simp [intOf]; omega
    · obtain rfl : m = k := by omega
      have hki : ¬ (m : Int) < (m : Int) := by omega
      obtain ⟨D, g1, g2, g3, g4, g5⟩ := hP
      have hsz := g2.size_le
      have G2 := Lib.hid g2
      have G3 := Lib.hid g3
      have G4 := Lib.hid g4
      clear hI g2 g3 g4 g1 g5 HA HM Hk Hb
      go_wp2_with (first
        | (at_range; refine wpList_range_own _ rfl _ 172 rfl 173 4 Kpair Tryz.underlying172 (plainElem Tryz.prog 4) (w2.heap.size + 1) (100000 * m) D rfl G2.out ?_; intro w6 hr6 hg6 hs6; have hx6 := G4.out.grown hg6 (fun j hj => by cases hj); have Hr6 := Lib.hid hr6; have Hx6 := Lib.hid hx6; clear hr6 hg6 hs6 hx6))
      obtain ⟨rr, hrr⟩ : ∃ rr, rr = wr.heap.size := ⟨_, rfl⟩
      have hrb : w2.heap.size ≤ rr := by rw [hrr]; exact G4.out.le
      rw [← hrr] at Hr6 ⊢
      clear G2
      go_loopw [16] (fun v wr => ∃ (left : Lit → Bool) (cnt : Nat) (ps : List (Int × Int)), wr.ranges Tryz.prog 173 (plainElem Tryz.prog 4) (w2.heap.size + 1) rr (100000 * m) D left cnt ∧ ps.length + cnt ≤ Maps.size D ∧ (ps.length = 0 → cnt = Maps.size D) ∧ Own w2 wr 173 2 v ps.length (ps.map fun p => [Value.int .i64 p.1, Value.int .i64 p.2]).flatten) (fun _ wr => wr.rangeLeft (w2.heap.size + 1) rr)
      case atStart => exact ⟨_, _, [], Hr6.out, by simp, fun _ => rfl, Own.nil' Hx6.out _ _⟩
      case round =>
        clear Hr6 Hx6 G4 hrr
        obtain ⟨left, cnt, ps, hrg, hc1, hc2, hO⟩ := hrel
        have HO := Lib.hid hO
        clear hO
        go_wp2_with (first
          | (at_next; refine wpList_next_ranges _ rfl _ rfl 173 Kpair (plainElem Tryz.prog 4) (fun x : Int × Int => .agg #[.int .i64 x.1, .int .i64 x.2]) (fun x : Value => x) (fun key kl h => pair_inv h) (fun v y h => ⟨v, rfl⟩) (w2.heap.size + 1) rr (100000 * m) D _ _ rfl hrg ?_ ?_))
        · intro hc0 _
          have hps : (0 < ps.length ↔ ovlP l ms m) := by
            rw [← G3.out]
            omega
          obtain ⟨X, xc, rfl⟩ := HO.out.form
          have hso := sort_pairs _ ps w2 wr HO.out (by omega)
          have Hso := Lib.hid hso
          have Hps := Lib.hid hps
          clear hso hps hrg
          generalize ps.length = pn at *
          go_wp2_with (go_at_call 74; refine (Hso.out).mono ?_; rintro e w9 ⟨rfl, hx9⟩)
          go_ret2
          exact ⟨X, pn, xc, rfl, ⟨fun h => Hps.out.1 (by omega), fun h => by have := Hps.out.2 h; omega⟩, x2.trans hx9⟩
        · intro xa xb c1 kl ya yb w4 cnt' _ _ _ _ hrg1 hlt hg4 hs4 hen
          have hO4 := own_grown HO.out hg4 (fun k' e => by cases e; exact hrb) (by rcases (own_ne_ranges HO.out hrg).2 with h; exact .inr fun e => h e.symm)
          have hne := own_ne_ranges hO4 hrg1
          have hlq := hrg1.left_eq
          have hlp := hrg.left_eq
          have hxb : Ext w4 (w4.alloc (.cells #[.int .i64 xa, .int .i64 xb] 173)) := (Ext.refl _).alloc _
          have HO5 := Lib.hid ((hO4.later hxb).alloc (.cells #[.int .i64 xa, .int .i64 xb] 173))
          have Hrg5 := Lib.hid ((hrg1.alloc (.cells #[.int .i64 xa, .int .i64 xb] 173)).alloc (.cells #[.int .i64 xa, .int .i64 xb] 173))
          have hrw := Gr.row_alloc (w4.alloc (.cells #[.int .i64 xa, .int .i64 xb] 173)) #[.int .i64 xa, .int .i64 xb] 173
          rw [show (w4.alloc (.cells #[.int .i64 xa, .int .i64 xb] 173)).heap.size = w4.heap.size + 1 by simp] at hrw
          have Hrw := Lib.hid hrw
          have hsq : ps.length < 4000000 := by omega
          have Hsq := Lib.hid hsq
          clear hrw hsq
          have Hne := Lib.hid hne
          have Hlp := Lib.hid hlp
          clear hO4 hne hlq hlp hrg hrg1 HO hg4 hs4 hxb
          go_wp2_with (refine Gr.own_append_at pair_elem rfl _ _ 106 rfl Tryz.underlying106 _ ps.length _ rfl HO5.out ⟨w4.heap.size + 1, 0, none⟩ 1 1 [.int .i64 xa, .int .i64 xb] rfl rfl Hrw.out (by intro u hu; simp only [List.mem_cons, List.not_mem_nil, or_false] at hu; rcases hu with rfl | rfl <;> rfl) (by have := Hsq.out; omega) (by have := Hsq.out; unfold maxLen; omega) ?_; intro v9 w9 ho9 hg9 _; have hrg9 := Hrg5.out.kept hg9 Hne.out.1 Hne.out.2; have HO9 := Lib.hid ho9; have Hrg9 := Lib.hid hrg9; clear ho9 hg9 hrg9)
          go_roundw
          case rel => exact ⟨_, cnt', ps ++ [(xa, xb)], Hrg9.out, by simp; omega, by simp, by have := HO9.out; simpa using this⟩
          case measure => rw [Hrg9.out.left_eq, Hlp.out]; exact hlt
end Go.Proofs.YtebkhdhhajjhfaaGreat.Lt

/- Hinges at quarter turns: their poses are on the lattice. Plain Lean. -/
namespace Go.Proofs.YtebkhdhhajjhfaaGreat.Lt
/-- How many quarter turns the angles 0 to 3 are. -/
def quart (a : Int) : Nat := [2, 3, 1, 0].getD a.toNat 0
def cosT (t : Nat) : Int := [1, 0, -1, 0].getD t 0
def sinT (t : Nat) : Int := [0, 1, 0, -1].getD t 0
def rotS (t : Nat) (s : Sp) : Sp := ⟨cosT t * s.x - sinT t * s.y, sinT t * s.x + cosT t * s.y⟩
def gT (hs : List Hg) : Nat → Nat
  | 0 => 0
  | k + 1 => (gT hs k + quart (hs.getD k hg0).ang) % 4
def gP (hs : List Hg) : Nat → Sp
  | 0 => ⟨0, 0⟩
  | k + 1 => ⟨(gP hs k).x + (rotS (gT hs k) (hs.getD k hg0).a).x - (rotS (gT hs (k + 1)) (hs.getD k hg0).b).x, (gP hs k).y + (rotS (gT hs k) (hs.getD k hg0).a).y - (rotS (gT hs (k + 1)) (hs.getD k hg0).b).y⟩
theorem gT_lt (hs : List Hg) : ∀ k, gT hs k < 4
  | 0 => by simp [gT]
  | _ + 1 => Nat.mod_lt _ (by omega)
theorem quart_lt (a : Int) : quart a < 4 := by
  unfold quart
  rcases h : a.toNat with _ | _ | _ | _ | n <;> simp
theorem quart_trn : ∀ n : Nat, n < 4 → trn n = (cosT (quart n), sinT (quart n), 1) := by decide
theorem cos_add : ∀ t : Nat, t < 4 → ∀ q : Nat, q < 4 → cosT ((t + q) % 4) = cosT q * cosT t - sinT q * sinT t ∧ sinT ((t + q) % 4) = sinT q * cosT t + cosT q * sinT t := by decide
theorem grid_pose {hs : List Hg} (hh : ∀ h ∈ hs, 0 ≤ h.ang ∧ h.ang ≤ 3) : ∀ k, k ≤ hs.length → posF hs k = ⟨cosT (gT hs k), sinT (gT hs k), (gP hs k).x, (gP hs k).y, 1⟩
  | 0, _ => rfl
  | k + 1, hk => by
    have ih := grid_pose hh k (by omega)
    have hg : (hs.getD k hg0) = hs[k] := by simp [List.getD, List.getElem?_eq_getElem (show k < hs.length by omega)]
    obtain ⟨h1, h2⟩ := hh _ (List.getElem_mem (show k < hs.length by omega))
    rw [← hg] at h1 h2
    obtain ⟨n, hn⟩ : ∃ n : Nat, (hs.getD k hg0).ang = n := ⟨(hs.getD k hg0).ang.toNat, by omega⟩
    have hn4 : n < 4 := by omega
    have ht := gT_lt hs k
    obtain ⟨c1, c2⟩ := cos_add _ ht _ (quart_lt n)
    show flw (posF hs k) (hs.getD k hg0) (trn (hs.getD k hg0).ang.toNat) = _
    simp only [gP, gT]
    rw [ih, hn, Int.toNat_natCast, quart_trn n hn4, flw, low_one (by simp [raw])]
    simp only [rotS, c1, c2, raw, plc, Ps.mk.injEq]
    refine ⟨trivial, trivial, ?_, ?_, rfl⟩ <;> grind
theorem turnC_flat {t : Nat} (ht : t < 4) (s : Sp) : turnC ⟨s.x, s.y, 0⟩ t = ⟨(rotS t s).x, (rotS t s).y, 0⟩ := by
  rcases t_cases ht with rfl | rfl | rfl | rfl <;> simp [turnC, sixth, rotN, rotZ, rotS, cosT, sinT]
theorem turnC_one {t : Nat} (ht : t < 4) : turnC ⟨1, 0, 0⟩ t = ⟨cosT t, sinT t, 0⟩ := by
  rcases t_cases ht with rfl | rfl | rfl | rfl <;> simp [turnC, sixth, rotN, rotZ, cosT, sinT]
theorem rotS_near {s : Sp} (h : spotB s) {t : Nat} (ht : t < 4) : spotB (rotS t s) := by
  unfold spotB at *
  rcases t_cases ht with rfl | rfl | rfl | rfl <;> simp [rotS, cosT, sinT] <;> omega
/-- The corners of the panel that a shaft turns. -/
theorem flat_corner {t : Nat} (ht : t < 4) (s : Sp) : plc (posT t 0 0) s = rotS t s := by
  rcases t_cases ht with rfl | rfl | rfl | rfl <;> simp [plc, posT, rotS, cosT, sinT]
end Go.Proofs.YtebkhdhhajjhfaaGreat.Lt

/- The law's plain, panel; kinds and bricks of two boards. -/
namespace Go.Proofs.YtebkhdhhajjhfaaGreat.Lt
open Go.RowKit
set_option maxRecDepth 100000 in
theorem plain_any (x : Int) (t : Nat) (w : World) (ht : t < 4) (hx1 : -1000000 ≤ x) (hx2 : x ≤ 1000000) (hx : x % 4 = t) : Calls Tryz.prog 41 #[.int .i64 x] w fun e w' => e = .returned (.int .i64 (plainS t : Nat)) ∧ Ext w w' := by
  obtain ⟨a, ha⟩ : ∃ a, a = x.tmod 4 := ⟨_, rfl⟩
  have h1 : -3 ≤ a ∧ a ≤ 3 ∧ (a = t ∨ a = t - 4) := by
    rcases Int.lt_or_le x 0 with h | h
    · have e := Int.neg_tmod (a := x) (b := 4)
      rw [Int.tmod_eq_emod_of_nonneg (by omega)] at e
      omega
    · rw [Int.tmod_eq_emod_of_nonneg h] at ha
      omega
  have h2 : (a + 4).tmod 4 = (t : Int) := by
    rw [Int.tmod_eq_emod_of_nonneg (by omega)]
    omega
  have h3 : IntKind.i64.wrap a = a := by rw [IntKind.wrap_i64]; omega
  have h4 : IntKind.i64.wrap (a + 4) = a + 4 := by rw [IntKind.wrap_i64]; omega
  have h5 : IntKind.i64.wrap (t : Int) = (t : Int) := by rw [IntKind.wrap_i64]; omega
  have ha' := ha.symm
  have hb : Blk (w.alloc (.cells #[.int .i64 3, .int .i64 2, .int .i64 0, .int .i64 1] 3)) w.heap.size [.int .i64 3, .int .i64 2, .int .i64 0, .int .i64 1] := Blk.new _ _
  have hv : (w.alloc (.cells #[.int .i64 3, .int .i64 2, .int .i64 0, .int .i64 1] 3)).cell? ⟨w.heap.size, t, none⟩ = some (.int .i64 (plainS t : Nat)) := by
    refine hb.c t _ ?_
    rcases t_cases ht with rfl | rfl | rfl | rfl <;> rfl
  have ht4 : (t : Int) < 4 := by omega
  clear hb ha hx h1 hx1 hx2
  go_enter Tryz.func41, Tryz.ntmps41
  go_wp2
  go_ret
  exact ⟨rfl, (Ext.refl w).alloc _⟩
set_option maxRecDepth 100000 in
theorem panel_any (a b : Nat) (w : World) (h1 : a ≤ 20) (h2 : b ≤ 20) : Calls Tryz.prog 40 #[.int .i64 a, .int .i64 b] w fun e w' => ∃ g, e = .returned (.slice (some ⟨g, 0, none⟩) 4 4) ∧ OwnS w w' (.slice (some ⟨g, 0, none⟩) 4 4) (rect a b) := by
  have hrow : OwnS w (w.alloc (.cells #[.int .i64 (-1), .int .i64 (-1), .int .i64 (2 * a - 1), .int .i64 (-1), .int .i64 (2 * a - 1), .int .i64 (2 * b - 1), .int .i64 (-1), .int .i64 (2 * b - 1)] 58)) (.slice (some ⟨w.heap.size, 0, none⟩) 4 4) (rect a b) := Own.lit (e := 58) (size := 2) (Ext.refl _) #[.int .i64 (-1), .int .i64 (-1), .int .i64 (2 * a - 1), .int .i64 (-1), .int .i64 (2 * a - 1), .int .i64 (2 * b - 1), .int .i64 (-1), .int .i64 (2 * b - 1)] 4 (by unfold maxLen; omega) rfl
  have H := Lib.hid hrow
  clear hrow
  have e1 : IntKind.i64.wrap (2 * (a : Int)) = 2 * a := by rw [IntKind.wrap_i64]; omega
  have e2 : IntKind.i64.wrap (2 * (a : Int) - 1) = 2 * a - 1 := by rw [IntKind.wrap_i64]; omega
  have e3 : IntKind.i64.wrap (2 * (b : Int)) = 2 * b := by rw [IntKind.wrap_i64]; omega
  have e4 : IntKind.i64.wrap (2 * (b : Int) - 1) = 2 * b - 1 := by rw [IntKind.wrap_i64]; omega
  go_enter Tryz.func40, Tryz.ntmps40
  go_wp2
  go_ret
  exact ⟨_, rfl, H.out⟩
theorem bare_board {a b : Nat} (ha : 1 ≤ a) (ha2 : a ≤ 6) (hb : 1 ≤ b) (hb2 : b ≤ 4) : BareOk ⟨boardC a b, [], 1⟩ := by
  have hle : a * b ≤ 24 := Nat.le_trans (Nat.mul_le_mul ha2 hb2) (by omega)
  have hat : ∀ i, i < a * b → ceA (boardC a b) i = ⟨((i % a : Nat) : Int), ((i / a : Nat) : Int), 0⟩ := fun i hi => by
    simp [ceA, List.getD, boardC_at hi]
  refine ⟨?_, ?_, rfl, by show (1 : Int) ≤ 1; omega, by show (1 : Int) ≤ 100; omega, fun i hi => ?_, fun i hi => ?_⟩
  · show 1 ≤ (boardC a b).length
    rw [boardC_len]
    exact Nat.mul_pos ha hb
  · show (boardC a b).length ≤ 24
    rw [boardC_len]
    exact hle
  · have hi : i < (boardC a b).length := hi
    rw [boardC_len] at hi
    show nearP (ceA (boardC a b) i) 0 15
    rw [hat i hi]
    have h1 := Nat.mod_lt i (show 0 < a by omega)
    have h2 : i / a < b := (Nat.div_lt_iff_lt_mul (by omega)).2 (by rw [Nat.mul_comm]; exact hi)
    generalize i % a = x at *
    generalize i / a = y at *
    unfold nearP
    simp only
    omega
  · have hi : i + 1 < (boardC a b).length := hi
    rw [boardC_len] at hi
    show befC (ceA (boardC a b) i) (ceA (boardC a b) (i + 1))
    rw [hat i (by omega), hat (i + 1) hi]
    unfold befC
    simp only
    have h1 := Nat.mod_lt i (show 0 < a by omega)
    have e := Nat.div_add_mod i a
    by_cases h : i % a + 1 < a
    · have e1 : (i + 1) / a = i / a := by
        rw [← e, Nat.add_assoc, Nat.mul_add_div (by omega), Nat.div_eq_of_lt h, Nat.mul_add_div (by omega), Nat.div_eq_of_lt h1]
      have e2 : (i + 1) % a = i % a + 1 := by
        rw [show i + 1 = a * (i / a) + (i % a + 1) by omega, Nat.mul_add_mod, Nat.mod_eq_of_lt h]
      rw [e1, e2]
      exact .inr ⟨trivial, by omega⟩
    · have e1 : (i + 1) / a = i / a + 1 := by
        rw [show i + 1 = a * (i / a + 1) by rw [Nat.mul_add]; omega, Nat.mul_div_cancel_left _ (by omega)]
      rw [e1]
      exact .inr ⟨trivial, .inl (by omega)⟩
end Go.Proofs.YtebkhdhhajjhfaaGreat.Lt

/- A panel on a shaft: ratios that there are, and that there are not. -/
namespace Go.Proofs.YtebkhdhhajjhfaaGreat.Lt
open Go.RowKit
/-- The motions have this ratio. -/
def HasRat (s : Int) (ms : List Gr.Msh) (i o num den : Int) : Prop := Gr.askE s ms [i, o] = 0 ∧ ∃ F M T, Gr.ratPr (Gr.gearL ms s.toNat) ms.length s.toNat i.toNat o.toNat num den F M T
theorem HasRat.fit {s : Int} {ms : List Gr.Msh} {i o num den : Int} (h : HasRat s ms i o num den) : (-9223372036854775807 ≤ num ∧ num ≤ 9223372036854775807) ∧ den ≤ 9223372036854775807 ∧ 1 ≤ den := by
  obtain ⟨hz, F, M, T, hc⟩ := h
  obtain ⟨S, I, O, rfl, rfl, rfl, hi, ho, ht⟩ := Gr.ask_two hz
  exact Gr.ratPr.fit' ht hi ho hc
theorem ratio_yes (A : Option Addr) (c : Nat) (s i o num den : Int) (ms : List Gr.Msh) (w : World) (hA : Gr.MRow w A ms) (hl : ms.length ≤ 1000) (h : HasRat s ms i o num den) :
    Calls Tryz.prog 17 #[.agg #[.int .i64 s, .slice A ms.length c], .int .i64 i, .int .i64 o] w fun e w' => ∃ (B1 B2 B3 : Option Addr) (r1 d1 r2 d2 r3 d3 : Nat), e = .returned (.tuple #[.int .i64 num, .int .i64 den, .agg #[.slice B1 r1 d1, .slice B2 r2 d2, .slice B3 r3 d3], .int .i64 0]) ∧ Ext w w' ∧
      ∀ w3, Ext w' w3 → Calls Tryz.prog 44 #[.agg #[.int .i64 s, .slice A ms.length c], .int .i64 i, .int .i64 o, .int .i64 num, .int .i64 den, .agg #[.slice B1 r1 d1, .slice B2 r2 d2, .slice B3 r3 d3]] w3 fun e w4 => e = .returned (.int .i64 0) ∧ Ext w3 w4 := by
  have hfit := h.fit
  obtain ⟨hz, F', M', T', hc⟩ := h
  refine (Gr.ratio_any A c s i o ms w hA (by omega)).mono fun e w'' h => ?_
  obtain ⟨rn, rd, B1, B2, B3, d1, d2, d3, F, M, T, h0, h1, h2, h3, hx, hok⟩ := h
  have hls := hok.lens hl
  obtain ⟨e0, rfl, rfl, hp⟩ := hok.of_rat hz hc
  refine ⟨B1, B2, B3, _, d1, _, d2, _, d3, by rw [h0, e0], hx, fun w3 hx3 => ?_⟩
  have := Gr.checkRatio_any A c s ms i o rn rd B1 B2 B3 d1 d2 d3 F M T w3 (hA.ext (hx.trans hx3)) (by omega) (h1.ext hx3) (h2.ext hx3) (by omega) (by omega) hfit.2.1 (by omega)
  rw [show Gr.ratE s ms i o rn rd F M T = 0 by unfold Gr.ratE; rw [if_pos hz, if_pos (decide_eq_true hp)]] at this
  exact this
theorem ratio_no (A : Option Addr) (c : Nat) (s i o : Int) (ms : List Gr.Msh) (w : World) (hA : Gr.MRow w A ms) (hl : ms.length ≤ 1000) (h : ¬ ∃ num den, HasRat s ms i o num den) :
    Calls Tryz.prog 17 #[.agg #[.int .i64 s, .slice A ms.length c], .int .i64 i, .int .i64 o] w fun e w' => ∃ (B1 B2 B3 : Option Addr) (r1 d1 r2 d2 r3 d3 : Nat) (num den x : Int), e = .returned (.tuple #[.int .i64 num, .int .i64 den, .agg #[.slice B1 r1 d1, .slice B2 r2 d2, .slice B3 r3 d3], .int .i64 x]) ∧ x ≠ 0 ∧ Ext w w' := by
  refine (Gr.ratio_any A c s i o ms w hA (by omega)).mono fun e w'' h' => ?_
  obtain ⟨rn, rd, B1, B2, B3, d1, d2, d3, F, M, T, h0, h1, h2, h3, hx, hok⟩ := h'
  refine ⟨B1, B2, B3, _, d1, _, d2, _, d3, rn, rd, _, h0, ?_, hx⟩
  rcases hok with ⟨hz, _⟩ | ⟨hz, ⟨hv, _⟩ | ⟨hv, _⟩ | ⟨hv, hp⟩⟩
  · rw [show Gr.verdE s ms i o = Gr.askE s ms [i, o] from if_neg hz]
    exact hz
  · rw [hv]; decide
  · rw [hv]; decide
  · exact absurd ⟨rn, rd, hz, F, M, T, hp⟩ h
end Go.Proofs.YtebkhdhhajjhfaaGreat.Lt

/- shafted: a panel on a shaft. -/
namespace Go.Proofs.YtebkhdhhajjhfaaGreat.Lt
open Go.RowKit
set_option maxRecDepth 100000 in
set_option maxHeartbeats 1000000 in
theorem shafted_no (A : Option Addr) (c : Nat) (s i o turns : Int) (ms : List Gr.Msh) (B : Option Addr) (n d : Nat) (w : World) (hA : Gr.MRow w A ms) (hl : ms.length ≤ 1000) (h : ¬ ∃ num den, HasRat s ms i o num den) :
    Calls Tryz.prog 16 #[.agg #[.int .i64 s, .slice A ms.length c], .int .i64 i, .int .i64 o, .int .i64 turns, .slice B n d] w fun e w' => e = .returned (.tuple #[.slice none 0 0, .bool false]) ∧ Ext w w' := by
  have hc := fun w' (he : Ext w w') => ratio_no A c s i o ms w' (hA.ext he) hl h
  have Hc := Lib.hid hc
  clear hc hA hl h
  generalize ms.length = m at *
  have kb : Blk (w.alloc (.cells #[.int .i64 s, .slice A m c] 46)) w.heap.size [.int .i64 s, .slice A m c] := Blk.new _ _
  have hx : Ext w (w.alloc (.cells #[.int .i64 s, .slice A m c] 46)) := (Ext.refl _).alloc _
  have z0 := kb.at_ 0 rfl
  have z1 := kb.at_ 1 rfl
  clear kb
  go_enter Tryz.func16, Tryz.ntmps16
  go_wp2_with (go_at_call 17; refine (Hc.out _ hx).mono ?_; rintro e w1 ⟨B1, B2, B3, r1, d1, r2, d2, r3, d3, num, den, x, rfl, hne, hx1⟩; have H1 := Lib.hid (hx.trans hx1); clear z0 z1 hx hx1)
  go_ret2
  exact ⟨rfl, H1.out.alloc _⟩
set_option maxRecDepth 100000 in
set_option maxHeartbeats 1000000 in
theorem shafted_odd (A : Option Addr) (c : Nat) (s i o turns num den : Int) (ms : List Gr.Msh) (B : Option Addr) (n d : Nat) (w : World) (hA : Gr.MRow w A ms) (hl : ms.length ≤ 1000) (h : HasRat s ms i o num den) (hodd : turns.tmod den ≠ 0) :
    Calls Tryz.prog 16 #[.agg #[.int .i64 s, .slice A ms.length c], .int .i64 i, .int .i64 o, .int .i64 turns, .slice B n d] w fun e w' => e = .returned (.tuple #[.slice none 0 0, .bool false]) ∧ Ext w w' := by
  have hc := fun w' (he : Ext w w') => ratio_yes A c s i o num den ms w' (hA.ext he) hl h
  have hfit := h.fit
  have Hc := Lib.hid hc
  clear hc hA hl h
  generalize ms.length = m at *
  have kb : Blk (w.alloc (.cells #[.int .i64 s, .slice A m c] 46)) w.heap.size [.int .i64 s, .slice A m c] := Blk.new _ _
  have hx : Ext w (w.alloc (.cells #[.int .i64 s, .slice A m c] 46)) := (Ext.refl _).alloc _
  have z0 := kb.at_ 0 rfl
  have z1 := kb.at_ 1 rfl
  have hd1 : ¬ den < 1 := by omega
  have hd0 : den ≠ 0 := by omega
  obtain ⟨q, hq⟩ : ∃ q, q = turns.tmod den := ⟨_, rfl⟩
  have hq' := hq.symm
  have hq2 : IntKind.i64.wrap q = q := by
    have h1 := Int.tmod_lt_of_pos turns (show 0 < den by omega)
    have h2 := Int.neg_tmod turns den
    have h3 := Int.tmod_lt_of_pos (-turns) (show 0 < den by omega)
    rw [IntKind.wrap_i64]
    omega
  rw [← hq] at hodd
  have hqb : (q != 0) = true := by simp [hodd]
  clear kb hq hfit
  go_enter Tryz.func16, Tryz.ntmps16
  go_wp2_with (first
    | (go_at_call 17; refine (Hc.out _ hx).mono ?_; rintro e w1 ⟨B1, B2, B3, r1, d1, r2, d2, r3, d3, rfl, hx1, hck⟩; have H1 := Lib.hid (hx.trans hx1); have Hck := Lib.hid hck; have y0 := fun w' (he : Ext w1 w') => z0 w' (hx1.trans he); have y1 := fun w' (he : Ext w1 w') => z1 w' (hx1.trans he); clear z0 z1 hx hx1 hck)
    | (go_at_call 44; refine (Hck.out _ ((Ext.refl w1).alloc _)).mono ?_; rintro e w2 ⟨rfl, hx2⟩; have H2 := Lib.hid (H1.out.trans (((Ext.refl w1).alloc _).trans hx2)); clear hx2))
  go_ret2
  exact ⟨rfl, H2.out⟩
/-- The quarter turns of the shaft. -/
def shZ (turns num den : Int) : Int := ((turns.tdiv den).tmod 4 * num.tmod 4).tmod 4
theorem tmod4 (a : Int) : -3 ≤ a.tmod 4 ∧ a.tmod 4 ≤ 3 := by
  have h1 := Int.tmod_lt_of_pos a (show (0 : Int) < 4 by omega)
  have h2 := Int.neg_tmod a 4
  have h3 := Int.tmod_lt_of_pos (-a) (show (0 : Int) < 4 by omega)
  omega
theorem mul3 {a b : Int} (ha : -3 ≤ a ∧ a ≤ 3) (hb : -3 ≤ b ∧ b ≤ 3) : -9 ≤ a * b ∧ a * b ≤ 9 := by
  rcases (by omega : a = -3 ∨ a = -2 ∨ a = -1 ∨ a = 0 ∨ a = 1 ∨ a = 2 ∨ a = 3) with rfl | rfl | rfl | rfl | rfl | rfl | rfl <;> omega
theorem pn_two {w : World} {ad : Addr} {B : Option Addr} {d : Nat} {p : List Sp} (h : Row w (some ad) [.slice B p.length d, .slice B p.length d]) (hp : SRow w B p) : PnRow w (some ad) [p, p] := fun k hk => by
  obtain ⟨ad', ha, hc⟩ := h k (by simpa using hk)
  cases ha
  rcases (by simp at hk; omega : k = 0 ∨ k = 1) with rfl | rfl
  · exact ⟨_, B, d, rfl, fun w' he => he.cell (hc : _ = _), hp⟩
  · exact ⟨_, B, d, rfl, fun w' he => he.cell (hc : _ = _), hp⟩
set_option maxRecDepth 100000 in
set_option maxHeartbeats 1000000 in
theorem shafted_go (A : Option Addr) (c : Nat) (s i o turns num den : Int) (ms : List Gr.Msh) (B : Option Addr) (p : List Sp) (d : Nat) (t : Nat) (w : World) (hA : Gr.MRow w A ms) (hl : ms.length ≤ 1000) (h : HasRat s ms i o num den) (hev : turns.tmod den = 0) (ht : -100000000 ≤ turns ∧ turns ≤ 100000000) (hB : SRow w B p) (hp : p.length ≤ 1000) (ht4 : t < 4) (hz : shZ turns num den % 4 = t) :
    Calls Tryz.prog 16 #[.agg #[.int .i64 s, .slice A ms.length c], .int .i64 i, .int .i64 o, .int .i64 turns, .slice B p.length d] w fun e w' => ∃ v, e = .returned (.tuple #[v, .bool (decide (cornE [p, p] (flatHs 0 0 t) 1 = 0) && decide (cornD [p, p] (flatHs 0 0 t) 1 = 1))]) ∧ OwnS w w' v (cornL [p, p] (flatHs 0 0 t) 1) := by
  have hc := fun w' (he : Ext w w') => ratio_yes A c s i o num den ms w' (hA.ext he) hl h
  have hfit := h.fit
  have hpl := fun w' => plain_any (shZ turns num den) t w' ht4 (by unfold shZ; have := tmod4 ((turns.tdiv den).tmod 4 * num.tmod 4); omega) (by unfold shZ; have := tmod4 ((turns.tdiv den).tmod 4 * num.tmod 4); omega) hz
  have hco := fun W (A1 B1 : Addr) (h1 : Row W (some A1) [.slice B p.length d, .slice B p.length d]) (h2 : HRow W (some B1) (flatHs 0 0 t)) (h3 : SRow W B p) => corners_all (some A1) 2 [p, p] (some B1) 1 (flatHs 0 0 t) 1 W ⟨pn_two h1 h3, h2, by show 2 ≤ 1000; omega, by show 1 ≤ 1000; omega, fun k hk => by
    rcases (by simp at hk; omega : k = 0 ∨ k = 1) with rfl | rfl
    · exact hp
    · exact hp⟩
  have Hc := Lib.hid hc
  have Hpl := Lib.hid hpl
  have Hco := Lib.hid hco
  have HB := Lib.hid hB
  clear hc hA hl h hpl hco hB hp hz
  generalize cornE [p, p] (flatHs 0 0 t) 1 = ce at *
  generalize cornD [p, p] (flatHs 0 0 t) 1 = cd at *
  generalize cornL [p, p] (flatHs 0 0 t) 1 = cl at *
  generalize ms.length = m at *
  generalize p.length = n at *
  have kb : Blk (w.alloc (.cells #[.int .i64 s, .slice A m c] 46)) w.heap.size [.int .i64 s, .slice A m c] := Blk.new _ _
  have hx : Ext w (w.alloc (.cells #[.int .i64 s, .slice A m c] 46)) := (Ext.refl _).alloc _
  have z0 := kb.at_ 0 rfl
  have z1 := kb.at_ 1 rfl
  have hd1 : ¬ den < 1 := by omega
  have hd0 : den ≠ 0 := by omega
  have hqb : IntKind.i64.wrap 0 = 0 := by decide
  obtain ⟨a, ha⟩ : ∃ a, a = turns.tdiv den := ⟨_, rfl⟩
  have ha2 : -100000000 ≤ a ∧ a ≤ 100000000 := by
    have h0 := Int.natAbs_tdiv turns den
    rw [← ha] at h0
    have h1 : a.natAbs ≤ turns.natAbs := by rw [h0]; exact Nat.div_le_self _ _
    omega
  obtain ⟨b, hb⟩ : ∃ b, b = a.tmod 4 := ⟨_, rfl⟩
  have hb2 := tmod4 a
  rw [← hb] at hb2
  obtain ⟨e, he⟩ : ∃ e, e = num.tmod 4 := ⟨_, rfl⟩
  have he2 := tmod4 num
  rw [← he] at he2
  have hbe := mul3 hb2 he2
  obtain ⟨f, hf⟩ : ∃ f, f = b * e := ⟨_, rfl⟩
  rw [← hf] at hbe
  obtain ⟨z, hz⟩ : ∃ z, z = f.tmod 4 := ⟨_, rfl⟩
  have hz2 := tmod4 f
  rw [← hz] at hz2
  have ez : shZ turns num den = z := by unfold shZ; rw [← ha, ← hb, ← he, ← hf, ← hz]
  have Hpl2 := Hpl.out
  rw [ez] at Hpl2
  have Hpl := Lib.hid Hpl2
  have w1 : IntKind.i64.wrap a = a := by rw [IntKind.wrap_i64]; omega
  have w2 : IntKind.i64.wrap b = b := by rw [IntKind.wrap_i64]; omega
  have w3 : IntKind.i64.wrap e = e := by rw [IntKind.wrap_i64]; omega
  have w4 : IntKind.i64.wrap f = f := by rw [IntKind.wrap_i64]; omega
  have w5 : IntKind.i64.wrap z = z := by rw [IntKind.wrap_i64]; omega
  have w6 : wrap64 f = f := by unfold wrap64; omega
  replace ha := ha.symm
  replace hb := hb.symm
  replace he := he.symm
  replace hf := hf.symm
  replace hz := hz.symm
  clear kb hfit Hpl2 ez hb2 he2 hbe hz2 ht
  go_enter Tryz.func16, Tryz.ntmps16
  go_wp2_with (first
    | (go_at_call 17; refine (Hc.out _ hx).mono ?_; rintro e w1 ⟨B1, B2, B3, r1, d1, r2, d2, r3, d3, rfl, hx1, hck⟩; have H1 := Lib.hid (hx.trans hx1); have Hck := Lib.hid hck; have y0 := fun w' (he : Ext w1 w') => z0 w' (hx1.trans he); have y1 := fun w' (he : Ext w1 w') => z1 w' (hx1.trans he); clear z0 z1 hx hx1 hck)
    | (go_at_call 44; refine (Hck.out _ ((Ext.refl w1).alloc _)).mono ?_; rintro e w2 ⟨rfl, hx2⟩; have H2 := Lib.hid (H1.out.trans (((Ext.refl w1).alloc _).trans hx2)); clear hx2)
    | (go_at_call 41; refine (Hpl.out _).mono ?_; rintro e w3 ⟨rfl, hx3⟩; have Hx3 := Lib.hid hx3; clear hx3)
    | (go_at_call 45; generalize hGG : Calls _ _ _ _ _ = GG))
  obtain ⟨w22, h22⟩ : ∃ w22, w22 = w2.alloc (.cells #[.slice B n d, .slice B n d] 48) := ⟨_, rfl⟩
  have hr22 : Row w22 (some ⟨w2.heap.size, 0, none⟩) [.slice B n d, .slice B n d] := by
    rw [h22]
    exact Gr.row_alloc w2 #[.slice B n d, .slice B n d] 48
  have hx22 : Ext w2 w22 := by rw [h22]; exact (Ext.refl _).alloc _
  have hx23 : Ext w22 w3 := by rw [h22]; exact Hx3.out
  obtain ⟨W, hW⟩ : ∃ W, W = (w3.alloc (.cells #[.int .i64 0, .int .i64 0, .int .i64 0, .int .i64 0, .int .i64 (plainS t : Nat)] 70)).alloc (.cells #[.slice (some ⟨w2.heap.size, 0, none⟩) 2 2, .slice (some ⟨w3.heap.size, 0, none⟩) 1 1] 67) := ⟨_, rfl⟩
  have hx3W : Ext w3 W := by rw [hW]; exact ((Ext.refl _).alloc _).alloc _
  have hH : HRow W (some ⟨w3.heap.size, 0, none⟩) (flatHs 0 0 t) := by
    rw [hW]
    exact Row.ext (Gr.row_alloc w3 #[.int .i64 0, .int .i64 0, .int .i64 0, .int .i64 0, .int .i64 (plainS t : Nat)] 70) ((Ext.refl _).alloc _)
  have hwW : Ext w W := H2.out.trans (hx22.trans (hx23.trans hx3W))
  have hco := Hco.out W _ _ (Row.ext hr22 (hx23.trans hx3W)) hH (HB.out.ext hwW)
  have Hc2 := Lib.hid hco
  have HW := Lib.hid hwW
  rw [← hGG, ← hW]
  clear hco hwW hH hx3W hW hx23 hx22 hr22 h22 hGG
  refine (Hc2.out).mono ?_
  rintro e w8 ⟨v, rfl, hv⟩
  have Hv := Lib.hid (hv.since HW.out)
  clear hv HW Hc2 Hco
  dsimp only
  by_cases h1 : ce = 0
  · by_cases h2 : cd = 1
    · go_wp2
      go_ret2
      exact ⟨v, by simp [h1, h2], Hv.out⟩
    · go_wp2
      go_ret2
      exact ⟨v, by simp [h1, h2], Hv.out⟩
  · go_wp2
    go_ret2
    exact ⟨v, by simp [h1], Hv.out⟩
end Go.Proofs.YtebkhdhhajjhfaaGreat.Lt
