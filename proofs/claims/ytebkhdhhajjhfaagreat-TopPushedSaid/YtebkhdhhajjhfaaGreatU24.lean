/- Overlaps of any kinds and bricks. -/
import Derived.Test.YtebkhdhhajjhfaaGreatU22
import Derived.Test.YtebkhdhhajjhfaaGreatU23
import Derived.Shelf.SlSortCmp.NoneTotal
namespace Go.Proofs.YtebkhdhhajjhfaaGreat.Lt
open Go Go.RowKit Go.Maps Go.ChangeShapes
theorem tells_zero {f : Nat} {args : Array Value} {P : Prop} {w : World} (h : Calls Tryz.prog f args w (Tells P w)) (hP : P) : Calls Tryz.prog f args w fun e w' => e = .returned (.int .i64 0) ∧ Ext w w' :=
  h.mono fun e w' ⟨x, h1, h2, h3⟩ => ⟨by rw [h1, h2.2 hP], h3⟩
theorem ki_nodup {k : Ki} (h : KiOk k) : k.cs.Nodup := asc_nodup fun i hi => ordC_neg.1 (h.asc i hi)
theorem ki_near {k : Ki} (h : KiOk k) : ∀ c ∈ k.cs, nearP c (-1000) 1000 := by
  intro c hc
  obtain ⟨i, hi, rfl⟩ := List.getElem_of_mem hc
  have := h.near i hi
  rw [ceA_at hi] at this
  unfold nearP at *
  omega
set_option maxRecDepth 100000 in
set_option maxHeartbeats 1000000 in
theorem overlaps_good (l : List Ki) (A : Option Addr) (c : Nat) (ms : List Br) (M : Option Addr) (mc : Nat) (w : World) (hA : KiRow w A l) (h8 : kindsW l) (hk0 : kindsP l) (hM : BrRow w M ms) (hm : ms.length ≤ 40) (hb : bricksP l.length ms) :
    Calls Tryz.prog 39 #[.slice A l.length c, .agg #[.slice M ms.length mc]] w fun e w' => ∃ X n x, e = .returned (.tuple #[.slice X n x, .int .i64 0]) ∧ (0 < (n : Int) ↔ ovlP l ms ms.length) ∧ Ext w w' := by
  have hmm := @run_makeMap Tryz.prog
  have hl := hk0.1
  have hk := hk0.2
  have hbw : bricksW ms := fun i hi => ⟨(hb i hi).t0, (hb i hi).c0⟩
  have hcc := fun w' (he : Ext w w') => tells_zero (checkkinds_gen l A c w' (hA.ext he) h8) hk0
  have hck := fun w' (he : Ext w w') => tells_zero (check_gen l A c ms M mc w' (hA.ext he) h8 (hM.ext he) (by omega) hbw) ⟨hk0, hb⟩
  obtain ⟨m, hmE⟩ : ∃ m, m = ms.length := ⟨_, rfl⟩
  obtain ⟨n, hnE⟩ : ∃ n, n = l.length := ⟨_, rfl⟩
  rw [← hmE] at hm ⊢
  rw [← hnE] at hl ⊢
  unfold bricksP at hb
  simp only [← hmE, ← hnE] at hcc hck hb hk
  have HA := Lib.hid hA
  have HM := Lib.hid hM
  have Hk := Lib.hid hk
  have Hb := Lib.hid hb
  have HmE := Lib.hid hmE
  have HnE := Lib.hid hnE
  have Hcc := Lib.hid hcc
  have Hck := Lib.hid hck
  have k0 : Blk (w.alloc (.cells #[.slice M m mc] 25)) w.heap.size [.slice M m mc] := Blk.new _ _
  have x0 : Ext w (w.alloc (.cells #[.slice M m mc] 25)) := (Ext.refl w).alloc _
  have b0 := k0.at_ 0 rfl
  have hmi : ¬ (m : Int) > 40 := by omega
  clear hcc hck hA hM hk hb k0 hmE hnE h8 hk0 hbw
  go_enter Tryz.func39, Tryz.ntmps39
  go_wp2_with (first
    | (go_at_call 73; refine (Hcc.out _ x0).mono ?_; rintro e w1 ⟨rfl, hx1⟩; have x1 := x0.trans hx1; have b1 := fun w' (he : Ext w1 w') => b0 w' (hx1.trans he); clear b0 x0 hx1)
    | (go_at_call 71; refine (Hck.out _ x1).mono ?_; rintro e w2 ⟨rfl, hx2⟩; have x2 := x1.trans hx2; have b2 := fun w' (he : Ext w2 w') => b1 w' (hx2.trans he); have b3 := b2 _ (((Ext.refl w2).alloc (.map #[] 0)).alloc (.map #[] 0)); clear b1 x1 hx2))
  have hI0 : InM w2 (w2.alloc (.map #[] 0)) w2.heap.size (w2.heap.size + 1) 0 (fun _ _ => False) := InM.start (Ext.refl w2) rfl
  have hP0 : PrM w2 ((w2.alloc (.map #[] 0)).alloc (.map #[] 0)) (w2.heap.size + 1) 0 False := PrM.start (w := w2.alloc (.map #[] 0)) ((Ext.refl _).alloc _) (by simp)
  have HI0 := Lib.hid (hI0.later ((Ext.refl _).alloc (.map #[] 0)))
  have HP0 := Lib.hid hP0
  clear hI0 hP0 hmm Hcc Hck b2 b3 hmi
  go_loopw [39] (fun i wr => ∃ k : Nat, k ≤ m ∧ i = .int .i64 k ∧ InM w2 wr w2.heap.size (w2.heap.size + 1) (24 * k) (fB l ms k) ∧ PrM w2 wr (w2.heap.size + 1) (100000 * k) (ovlP l ms k)) (fun i _ => m - (intOf i).toNat)
  case atStart =>
    exact ⟨0, by omega, rfl, HI0.out.congr fun c _ x => ⟨False.elim, fB_zero _ _ _ _⟩, HP0.out.congr ⟨False.elim, ovl_zero _ _⟩⟩
  case round =>
    clear HI0 HP0
    obtain ⟨k, hkm, rfl, hI, hP⟩ := hrel
    by_cases hlt : k < m
    · have hki : (k : Int) < (m : Int) := by omega
      have hbk := Hb.out k hlt
      obtain ⟨am, rfl, y0, y1, y2, y3, y4, y5⟩ := HM.out.at_ (show k < ms.length by rw [← HmE.out]; exact hlt)
      have hx := x2.trans hI.ext
      have u0 := fun w' he => y0 w' (hx.trans he)
      have u1 := fun w' he => y1 w' (hx.trans he)
      have u2 := fun w' he => y2 w' (hx.trans he)
      have u3 := fun w' he => y3 w' (hx.trans he)
      have u4 := fun w' he => y4 w' (hx.trans he)
      have u5 := fun w' he => y5 w' (hx.trans he)
      clear y0 y1 y2 y3 y4 y5
      have hpl : plB l ms k = placed (kiA l (brA ms k).kind.toNat).cs (brA ms k).trn.toNat (brA ms k).at_ := rfl
      generalize brA ms k = b at *
      obtain ⟨kind, ⟨ox, oy, oz⟩, trn, col⟩ := b
      obtain ⟨z0, z1, hnear, t0, t1, c0, c1⟩ := hbk
      simp only at u0 u1 u2 u3 u4 u5 z0 z1 hnear t0 t1 c0 c1 hpl
      obtain ⟨kn, rfl⟩ : ∃ kn : Nat, kind = kn := ⟨kind.toNat, by omega⟩
      obtain ⟨tn, rfl⟩ : ∃ tn : Nat, trn = tn := ⟨trn.toNat, by omega⟩
      have hkn : kn < n := by omega
      have htn : tn < 24 := by omega
      have htw : IntKind.i64.wrap (tn : Int) = (tn : Int) := by rw [IntKind.wrap_i64]; omega
      rw [show ((kn : Int).toNat) = kn by omega, show ((tn : Int).toNat) = tn by omega] at hpl
      obtain ⟨ak, B, bc, D, dc, rfl, s0, s1, s2, hcs, hks⟩ := HA.out kn (by rw [← HnE.out]; exact hkn)
      have q0 := fun w' he => s0 w' (hx.trans he)
      have q1 := fun w' he => s1 w' (hx.trans he)
      have q2 := fun w' he => s2 w' (hx.trans he)
      have hkk := Hk.out kn hkn
      have hcl := fun w' (he : Ext wr w') => cells_any (kiA l kn).cs B bc D (kiA l kn).ks.length dc (kiA l kn).wt tn ⟨ox, oy, oz⟩ w' (hcs.ext (hx.trans he)) (by have := hkk.n1; omega) (ki_near hkk) htn hnear
      have hcn : (plB l ms k).Nodup := by rw [hpl]; exact placed_nodup (ki_nodup hkk) _ _
      have hcr : ∀ c ∈ plB l ms k, nearP c (-2000) 2000 := by rw [hpl]; exact fun c hc => placed_near (ki_near hkk) hnear tn hc
      have hcL : (kiA l kn).cs.length ≤ 24 := hkk.n1
      rw [← hpl] at hcl
      have hpL : (plB l ms k).length = (kiA l kn).cs.length := by rw [hpl]; simp [placed]
      have Hx := Lib.hid hx
      have Hcl := Lib.hid hcl
      have Hcn := Lib.hid hcn
      have Hcr := Lib.hid hcr
      have Hpl := Lib.hid hpl
      have HpL := Lib.hid hpL
      have HI := Lib.hid hI
      have HP := Lib.hid hP
      clear hx hcl hcn hcr hpl hpL hI hP s0 s1 s2 hkk hcs hks hnear z0 z1 t0 t1 c0 c1 HA HM Hk Hb
      generalize (kiA l kn).cs.length = L at *
      generalize (kiA l kn).ks.length = mk at *
      generalize (kiA l kn).wt = wt at *
      have hkn0 : (kn : Int) < (n : Int) := by omega
      go_wp2
      have kq : Blk (wr.alloc (.cells #[.int .i64 kn, .int .i64 ox, .int .i64 oy, .int .i64 oz, .int .u8 tn, .int .u8 col] 85)) wr.heap.size [.int .i64 kn, .int .i64 ox, .int .i64 oy, .int .i64 oz, .int .u8 tn, .int .u8 col] := Blk.new _ _
      have hx7 : Ext wr (wr.alloc (.cells #[.int .i64 kn, .int .i64 ox, .int .i64 oy, .int .i64 oz, .int .u8 tn, .int .u8 col] 85)) := (Ext.refl _).alloc _
      generalize (wr.alloc (.cells #[.int .i64 kn, .int .i64 ox, .int .i64 oy, .int .i64 oz, .int .u8 tn, .int .u8 col] 85)) = w7 at kq hx7 ⊢
      have p0 := kq.at_ 0 rfl
      have p1 := kq.at_ 1 rfl
      have p2 := kq.at_ 2 rfl
      have p3 := kq.at_ 3 rfl
      have p4 := kq.at_ 4 rfl
      have r0 := fun w' (he : Ext w7 w') => q0 w' (hx7.trans he)
      have r1 := fun w' (he : Ext w7 w') => q1 w' (hx7.trans he)
      have r2 := fun w' (he : Ext w7 w') => q2 w' (hx7.trans he)
      clear kq u0 u1 u2 u3 u4 u5 q0 q1 q2
      refine Cg.wp_region_calm (p := Cg.extPre) (fr := (fun _ => false)) 13 (fun j _ v w' => j = 10 → ∃ g cap qs, v = .slice (some ⟨g, 0, none⟩) L cap ∧ List.Perm qs (plB l ms k) ∧ Own w7 w' 60 3 (.slice (some ⟨g, 0, none⟩) L cap) L (qs.map Ce.cells).flatten) (fun _ _ _ _ _ he h hj => by obtain ⟨g, cap, qs, h1, h2, h3⟩ := h hj; exact ⟨g, cap, qs, h1, h2, h3.later he⟩) (by kernel_rfl) (by kernel_rfl) ?_
      simp only [List.take_succ_cons, List.take_zero, List.drop_succ_cons, List.drop_zero]
      refine Cg.calm_quiet Cg.calm_mono_final w7 (fun _ h => h) 10 (by kernel_rfl) ?_
      simp only [List.take_succ_cons, List.take_zero, List.drop_succ_cons, List.drop_zero]
      repeat (go_big_quiet_step (fail))
      refine wpQuiet_nil ?_
      refine Cg.calm_call Cg.calm_mono_final 72 #[.agg #[.slice B L bc, .slice D mk dc, .int .i64 wt], .int .i64 tn, .agg #[.int .i64 ox, .int .i64 oy, .int .i64 oz]] rfl (fun w => ?_) (fun w' he hF => ?_) ?_
      · go_simp
      · exact (Hcl.out w' (hx7.trans he)).mono fun e w'' ⟨g, cap, qs, he', hq, ho⟩ => ⟨_, he', ho.ext, fun _ => ⟨g, cap, qs, rfl, hq, ho.since he⟩, fun h => by cases h⟩
      rintro _ w8 he8 h _
      obtain ⟨g, cap, qs, rfl, hq, ho⟩ := h rfl
      simp only [Act.put, List.setIfInBounds_toArray, List.set_cons_succ, List.set_cons_zero]
      refine Cg.calm_quiet Cg.calm_mono_final w7 (fun _ h => h) 2 (by kernel_rfl) ?_
      simp only [List.take_succ_cons, List.take_zero, List.drop_succ_cons, List.drop_zero]
      repeat (go_big_quiet_step (fail))
      refine wpQuiet_nil ?_
      refine Cg.calm_nil fun w9 he9 hf9 => ?_
      clear hq ho h p0 p1 p2 p3 p4 r0 r1 r2 Hcl he8 w8 qs
      obtain ⟨g', cap', qs, e', hq, ho⟩ := (hf9.1 10).2 rfl rfl
      cases e'
      clear hf9
      have hy9 : Ext w7 w9 := he9
      clear he9
      have hqL : qs.length = L := hq.length_eq.trans HpL.out
      have hI9 := HI.out.later (hx7.trans hy9)
      have hP9 := HP.out.later (hx7.trans hy9)
      have ho9 := ho.since (HI.out.ext.trans hx7)
      have Hq := Lib.hid hq
      have Hn := Lib.hid (hq.nodup_iff.2 Hcn.out)
      have Hr := Lib.hid (fun c hc => Hcr.out c (hq.mem_iff.1 hc))
      have Hst := Lib.hid (And.intro hI9 (And.intro hP9 ho9))
      clear hI9 hP9 ho9 ho hq hy9 hx7 Hcn Hcr HI HP w7
      have HqL := Lib.hid hqL
      clear hqL
      go_wp2
      go_loopw [56] (fun i wr2 => ∃ j : Nat, j ≤ L ∧ i = .int .i64 j ∧ InM w2 wr2 w2.heap.size (w2.heap.size + 1) (24 * k + j) (fun c x => fB l ms k c x ∨ x = (k : Int) ∧ c ∈ qs.take j) ∧ PrM w2 wr2 (w2.heap.size + 1) (100000 * k + 1000 * j) (ovlP l ms k ∨ ∃ c ∈ qs.take j, ∃ x, fB l ms k c x) ∧ Own w2 wr2 60 3 (.slice (some ⟨g, 0, none⟩) L cap) L (qs.map Ce.cells).flatten) (fun i _ => L - (intOf i).toNat)
      case atStart => exact ⟨0, by omega, rfl, Hst.out.1.congr fun c _ x => by simp, Hst.out.2.1.congr (by simp), Hst.out.2.2⟩
      case round =>
        clear Hst
        obtain ⟨j, hj, rfl, hI, hP, ho⟩ := hrel
        by_cases hjl : j < L
        · have hji : (j : Int) < (L : Int) := by omega
          have hjq : j < qs.length := by rw [HqL.out]; exact hjl
          have hlen : (qs.map Ce.cells).flatten.length = L * 3 := by rw [Ce.cells_len, HqL.out]
          obtain ⟨f0, f1, f2⟩ := cells_at qs hjq
          have e0 : wr.cell? ⟨g, j * 3, none⟩ = some (.int .i64 qs[j].x) := (ho.cell (j := j * 3) (by omega)).trans f0
          have e1 : wr.cell? ⟨g, j * 3 + 1, none⟩ = some (.int .i64 qs[j].y) := (ho.cell (j := j * 3 + 1) (by omega)).trans f1
          have e2 : wr.cell? ⟨g, j * 3 + 2, none⟩ = some (.int .i64 qs[j].z) := (ho.cell (j := j * 3 + 2) (by omega)).trans f2
          have hnr := Hr.out qs[j] (List.getElem_mem hjq)
          have hnr5 : nearP qs[j] (-5000) 5000 := by unfold nearP at *; omega
          have hfr := nodup_take Hn.out hjq
          have hmt := fun c => mem_take_succ hjq c
          clear f0 f1 f2 hlen hnr
          generalize qs[j] = z at *
          obtain ⟨zx, zy, zz⟩ := z
          have HI := Lib.hid hI
          have HP := Lib.hid hP
          have HO := Lib.hid ho
          have Hfr := Lib.hid hfr
          have Hmt := Lib.hid hmt
          simp only at e0 e1 e2
          clear hI hP ho hfr hmt
          have hx7 : Ext wr (wr.alloc (.cells #[.int .i64 zx, .int .i64 zy, .int .i64 zz] 60)) := (Ext.refl _).alloc _
          have HI7 := Lib.hid (HI.out.later hx7)
          have HP7 := Lib.hid (HP.out.later hx7)
          have HO7 := Lib.hid (HO.out.later hx7)
          have HB7 := Lib.hid (Own.lit (e := 60) (size := 3) HI.out.ext #[.int .i64 zx, .int .i64 zy, .int .i64 zz] 1 (by unfold maxLen; omega) rfl)
          clear HI HP HO hx7
          go_wp2_with (refine InM.look rfl _ _ rfl rfl HI7.out (by omega) ⟨zx, zy, zz⟩ hnr5 rfl ?_; intro A5 zs cap5 hzs hzl hzm; obtain ⟨p, hp⟩ : ∃ p, p = zs.length := ⟨_, rfl⟩; rw [← hp] at hzs hzl ⊢; have Hp := Lib.hid hp; have Hzs := Lib.hid hzs; have Hzm := Lib.hid hzm; clear hp hzs hzm)
          have hp0 : 0 < p ↔ ∃ x, fB l ms k ⟨zx, zy, zz⟩ x := by
            rw [Hp.out, List.length_pos_iff_exists_mem]
            constructor
            · rintro ⟨x, hx⟩
              rcases (Hzm.out x).1 hx with h | h
              · exact ⟨x, h⟩
              · exact absurd h.2 Hfr.out
            · rintro ⟨x, hx⟩
              exact ⟨x, (Hzm.out x).2 (.inl hx)⟩
          have hsm : ∀ x ∈ zs, 0 ≤ x ∧ x ≤ 1000 := fun x hx => by
            rcases (Hzm.out x).1 hx with h | h
            · have := fB_small h
              omega
            · obtain ⟨rfl, _⟩ := h
              omega
          have Hp0 := Lib.hid hp0
          have Hsm := Lib.hid hsm
          have Hst := Lib.hid (And.intro HI7.out (And.intro HP7.out (And.intro Hzs.out (And.intro HO7.out HB7.out))))
          obtain ⟨bx, hbx⟩ : ∃ bx, bx = wr.heap.size := ⟨_, rfl⟩
          rw [← hbx] at Hst ⊢
          generalize (wr.alloc (.cells #[.int .i64 zx, .int .i64 zy, .int .i64 zz] 60)) = w7 at Hst ⊢
          clear HI7 HP7 HB7 HO7 Hzs hp0 hsm hbx Hzm Hfr e0 e1 e2
          go_loopw [64] (fun i wr3 => ∃ z : Nat, z ≤ p ∧ i = .int .i64 z ∧ InM w2 wr3 w2.heap.size (w2.heap.size + 1) (24 * k + j) (fun c x => fB l ms k c x ∨ x = (k : Int) ∧ c ∈ qs.take j) ∧ PrM w2 wr3 (w2.heap.size + 1) (100000 * k + 1000 * j + z) ((ovlP l ms k ∨ ∃ c ∈ qs.take j, ∃ x, fB l ms k c x) ∨ 0 < z) ∧ Own w2 wr3 3 1 (.slice A5 p cap5) p (zs.map (Value.int .i64)) ∧ Own w2 wr3 60 3 (.slice (some ⟨g, 0, none⟩) L cap) L (qs.map Ce.cells).flatten ∧ Own w2 wr3 60 3 (.slice (some ⟨bx, 0, none⟩) 1 1) 1 [.int .i64 zx, .int .i64 zy, .int .i64 zz]) (fun i _ => p - (intOf i).toNat)
          case atStart => exact ⟨0, by omega, rfl, Hst.out.1, Hst.out.2.1.congr (by simp), Hst.out.2.2⟩
          case round =>
            clear Hst
            obtain ⟨z, hz, rfl, hI, hP, hZ, hO, hB⟩ := hrel
            by_cases hzp : z < p
            · have hzi : (z : Int) < (p : Int) := by omega
              obtain ⟨g5, c5, e5, _, _⟩ := hZ.at_ (by omega)
              cases e5
              have hzq : z < zs.length := by rw [← Hp.out]; exact hzp
              have e0 : wr.cell? ⟨g5, z, none⟩ = some (.int .i64 zs[z]) := (hZ.cell (j := z) (by simpa using hzq)).trans (by simp [hzq])
              have hsz := Hsm.out zs[z] (List.getElem_mem hzq)
              generalize zs[z] = x at e0 hsz
              have HI := Lib.hid hI
              have HP := Lib.hid hP
              have HZ := Lib.hid hZ
              have HO := Lib.hid hO
              have HB := Lib.hid hB
              clear hI hP hZ hO hB
              go_wp2_with (refine PrM.store rfl _ _ _ rfl rfl HP.out (by omega) x (k : Int) ⟨by omega, by omega⟩ ⟨by omega, by omega⟩ rfl rfl ?_; intro w12 hP12 hg12)
              obtain ⟨es, clock, hmap⟩ := HP.out.isMap
              have hle : w2.heap.size ≤ w2.heap.size + 1 := by omega
              have hgt : ∀ k', some (w2.heap.size + 1) = some k' → w2.heap.size ≤ k' := fun k' e => by cases e; exact hle
              go_roundw
              case rel => exact ⟨z + 1, by omega, by go_num, HI.out.beside hg12 hle hmap (by omega), hP12.congr ⟨fun _ => .inr (by omega), fun _ => trivial⟩, own_grown HZ.out hg12 hgt (own_ne_map HZ.out hmap), own_grown HO.out hg12 hgt (own_ne_map HO.out hmap), own_grown HB.out hg12 hgt (own_ne_map HB.out hmap)⟩
              case measure => simp [intOf]; omega
            · obtain rfl : p = z := by omega
              have hzi : ¬ (p : Int) < (p : Int) := by omega
              clear hZ
              have hx8 : Ext wr (wr.alloc (.cells #[.int .i64 k] 3)) := (Ext.refl _).alloc _
              have HB := Lib.hid hB
              have HI8 := Lib.hid (hI.later hx8)
              have HP8 := Lib.hid (hP.later hx8)
              have HO8 := Lib.hid (hO.later hx8)
              have HB8 := Lib.hid (hB.later hx8)
              have HS8 := Lib.hid (Own.lit (e := 3) (size := 1) hI.ext #[.int .i64 k] 1 (by unfold maxLen; omega) rfl)
              have e0 : wr.cell? ⟨bx, 0, none⟩ = some (.int .i64 zx) := hB.cell (j := 0) (by simp)
              have e1 : wr.cell? ⟨bx, 1, none⟩ = some (.int .i64 zy) := hB.cell (j := 1) (by simp)
              have e2 : wr.cell? ⟨bx, 2, none⟩ = some (.int .i64 zz) := hB.cell (j := 2) (by simp)
              clear hI hP hO hB hx8
              have hneB : (Value.slice (some ⟨g, 0, none⟩) L cap).ownBlock = none ∨ (Value.slice (some ⟨g, 0, none⟩) L cap).ownBlock ≠ some w2.heap.size := by
                obtain ⟨es, clock, hmap⟩ := HI8.out.isMap
                exact own_ne_map HO8.out hmap
              have hneS : (Value.slice (some ⟨wr.heap.size, 0, none⟩) 1 1).ownBlock = none ∨ (Value.slice (some ⟨wr.heap.size, 0, none⟩) 1 1).ownBlock ≠ some w2.heap.size := by
                obtain ⟨es, clock, hmap⟩ := HI8.out.isMap
                exact own_ne_map HS8.out hmap
              have HneB := Lib.hid hneB
              have HneS := Lib.hid hneS
              have hgt : ∀ k', some w2.heap.size = some k' → w2.heap.size ≤ k' := fun k' e => by cases e; exact Nat.le_refl _
              have Hgt := Lib.hid hgt
              clear hneB hneS hgt
              go_wp2_with (first
                | (refine InM.entry rfl _ _ rfl rfl HI8.out (by omega) ⟨zx, zy, zz⟩ hnr5 rfl ?_; intro A6 ys cap6 st w15 hg15 hE; obtain ⟨y, hy⟩ : ∃ y, y = ys.length := ⟨_, rfl⟩; rw [← hy] at hE ⊢; have HP15 := Lib.hid (HP8.out.kept hg15 hE.ext (fun e => by have := Option.some.inj e; omega)); have HO15 := Lib.hid (own_grown HO8.out hg15 Hgt.out HneB.out); have HS15 := Lib.hid (own_grown HS8.out hg15 Hgt.out HneS.out); have HE := Lib.hid hE; have Hy := Lib.hid hy; clear hy hE hg15)
                | (obtain ⟨ie, hi, hz0, hz1, hz2⟩ := int_elem.info; have hh := HS15.out.at_ (by omega); have hap := HE.out.len; refine wpList_append_own_at _ rfl _ _ 26 rfl (w2.heap.size + 1) 3 ie _ 1 8 Tryz.underlying26 hi hz0 hz1 hz2 int_elem.zs int_elem.pos (.slice A6 y cap6) ys.length (ys.map (Value.int .i64)) rfl HE.out.own.1 ⟨wr.heap.size, 0, none⟩ 1 1 [.int .i64 k] rfl rfl (fun j u hu => by obtain ⟨ad', he, hc⟩ := (Own.row HS15.out) j (List.getElem?_eq_some_iff.1 hu).1; rw [Option.some.inj he]; exact hc.trans hu) (by intro u hu; simp only [List.mem_singleton] at hu; subst hu; rfl) (by unfold maxLen; omega) (by omega) (by obtain ⟨_, _, _, h1, h2⟩ := hh; omega) ?_; intro v16 w16 ho16 hg16 _ hloc16; have Ho16 := Lib.hid ho16; have Hg16 := Lib.hid hg16; have Hl16 := Lib.hid hloc16; clear ho16 hg16 hloc16 hi hz0 hz1 hz2 hh hap; obtain ⟨w17, h17, hI17, hg17⟩ := HE.out.run Hg16.out (WalkArith.wf_i64 (by omega)) Ho16.out Hl16.out; have HI17 := Lib.hid hI17; have Hg17 := Lib.hid hg17; clear hI17 hg17))
              obtain ⟨es, clock, hmap⟩ := HP15.out.isMap
              have hbase := fun k' (e : (Value.slice A6 y cap6).ownBlock = some k') => (show w2.heap.size ≤ k' by have := (HE.out.own.1.lt k' e).1; omega)
              have hnem := ints_not_map HE.out.own hmap
              have hx16 : Ext w2 w16 := HE.out.ext.grown Hg16.out hbase
              have hP16 := HP15.out.kept Hg16.out hx16 (fun e => by rcases hnem with h | h <;> rw [← e] at h; cases h; exact h rfl)
              have hO16 := own_grown HO15.out Hg16.out hbase (own_ne_row HO15.out HE.out.own.1 (by decide))
              have hP17 := hP16.kept Hg17.out HI17.out.ext (fun e => by have := Option.some.inj e; omega)
              have hO17 := own_grown hO16 Hg17.out Hgt.out HneB.out
              have HI := HI17
              have HP := Lib.hid hP17
              have HO := Lib.hid hO17
              clear hP16 hO16 hP17 hO17 hmap hnem hx16 hbase
              go_roundw
              case rel =>
                refine ⟨j + 1, by omega, by go_num, HI.out.congr fun c _ x => ?_, (HP.out.mono (show 100000 * k + 1000 * j + p ≤ 100000 * k + 1000 * (j + 1) by omega)).congr ?_, HO.out⟩
                · rw [Hmt.out]
                  constructor
                  · rintro ((h | ⟨h1, h2⟩) | ⟨h1, h2⟩)
                    · exact .inl h
                    · exact .inr ⟨h1, .inl h2⟩
                    · exact .inr ⟨h2, .inr h1⟩
                  · rintro (h | ⟨h1, h2 | h2⟩)
                    · exact .inl (.inl h)
                    · exact .inl (.inr ⟨h1, h2⟩)
                    · exact .inr ⟨h2, h1⟩
                · rw [Hp0.out]
                  constructor
                  · rintro ((h | ⟨c, h1, h2⟩) | h)
                    · exact .inl h
                    · exact .inr ⟨c, (Hmt.out c).2 (.inl h1), h2⟩
                    · exact .inr ⟨_, (Hmt.out _).2 (.inr rfl), h⟩
                  · rintro (h | ⟨c, h1, h2⟩)
                    · exact .inl (.inl h)
                    · rcases (Hmt.out c).1 h1 with h3 | rfl
                      · exact .inl (.inr ⟨c, h3, h2⟩)
                      · exact .inr h2
              case measure => simp [intOf]; omega
        · obtain rfl : L = j := by omega
          have hji : ¬ (L : Int) < (L : Int) := by omega
          have hall : qs.take L = qs := List.take_of_length_le (by rw [HqL.out]; exact Nat.le_refl _)
          rw [hall] at hI hP
          have HI := Lib.hid (hI.mono (show 24 * k + L ≤ 24 * (k + 1) by omega))
          have HP := Lib.hid (hP.mono (show 100000 * k + 1000 * L ≤ 100000 * (k + 1) by omega))
          clear hI hP ho hall
          go_wp2
          go_roundw
          case rel => exact ⟨k + 1, by omega, by go_num, HI.out.congr fun c _ x => by rw [fB_step, Hq.out.mem_iff], HP.out.congr (by rw [ovl_step]; simp only [Hq.out.mem_iff])⟩
          case measure => simp [intOf]; omega
    · obtain rfl : m = k := by omega
      have hki : ¬ (m : Int) < (m : Int) := by omega
      obtain ⟨D, g1, g2, g3, g4, g5⟩ := hP
      have hsz := g2.size_le
      have G2 := Lib.hid g2
      have G3 := Lib.hid g3
      have G4 := Lib.hid g4
      clear hI g2 g3 g4 g1 g5 HA HM Hk Hb
      go_wp2_with (first
        | (at_range; refine wpList_range_own _ rfl _ 172 rfl 173 4 Kpair Tryz.underlying172 (plainElem Tryz.prog 4) (w2.heap.size + 1) (100000 * m) D rfl G2.out ?_; intro w6 hr6 hg6 hs6; have hx6 := G4.out.grown hg6 (fun j hj => by cases hj); have Hr6 := Lib.hid hr6; have Hx6 := Lib.hid hx6; clear hr6 hg6 hs6 hx6))
      obtain ⟨rr, hrr⟩ : ∃ rr, rr = wr.heap.size := ⟨_, rfl⟩
      have hrb : w2.heap.size ≤ rr := by rw [hrr]; exact G4.out.le
      rw [← hrr] at Hr6 ⊢
      clear G2
      go_loopw [16] (fun v wr => ∃ (left : Lit → Bool) (cnt : Nat) (ps : List (Int × Int)), wr.ranges Tryz.prog 173 (plainElem Tryz.prog 4) (w2.heap.size + 1) rr (100000 * m) D left cnt ∧ ps.length + cnt ≤ Maps.size D ∧ (ps.length = 0 → cnt = Maps.size D) ∧ Own w2 wr 173 2 v ps.length (ps.map fun p => [Value.int .i64 p.1, Value.int .i64 p.2]).flatten) (fun _ wr => wr.rangeLeft (w2.heap.size + 1) rr)
      case atStart => exact ⟨_, _, [], Hr6.out, by simp, fun _ => rfl, Own.nil' Hx6.out _ _⟩
      case round =>
        clear Hr6 Hx6 G4 hrr
        obtain ⟨left, cnt, ps, hrg, hc1, hc2, hO⟩ := hrel
        have HO := Lib.hid hO
        clear hO
        go_wp2_with (first
          | (at_next; refine wpList_next_ranges _ rfl _ rfl 173 Kpair (plainElem Tryz.prog 4) (fun x : Int × Int => .agg #[.int .i64 x.1, .int .i64 x.2]) (fun x : Value => x) (fun key kl h => pair_inv h) (fun v y h => ⟨v, rfl⟩) (w2.heap.size + 1) rr (100000 * m) D _ _ rfl hrg ?_ ?_))
        · intro hc0 _
          have hps : (0 < ps.length ↔ ovlP l ms m) := by
            rw [← G3.out]
            omega
          obtain ⟨X, xc, rfl⟩ := HO.out.form
          have hso := sort_pairs _ ps w2 wr HO.out (by omega)
          have Hso := Lib.hid hso
          have Hps := Lib.hid hps
          clear hso hps hrg
          generalize ps.length = pn at *
          go_wp2_with (go_at_call 74; refine (Hso.out).mono ?_; rintro e w9 ⟨rfl, hx9⟩)
          go_ret2
          exact ⟨X, pn, xc, rfl, ⟨fun h => Hps.out.1 (by omega), fun h => by have := Hps.out.2 h; omega⟩, x2.trans hx9⟩
        · intro xa xb c1 kl ya yb w4 cnt' _ _ _ _ hrg1 hlt hg4 hs4 hen
          have hO4 := own_grown HO.out hg4 (fun k' e => by cases e; exact hrb) (by rcases (own_ne_ranges HO.out hrg).2 with h; exact .inr fun e => h e.symm)
          have hne := own_ne_ranges hO4 hrg1
          have hlq := hrg1.left_eq
          have hlp := hrg.left_eq
          have hxb : Ext w4 (w4.alloc (.cells #[.int .i64 xa, .int .i64 xb] 173)) := (Ext.refl _).alloc _
          have HO5 := Lib.hid ((hO4.later hxb).alloc (.cells #[.int .i64 xa, .int .i64 xb] 173))
          have Hrg5 := Lib.hid ((hrg1.alloc (.cells #[.int .i64 xa, .int .i64 xb] 173)).alloc (.cells #[.int .i64 xa, .int .i64 xb] 173))
          have hrw := Gr.row_alloc (w4.alloc (.cells #[.int .i64 xa, .int .i64 xb] 173)) #[.int .i64 xa, .int .i64 xb] 173
          rw [show (w4.alloc (.cells #[.int .i64 xa, .int .i64 xb] 173)).heap.size = w4.heap.size + 1 by simp] at hrw
          have Hrw := Lib.hid hrw
          have hsq : ps.length < 4000000 := by omega
          have Hsq := Lib.hid hsq
          clear hrw hsq
          have Hne := Lib.hid hne
          have Hlp := Lib.hid hlp
          clear hO4 hne hlq hlp hrg hrg1 HO hg4 hs4 hxb
          go_wp2_with (refine Gr.own_append_at pair_elem rfl _ _ 106 rfl Tryz.underlying106 _ ps.length _ rfl HO5.out ⟨w4.heap.size + 1, 0, none⟩ 1 1 [.int .i64 xa, .int .i64 xb] rfl rfl Hrw.out (by intro u hu; simp only [List.mem_cons, List.not_mem_nil, or_false] at hu; rcases hu with rfl | rfl <;> rfl) (by have := Hsq.out; omega) (by have := Hsq.out; unfold maxLen; omega) ?_; intro v9 w9 ho9 hg9 _; have hrg9 := Hrg5.out.kept hg9 Hne.out.1 Hne.out.2; have HO9 := Lib.hid ho9; have Hrg9 := Lib.hid hrg9; clear ho9 hg9 hrg9)
          go_roundw
          case rel => exact ⟨_, cnt', ps ++ [(xa, xb)], Hrg9.out, by simp; omega, by simp, by have := HO9.out; simpa using this⟩
          case measure => rw [Hrg9.out.left_eq, Hlp.out]; exact hlt
/-- A model within the limits, of valid kinds and bricks. -/
def boundP (l : List Ki) (ms : List Br) : Prop := kindsP l ∧ ms.length ≤ 40 ∧ bricksP l.length ms
set_option maxRecDepth 100000 in
set_option maxHeartbeats 1000000 in
theorem overlaps_bad (l : List Ki) (A : Option Addr) (c : Nat) (ms : List Br) (M : Option Addr) (mc : Nat) (w : World) (hA : KiRow w A l) (h8 : kindsW l) (hM : BrRow w M ms) (hbw : bricksW ms) (hno : ¬ boundP l ms) :
    Calls Tryz.prog 39 #[.slice A l.length c, .agg #[.slice M ms.length mc]] w fun e w' => ∃ x : Int, e = .returned (.tuple #[.slice none 0 0, .int .i64 x]) ∧ x ≠ 0 ∧ Ext w w' := by
  have hcc := fun w' (he : Ext w w') => checkkinds_gen l A c w' (hA.ext he) h8
  have hck := fun (hm : ms.length ≤ 40) w' (he : Ext w w') => check_gen l A c ms M mc w' (hA.ext he) h8 (hM.ext he) (by omega) hbw
  have hbr : kindsP l → ms.length ≤ 40 → ¬ (kindsP l ∧ bricksP l.length ms) := fun h1 h2 h3 => hno ⟨h1, h2, h3.2⟩
  have Hcc := Lib.hid hcc
  have Hck := Lib.hid hck
  have Hbr := Lib.hid hbr
  clear hcc hck hbr hA hM h8 hbw hno
  generalize (kindsP l ∧ bricksP l.length ms) = OK at *
  generalize kindsP l = KP at *
  generalize l.length = n at *
  generalize ms.length = m at *
  have k0 : Blk (w.alloc (.cells #[.slice M m mc] 25)) w.heap.size [.slice M m mc] := Blk.new _ _
  have x0 : Ext w (w.alloc (.cells #[.slice M m mc] 25)) := (Ext.refl w).alloc _
  have b0 := k0.at_ 0 rfl
  have X0 := Lib.hid x0
  clear k0 x0
  by_cases hKP : ¬ KP
  · have HK := Lib.hid hKP
    clear hKP
    go_enter Tryz.func39, Tryz.ntmps39
    go_wp2_with (go_at_call 73; refine (Hcc.out _ X0.out).mono ?_; rintro e w1 ⟨x, rfl, hx, hx1⟩; have hxz : x ≠ 0 := (fun h => HK.out (hx.1 h)); have hxn : (x != 0) = true := (by simp [hxz]); have H1 := Lib.hid (X0.out.trans hx1); have HZ := Lib.hid hxz; clear hx hx1 hxz)
    go_ret2
    exact ⟨_, rfl, HZ.out, H1.out⟩
  have HK := Lib.hid (Classical.not_not.1 hKP)
  clear hKP
  by_cases hm : ¬ m ≤ 40
  · have hm1 : (m : Int) > 40 := by omega
    go_enter Tryz.func39, Tryz.ntmps39
    go_wp2_with (go_at_call 73; refine (Hcc.out _ X0.out).mono ?_; rintro e w1 ⟨x, rfl, hx, hx1⟩; obtain rfl : x = 0 := hx.2 HK.out; have b1 := (fun w' (he : Ext w1 w') => b0 w' (hx1.trans he)); have H1 := Lib.hid (X0.out.trans hx1); clear hx hx1 b0)
    go_ret2
    exact ⟨_, rfl, by decide, H1.out⟩
  have hm := Classical.not_not.1 hm
  have hm1 : ¬ (m : Int) > 40 := by omega
  have HB := Lib.hid (Hbr.out HK.out hm)
  have Hck2 := Lib.hid (Hck.out hm)
  clear Hck Hbr hm
  go_enter Tryz.func39, Tryz.ntmps39
  go_wp2_with (first
    | (go_at_call 73; refine (Hcc.out _ X0.out).mono ?_; rintro e w1 ⟨x, rfl, hx, hx1⟩; obtain rfl : x = 0 := hx.2 HK.out; have b1 := (fun w' (he : Ext w1 w') => b0 w' (hx1.trans he)); have H1 := Lib.hid (X0.out.trans hx1); clear hx hx1 b0)
    | (go_at_call 71; refine (Hck2.out _ H1.out).mono ?_; rintro e w2 ⟨x, rfl, hx, hx2⟩; have hxz : x ≠ 0 := (fun h => HB.out (hx.1 h)); have hxn : (x != 0) = true := (by simp [hxz]); have H2 := Lib.hid (H1.out.trans hx2); have HZ := Lib.hid hxz; clear hx hx2 hxz b1))
  go_ret2
  exact ⟨_, rfl, HZ.out, H2.out⟩
/-- A valid model. -/
def modelP (l : List Ki) (ms : List Br) : Prop := boundP l ms ∧ ¬ ovlP l ms ms.length
set_option maxRecDepth 100000 in
set_option maxHeartbeats 1000000 in
theorem checkm_any (l : List Ki) (A : Option Addr) (c : Nat) (ms : List Br) (M : Option Addr) (mc : Nat) (w : World) (hA : KiRow w A l) (h8 : kindsW l) (hM : BrRow w M ms) (hbw : bricksW ms) :
    Calls Tryz.prog 37 #[.slice A l.length c, .agg #[.slice M ms.length mc]] w (Tells (modelP l ms) w) := by
  by_cases hb : ¬ boundP l ms
  · have ho := fun w' (he : Ext w w') => overlaps_bad l A c ms M mc w' (hA.ext he) h8 (hM.ext he) hbw hb
    have Ho := Lib.hid ho
    have Hno := Lib.hid (show ¬ modelP l ms from fun h => hb h.1)
    clear ho hA hM h8 hbw hb
    generalize modelP l ms = OK at *
    generalize l.length = n at *
    generalize ms.length = m at *
    have k0 : Blk (w.alloc (.cells #[.slice M m mc] 25)) w.heap.size [.slice M m mc] := Blk.new _ _
    have b0 := k0.at_ 0 rfl
    have X0 := Lib.hid (show Ext w (w.alloc (.cells #[.slice M m mc] 25)) from (Ext.refl w).alloc _)
    clear k0
    go_enter Tryz.func37, Tryz.ntmps37
    go_wp2_with (go_at_call 39; refine (Ho.out _ X0.out).mono ?_; rintro e w1 ⟨x, rfl, hxz, hx1⟩; have hxn : (x == 0) = false := (by simp [hxz]); have H1 := Lib.hid (X0.out.trans hx1); have HZ := Lib.hid hxz; clear hx1 hxz b0)
    go_ret
    exact tells_no HZ.out Hno.out H1.out
  have hb := Classical.not_not.1 hb
  have ho := fun w' (he : Ext w w') => overlaps_good l A c ms M mc w' (hA.ext he) h8 hb.1 (hM.ext he) hb.2.1 hb.2.2
  have Ho := Lib.hid ho
  have Hyes := Lib.hid (show ¬ ovlP l ms ms.length → modelP l ms from fun h => ⟨hb, h⟩)
  have Hno := Lib.hid (show ovlP l ms ms.length → ¬ modelP l ms from fun h k => k.2 h)
  clear ho hA hM h8 hbw hb
  generalize modelP l ms = OK at *
  generalize l.length = n at *
  generalize ovlP l ms ms.length = OV at *
  generalize ms.length = m at *
  have k0 : Blk (w.alloc (.cells #[.slice M m mc] 25)) w.heap.size [.slice M m mc] := Blk.new _ _
  have b0 := k0.at_ 0 rfl
  have X0 := Lib.hid (show Ext w (w.alloc (.cells #[.slice M m mc] 25)) from (Ext.refl w).alloc _)
  clear k0
  by_cases hOV : OV
  · have HOV := Lib.hid hOV
    clear hOV
    go_enter Tryz.func37, Tryz.ntmps37
    go_wp2_with (go_at_call 39; refine (Ho.out _ X0.out).mono ?_; rintro e w1 ⟨X, q, x, rfl, hq, hx1⟩; have hqn : (0 : Int) < (q : Int) := hq.2 HOV.out; have H1 := Lib.hid (X0.out.trans hx1); clear hx1 hq b0)
    go_ret
    exact tells_no (by decide) (Hno.out HOV.out) H1.out
  · have HOV := Lib.hid hOV
    clear hOV
    go_enter Tryz.func37, Tryz.ntmps37
    go_wp2_with (go_at_call 39; refine (Ho.out _ X0.out).mono ?_; rintro e w1 ⟨X, q, x, rfl, hq, hx1⟩; have hqn : ¬ (0 : Int) < (q : Int) := (fun h => HOV.out (hq.1 h)); have H1 := Lib.hid (X0.out.trans hx1); clear hx1 hq b0)
    go_ret
    exact tells_yes (Hyes.out HOV.out) H1.out
end Go.Proofs.YtebkhdhhajjhfaaGreat.Lt

/- The cells of a brick, in order. -/
namespace Go.Proofs.YtebkhdhhajjhfaaGreat.Lt
open Go.RowKit Go.Sort
/-- Cells in order. -/
def leC (x y : Ce) : Bool := !(ltOf ordC) y x
def sortC (l : List Ce) : List Ce := l.mergeSort leC
theorem leC_iff {x y : Ce} : leC x y = true ↔ ¬ befC y x := by
  unfold leC ltOf
  simp [ordC_neg]
theorem sortC_perm (l : List Ce) : (sortC l).Perm l := List.mergeSort_perm _ _
theorem sortC_len (l : List Ce) : (sortC l).length = l.length := (sortC_perm l).length_eq
theorem sortC_low {l : List Ce} (h : 0 < (sortC l).length) : ∀ c ∈ l, ((sortC l)[0]).z ≤ c.z := by
  intro c hc
  have hp : List.Pairwise (fun a b => leC a b = true) (sortC l) := List.pairwise_mergeSort (le := leC) (fun a b c h1 h2 => by rw [leC_iff] at *; unfold befC at *; omega) (fun a b => by
    rw [Bool.or_eq_true, leC_iff, leC_iff]
    unfold befC
    omega) l
  have hm := (sortC_perm l).mem_iff.2 hc
  obtain ⟨j, hj, rfl⟩ := List.getElem_of_mem hm
  rcases Nat.eq_zero_or_pos j with rfl | h0
  · exact Int.le_refl _
  · have := List.pairwise_iff_getElem.1 hp 0 j h hj h0
    rw [leC_iff] at this
    unfold befC at this
    omega
theorem ordC_tot : ∀ x y : Ce, (ltOf ordC) x y = false → (ltOf ordC) y x = false → x = y := by
  intro x y h1 h2
  unfold ltOf at *
  have h1 : ¬ befC x y := fun h => of_decide_eq_false h1 (ordC_neg.2 h)
  have h2 : ¬ befC y x := fun h => of_decide_eq_false h2 (ordC_neg.2 h)
  obtain ⟨a1, a2, a3⟩ := x
  obtain ⟨b1, b2, b3⟩ := y
  unfold befC at *
  simp only [Ce.mk.injEq] at *
  omega
theorem sort_cells2 (g cap : Nat) (ps : List Ce) (w0 w : World) (h : OwnE w0 w (.slice (some ⟨g, 0, none⟩) ps.length cap) ps) (hl : ps.length ≤ 1000000) : Calls Tryz.prog 104 #[.slice (some ⟨g, 0, none⟩) ps.length cap, .func (.func 105) #[] #[]] w fun e w' => e = .returned (.tuple #[]) ∧ Own w0 w' 60 3 (.slice (some ⟨g, 0, none⟩) ps.length cap) ps.length ((sortC ps).map Ce.cells).flatten := by
  have hk : ∀ x : Ce, x.cells.length = 3 := fun _ => rfl
  have h : Own w0 w 60 3 (.slice (some ⟨g, 0, none⟩) ps.toArray.size cap) ps.toArray.size (ps.toArray.toList.map Ce.cells).flatten := h
  have eg : ∀ args w, (callFunc 105 args).run Tryz.prog w = .ok (.enter 105 args) w := Go.Proofs.enters_of Tryz.func105 (by kernel_rfl) rfl
  have hcon := AnyQ.slices_SortFunc_total sortCellsL 3 Tryz.isAgg60 Tryz.sizeOf60 Ce.cells hk (fun x v hv => by simp [Ce.cells] at hv; rcases hv with rfl | rfl | rfl <;> rfl) ordC swo_ord 105 #[] g 0 cap ps.toArray w eg (fun _ _ _ _ x y => order_any x y _) (own_holds hk h) (World.ownsRow.lt h.2 g rfl).2 (by simp; omega) ordC_tot
  refine Calls.mono hcon ?_
  rintro e w' ⟨rfl, m, os, rfl⟩
  have hs : ((ps.toArray.toList.mergeSort fun x y => !(ltOf ordC) y x).toArray).size = ps.toArray.size := by simp
  exact ⟨rfl, own_sorted hk h hs⟩
set_option maxRecDepth 100000 in
set_option maxHeartbeats 4000000 in
theorem cells_all (l : List Ce) (B : Option Addr) (b : Nat) (D : Option Addr) (m d : Nat) (wt : Int) (t : Nat) (o : Ce) (w : World) (hB : CeRow w B l) (hl : l.length ≤ 1000) (hn : ∀ c ∈ l, nearP c (-1000) 1000) (ht : t < 24) (ho : nearP o (-1000) 1000) :
    Calls Tryz.prog 72 #[.agg #[.slice B l.length b, .slice D m d, .int .i64 wt], .int .i64 t, o.val] w fun e w' => ∃ g cap, e = .returned (.slice (some ⟨g, 0, none⟩) l.length cap) ∧ Own w w' 60 3 (.slice (some ⟨g, 0, none⟩) l.length cap) l.length ((sortC (placed l t o)).map Ce.cells).flatten := by
  have ha := fun k (hk : k < l.length) => hB.at_ hk
  have hct := fun k (hk : k < l.length) (w' : World) => turn_any (ceA l k) t ht w' (by have := hn _ (List.getElem_mem hk); rw [← ceA_at hk] at this; unfold nearP at *; omega)
  have hcp := fun k (hk : k < l.length) (w' : World) => plus_any (turnC (ceA l k) t) o w' (by have := turnC_near (hn _ (List.getElem_mem hk)) t; rw [← ceA_at hk] at this; unfold nearP at *; omega) (by unfold nearP at *; omega)
  have hlen : (placed l t o).length = l.length := by simp [placed]
  have hset := fun k (hk : k < l.length) => fillE_set (placed l t o) (k := k) (c := plusC (turnC (ceA l k) t) o) (by rw [hlen]; exact hk) (by rw [ceA_at (by rw [hlen]; exact hk), ceA_at hk]; simp [placed])
  have hget := fun k (hk : k < l.length) j (hj : j < 3) => fillE_get (placed l t o) (k := k) (j := j) (by rw [hlen]; exact hk) hj
  have hfl := fun k (hk : k ≤ l.length) => fillE_len (placed l t o) (k := k) (by rw [hlen]; exact hk)
  have hz := fillE_zero (placed l t o)
  have hall := fillE_all (placed l t o)
  rw [hlen] at hz hall
  simp only [hlen] at hfl
  have hso := fun (g : Nat) (w0 w' : World) (h : Own w0 w' 60 3 (.slice (some ⟨g, 0, none⟩) l.length l.length) l.length ((placed l t o).map Ce.cells).flatten) => (show Calls Tryz.prog 104 #[.slice (some ⟨g, 0, none⟩) l.length l.length, .func (.func 105) #[] #[]] w' fun e w'' => e = .returned (.tuple #[]) ∧ Own w0 w'' 60 3 (.slice (some ⟨g, 0, none⟩) l.length l.length) l.length ((sortC (placed l t o)).map Ce.cells).flatten from by
    have h1 := sort_cells2 g l.length (placed l t o) w0 w' (by show Own w0 w' _ 3 _ (placed l t o).length _; rw [hlen]; exact h) (by rw [hlen]; omega)
    rw [hlen] at h1
    exact h1)
  have Ha := Lib.hid ha
  have Hct := Lib.hid hct
  have Hcp := Lib.hid hcp
  have Hset := Lib.hid hset
  have Hget := Lib.hid hget
  have Hfl := Lib.hid hfl
  have Hz := Lib.hid hz
  have Hall := Lib.hid hall
  have Hso := Lib.hid hso
  clear ha hct hcp hset hget hfl hz hall hlen hB hn ho hso ht
  generalize placed l t o = C at *
  generalize l.length = n at *
  obtain ⟨ox, oy, oz⟩ := o
  have k2 : Blk ((w.alloc (.cells #[.slice B n b, .slice D m d, .int .i64 wt] 82)).alloc (.cells #[.int .i64 ox, .int .i64 oy, .int .i64 oz] 60)) w.heap.size [.slice B n b, .slice D m d, .int .i64 wt] := (Blk.new _ _).ext ((Ext.refl _).alloc _)
  have k3 : Blk ((w.alloc (.cells #[.slice B n b, .slice D m d, .int .i64 wt] 82)).alloc (.cells #[.int .i64 ox, .int .i64 oy, .int .i64 oz] 60)) (w.heap.size + 1) [.int .i64 ox, .int .i64 oy, .int .i64 oz] := Blk.new' (by simp)
  have hx0 : Ext w ((w.alloc (.cells #[.slice B n b, .slice D m d, .int .i64 wt] 82)).alloc (.cells #[.int .i64 ox, .int .i64 oy, .int .i64 oz] 60)) := ((Ext.refl _).alloc _).alloc _
  have b0 := k2.at_ 0 rfl
  go_enter Tryz.func72, Tryz.ntmps72
  go_wp2_with (refine own_make (w1 := w) cell_elem rfl _ _ rfl Tryz.underlying79 _ n rfl rfl (by omega) (by unfold maxLen; omega) hx0 ?_; intro w2 hown hx2; have b0' := fun w' he => b0 w' (hx2.trans he); clear b0)
  have k22 := k2.ext hx2
  have k32 := k3.ext hx2
  rw [Hz.out] at hown
  have hs1 : ((w.alloc (.cells #[.slice B n b, .slice D m d, .int .i64 wt] 82)).alloc (.cells #[.int .i64 ox, .int .i64 oy, .int .i64 oz] 60)).heap.size = w.heap.size + 1 + 1 := by simp
  rw [hs1] at hown
  clear hs1 k2 k3 hx0 hx2 b0'
  obtain ⟨g, hg⟩ : ∃ g, g = w.heap.size + 1 + 1 := ⟨_, rfl⟩
  rw [← hg] at hown ⊢
  have Hg := Lib.hid hg
  clear hg
  go_loopw [17] (fun i wr => ∃ k : Nat, k ≤ n ∧ i = .int .i64 k ∧ Own w wr 60 3 (.slice (some ⟨g, 0, none⟩) n n) n (fillE C k) ∧ Blk wr (w.heap.size + 1) [.int .i64 ox, .int .i64 oy, .int .i64 oz]) (fun i _ => n - (intOf i).toNat)
  case atStart => exact ⟨0, by omega, rfl, hown, k32⟩
  case round =>
    clear hown k22 k32
    obtain ⟨k, hk, rfl, hown, k22⟩ := hrel
    by_cases hlt : k < n
    · obtain ⟨ad, rfl, r0, r1, r2⟩ := Ha.out k hlt
      have hex := hown.ext
      have c0 : ∀ w', Ext wr w' → _ := fun w' he => r0 w' (hex.trans he)
      have c1 : ∀ w', Ext wr w' → _ := fun w' he => r1 w' (hex.trans he)
      have c2 : ∀ w', Ext wr w' → _ := fun w' he => r2 w' (hex.trans he)
      have hset := Hset.out k hlt
      have hpl := Hcp.out k hlt
      have htn := Hct.out k hlt
      have Hset' := Lib.hid hset
      have Hpl := Lib.hid hpl
      have Htn := Lib.hid htn
      have hki : (k : Int) < (n : Int) := by omega
      clear r0 r1 r2 hset hpl htn Ha Hset Hcp Hct Hz
      generalize plusC (turnC (ceA l k) t) ⟨ox, oy, oz⟩ = z at Hset' Hpl
      generalize turnC (ceA l k) t = y at Hpl Htn
      generalize ceA l k = s at c0 c1 c2 Htn
      obtain ⟨sx, sy, sz⟩ := s
      obtain ⟨yx, yy, yz⟩ := y
      obtain ⟨zx, zy, zz⟩ := z
      simp only at c0 c1 c2 Hset'
      have HW := Lib.hid (And.intro hown k22)
      clear hown k22
      go_wp2
      have hx7 : Ext wr (wr.alloc (.cells #[.int .i64 sx, .int .i64 sy, .int .i64 sz] 60)) := (Ext.refl _).alloc _
      have k7 : Blk (wr.alloc (.cells #[.int .i64 sx, .int .i64 sy, .int .i64 sz] 60)) wr.heap.size [.int .i64 sx, .int .i64 sy, .int .i64 sz] := Blk.new _ _
      generalize (wr.alloc (.cells #[.int .i64 sx, .int .i64 sy, .int .i64 sz] 60)) = w7 at hx7 k7 ⊢
      have hown7 := HW.out.1.later hx7
      have k27 := HW.out.2.ext hx7
      have s0 := k7.at_ 0 rfl
      have s1 := k7.at_ 1 rfl
      have s2 := k7.at_ 2 rfl
      have q0 := k27.at_ 0 rfl
      have q1 := k27.at_ 1 rfl
      have q2 := k27.at_ 2 rfl
      have Hown7 := Lib.hid hown7
      clear hown7 c0 c1 c2
      refine Cg.wp_region_calm (p := Cg.extPre) (fr := (fun _ => false)) 8 (fun j _ v _ => (j = 4 → v = .agg #[.int .i64 yx, .int .i64 yy, .int .i64 yz]) ∧ (j = 6 → v = .agg #[.int .i64 zx, .int .i64 zy, .int .i64 zz])) (fun _ _ _ _ _ _ h => h) (by kernel_rfl) (by kernel_rfl) ?_
      simp only [List.take_succ_cons, List.take_zero, List.drop_succ_cons, List.drop_zero]
      refine Cg.calm_quiet Cg.calm_mono_final w7 (fun _ h => h) 4 (by kernel_rfl) ?_
      simp only [List.take_succ_cons, List.take_zero, List.drop_succ_cons, List.drop_zero]
      repeat (go_big_quiet_step (fail))
      refine wpQuiet_nil ?_
      refine Cg.calm_call Cg.calm_mono_final 59 #[.agg #[.int .i64 sx, .int .i64 sy, .int .i64 sz], .int .i64 t] rfl (fun w => ?_) (fun w he hF => ?_) ?_
      · go_simp
      · exact (Htn.out w).mono fun e w'' ⟨he', hx⟩ => ⟨_, he', hx, ⟨fun _ => rfl, fun h => (by cases h)⟩, fun h => by cases h⟩
      rintro _ _ _ h _
      cases h.1 rfl
      simp only [Act.put, List.setIfInBounds_toArray, List.set_cons_succ, List.set_cons_zero]
      refine Cg.calm_quiet Cg.calm_mono_final w7 (fun _ h => h) 1 (by kernel_rfl) ?_
      simp only [List.take_succ_cons, List.take_zero, List.drop_succ_cons, List.drop_zero]
      repeat (go_big_quiet_step (fail))
      refine wpQuiet_nil ?_
      refine Cg.calm_call Cg.calm_mono_final 103 #[.agg #[.int .i64 yx, .int .i64 yy, .int .i64 yz], .agg #[.int .i64 ox, .int .i64 oy, .int .i64 oz]] rfl (fun w => ?_) (fun w he hF => ?_) ?_
      · go_simp
      · exact (Hpl.out w).mono fun e w'' ⟨he', hx⟩ => ⟨_, he', hx, ⟨fun h => (by cases h), fun _ => rfl⟩, fun h => by cases h⟩
      rintro _ _ _ h _
      cases h.2 rfl
      simp only [Act.put, List.setIfInBounds_toArray, List.set_cons_succ, List.set_cons_zero]
      refine Cg.calm_quiet Cg.calm_mono_final w7 (fun _ h => h) 1 (by kernel_rfl) ?_
      simp only [List.take_succ_cons, List.take_zero, List.drop_succ_cons, List.drop_zero]
      repeat (go_big_quiet_step (fail))
      refine wpQuiet_nil ?_
      refine Cg.calm_nil fun w3 he3 _ => ?_
      have he3 : Ext w7 w3 := he3
      have hown3 := Hown7.out.later he3
      have k23 := k27.ext he3
      obtain ⟨v0, g0⟩ := Hget.out k hlt 0 (by omega)
      obtain ⟨v1, g1⟩ := Hget.out k hlt 1 (by omega)
      obtain ⟨v2, g2⟩ := Hget.out k hlt 2 (by omega)
      have hfl := Hfl.out k (by omega)
      have e0 : w3.cell? ⟨g, k * 3, none⟩ = some v0 := (hown3.cell (j := k * 3) (by omega)).trans g0
      have e1 : w3.cell? ⟨g, k * 3 + 1, none⟩ = some v1 := (hown3.cell (j := k * 3 + 1) (by omega)).trans g1
      have e2 : w3.cell? ⟨g, k * 3 + 2, none⟩ = some v2 := (hown3.cell (j := k * 3 + 2) (by omega)).trans g2
      have hf := hown3.free
      have hown4 := ((hown3.store (k * 3) (.int .i64 zx)).store (k * 3 + 1) (.int .i64 zy)).store (k * 3 + 2) (.int .i64 zz)
      rw [Hset'.out] at hown4
      have hgne : g ≠ w.heap.size + 1 := by have := Hg.out; omega
      have k24 := ((k23.other (b := g) (k := k * 3) hgne (.int .i64 zx)).other (b := g) (k := k * 3 + 1) hgne (.int .i64 zy)).other (b := g) (k := k * 3 + 2) hgne (.int .i64 zz)
      have H4 := Lib.hid (And.intro hown4 k24)
      clear hown4 k24 hown3 k23 g0 g1 g2 hfl s0 s1 s2 q0 q1 q2 k27 k7
      go_wp2
      go_roundw
      case rel => exact ⟨k + 1, by omega, by go_num, H4.out.1, H4.out.2⟩
      case measure => simp [intOf]; omega
    · obtain rfl : n = k := by omega
      have hall := Hall.out
      rw [hall] at hown
      have hs := Hso.out g w wr hown
      have Hs := Lib.hid hs
      clear hall hown hs k22
      go_wp2_with (go_at_call 104; refine (Hs.out).mono ?_; rintro e w9 ⟨rfl, ho⟩)
      go_ret
      exact ⟨g, n, rfl, ho⟩
end Go.Proofs.YtebkhdhhajjhfaaGreat.Lt

/- Cells: the cells of a valid brick. -/
namespace Go.Proofs.YtebkhdhhajjhfaaGreat.Lt
open Go.RowKit
/-- The cells of a brick, in order. -/
def celB (l : List Ki) (b : Br) : List Ce := sortC (placed (kiA l b.kind.toNat).cs b.trn.toNat b.at_)
theorem celB_len (l : List Ki) (b : Br) : (celB l b).length = (kiA l b.kind.toNat).cs.length := by unfold celB placed; rw [sortC_len, List.length_map]
theorem br_one {w : World} {g : Nat} {b : Br} (h : w.heap[g]? = some (.cells #[.int .i64 b.kind, .int .i64 b.at_.x, .int .i64 b.at_.y, .int .i64 b.at_.z, .int .u8 b.trn, .int .u8 b.col] 85)) : BrRow w (some ⟨g, 0, none⟩) [b] := row_heap h
set_option maxRecDepth 100000 in
set_option maxHeartbeats 2000000 in
theorem cellsb_any (l : List Ki) (A : Option Addr) (c : Nat) (b : Br) (w : World) (hA : KiRow w A l) (h8 : kindsW l) (hk : kindsP l) (hb : BrOk l.length b) :
    Calls Tryz.prog 36 #[.slice A l.length c, b.val] w fun e w' => ∃ g cap, e = .returned (.tuple #[.slice (some ⟨g, 0, none⟩) (kiA l b.kind.toNat).cs.length cap, .int .i64 0]) ∧ Own w w' 60 3 (.slice (some ⟨g, 0, none⟩) (kiA l b.kind.toNat).cs.length cap) (kiA l b.kind.toNat).cs.length ((celB l b).map Ce.cells).flatten := by
  have hck := fun w' (he : Ext w w') g (hg : w'.heap[g]? = some (.cells #[.int .i64 b.kind, .int .i64 b.at_.x, .int .i64 b.at_.y, .int .i64 b.at_.z, .int .u8 b.trn, .int .u8 b.col] 85)) => (show Calls Tryz.prog 71 #[.slice A l.length c, .slice (some ⟨g, 0, none⟩) 1 1] w' fun e w'' => e = .returned (.int .i64 0) ∧ Ext w' w'' from tells_zero (check_gen l A c [b] (some ⟨g, 0, none⟩) 1 w' (hA.ext he) h8 (br_one hg) (by simp) (fun i hi => by
    obtain rfl : i = 0 := by simpa using hi
    exact ⟨hb.t0, hb.c0⟩)) ⟨hk, fun i hi => by
    obtain rfl : i = 0 := by simpa using hi
    exact hb⟩)
  have hkl : b.kind.toNat < l.length := by have := hb.k0; have := hb.k1; omega
  have hkk := hk.2 _ hkl
  have h8k := h8 _ hkl
  have ht24 : b.trn.toNat < 24 := by have := hb.t0; have := hb.t1; omega
  obtain ⟨ad, B, bc, D, dc, rfl, s0, s1, s2, h5, h6⟩ := hA _ hkl
  have hcl := fun w' (he : Ext w w') => cells_all (kiA l b.kind.toNat).cs B bc D (kiA l b.kind.toNat).ks.length dc (kiA l b.kind.toNat).wt b.trn.toNat b.at_ w' (h5.ext he) (by have := hkk.n1; omega) (ki_near hkk) ht24 hb.near
  have hkE : b.kind = (b.kind.toNat : Int) := by have := hb.k0; omega
  have htE : b.trn = (b.trn.toNat : Int) := by have := hb.t0; omega
  have hkl' : (b.kind.toNat : Int) < (l.length : Int) := by omega
  have hrow : ((celB l b).map Ce.cells).flatten = ((sortC (placed (kiA l b.kind.toNat).cs b.trn.toNat b.at_)).map Ce.cells).flatten := rfl
  rw [hrow]
  generalize ((sortC (placed (kiA l b.kind.toNat).cs b.trn.toNat b.at_)).map Ce.cells).flatten = ROW at *
  have hw1 : IntKind.i64.wrap (b.trn.toNat : Int) = (b.trn.toNat : Int) := by rw [IntKind.wrap_i64]; omega
  have Hck := Lib.hid hck
  have Hcl := Lib.hid hcl
  clear hck hcl hA h8 hk hb hkk h8k h5 h6 hkl hrow ht24
  generalize (kiA l b.kind.toNat).cs.length = L at *
  generalize (kiA l b.kind.toNat).ks.length = mk at *
  generalize (kiA l b.kind.toNat).wt = wt at *
  generalize l.length = n at *
  generalize b.kind.toNat = kn at *
  generalize b.trn.toNat = tn at *
  obtain ⟨kind, ⟨ox, oy, oz⟩, trn, col⟩ := b
  simp only at hkE htE Hck Hcl ⊢
  subst hkE
  subst htE
  have kq : Blk (w.alloc (.cells #[.int .i64 kn, .int .i64 ox, .int .i64 oy, .int .i64 oz, .int .u8 tn, .int .u8 col] 85)) w.heap.size [.int .i64 kn, .int .i64 ox, .int .i64 oy, .int .i64 oz, .int .u8 tn, .int .u8 col] := Blk.new _ _
  have hx0 : Ext w (w.alloc (.cells #[.int .i64 kn, .int .i64 ox, .int .i64 oy, .int .i64 oz, .int .u8 tn, .int .u8 col] 85)) := (Ext.refl _).alloc _
  have q0 := kq.at_ 0 rfl
  have q1 := kq.at_ 1 rfl
  have q2 := kq.at_ 2 rfl
  have q3 := kq.at_ 3 rfl
  have q4 := kq.at_ 4 rfl
  have q5 := kq.at_ 5 rfl
  have Hx0 := Lib.hid hx0
  have KQ := Lib.hid kq
  have hnew := heap_alloc_new (w.alloc (.cells #[.int .i64 kn, .int .i64 ox, .int .i64 oy, .int .i64 oz, .int .u8 tn, .int .u8 col] 85)) (.cells #[.int .i64 kn, .int .i64 ox, .int .i64 oy, .int .i64 oz, .int .u8 tn, .int .u8 col] 85)
  rw [show (w.alloc (.cells #[.int .i64 kn, .int .i64 ox, .int .i64 oy, .int .i64 oz, .int .u8 tn, .int .u8 col] 85)).heap.size = w.heap.size + 1 by simp] at hnew
  have Hnew := Lib.hid hnew
  clear hnew
  clear kq hx0
  go_enter Tryz.func36, Tryz.ntmps36
  go_wp2_with (go_at_call 71; refine (Hck.out _ (Hx0.out.alloc _) _ Hnew.out).mono ?_; rintro e w1 ⟨rfl, hx1⟩; have hx01 := ((Ext.refl (w.alloc (.cells #[.int .i64 kn, .int .i64 ox, .int .i64 oy, .int .i64 oz, .int .u8 tn, .int .u8 col] 85))).alloc (.cells #[.int .i64 kn, .int .i64 ox, .int .i64 oy, .int .i64 oz, .int .u8 tn, .int .u8 col] 85)).trans hx1; have K1 := Lib.hid (KQ.out.ext hx01); have HX1 := Lib.hid (Hx0.out.trans hx01); clear q0 q1 q2 q3 q4 q5 hx1 hx01)
  have p0 := K1.out.at_ 0 rfl
  have p1 := K1.out.at_ 1 rfl
  have p2 := K1.out.at_ 2 rfl
  have p3 := K1.out.at_ 3 rfl
  have p4 := K1.out.at_ 4 rfl
  have r0 := fun w' (he : Ext w1 w') => s0 w' (HX1.out.trans he)
  have r1 := fun w' (he : Ext w1 w') => s1 w' (HX1.out.trans he)
  have r2 := fun w' (he : Ext w1 w') => s2 w' (HX1.out.trans he)
  clear s0 s1 s2
  refine Cg.wp_region_calm (p := Cg.extPre) (fr := (fun _ => false)) 13 (fun j _ v w' => j = 10 → ∃ g cap, v = .slice (some ⟨g, 0, none⟩) L cap ∧ Own w1 w' 60 3 (.slice (some ⟨g, 0, none⟩) L cap) L ROW) (fun _ _ _ _ _ he h hj => by obtain ⟨g, cap, h1, h3⟩ := h hj; exact ⟨g, cap, h1, h3.later he⟩) (by kernel_rfl) (by kernel_rfl) ?_
  simp only [List.take_succ_cons, List.take_zero, List.drop_succ_cons, List.drop_zero]
  refine Cg.calm_quiet Cg.calm_mono_final w1 (fun _ h => h) 10 (by kernel_rfl) ?_
  simp only [List.take_succ_cons, List.take_zero, List.drop_succ_cons, List.drop_zero]
  repeat (go_big_quiet_step (fail))
  refine wpQuiet_nil ?_
  refine Cg.calm_call Cg.calm_mono_final 72 #[.agg #[.slice B L bc, .slice D mk dc, .int .i64 wt], .int .i64 tn, .agg #[.int .i64 ox, .int .i64 oy, .int .i64 oz]] rfl (fun w => ?_) (fun w' he hF => ?_) ?_
  · go_simp
  · exact (Hcl.out w' (HX1.out.trans he)).mono fun e w'' ⟨g, cap, he', ho⟩ => ⟨_, he', ho.ext, fun _ => ⟨g, cap, rfl, ho.since he⟩, fun h => by cases h⟩
  rintro _ w8 he8 h _
  obtain ⟨g, cap, rfl, ho⟩ := h rfl
  simp only [Act.put, List.setIfInBounds_toArray, List.set_cons_succ, List.set_cons_zero]
  refine Cg.calm_quiet Cg.calm_mono_final w1 (fun _ h => h) 2 (by kernel_rfl) ?_
  simp only [List.take_succ_cons, List.take_zero, List.drop_succ_cons, List.drop_zero]
  repeat (go_big_quiet_step (fail))
  refine wpQuiet_nil ?_
  refine Cg.calm_nil fun w9 he9 hf9 => ?_
  clear ho h p0 p1 p2 p3 p4 r0 r1 r2 he8 w8
  obtain ⟨g', cap', e', ho⟩ := (hf9.1 10).2 rfl rfl
  cases e'
  clear hf9
  have H9 := Lib.hid (ho.since HX1.out)
  clear ho he9
  go_wp2
  go_ret2
  exact ⟨g, cap, rfl, H9.out⟩
end Go.Proofs.YtebkhdhhajjhfaaGreat.Lt
