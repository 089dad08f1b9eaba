/- Joints: it answers, and errs exactly if the model is not right. -/
import Derived.Test.YtebkhdhhajjhfaaGreatU26
import Derived.Test.YtebkhdhhajjhfaaGreatU27
import Derived.Deep.DeepCutAuto
import Derived.Deep.CutRange
import Derived.Deep.Cut
import Derived.Deep.CutBlock
namespace Go.Proofs.YtebkhdhhajjhfaaGreat.Lt
open Go Go.RowKit
def TellsV (P : Prop) (w : World) (e : Ending) (w' : World) : Prop := ∃ (A : Option Addr) (n c : Nat) (b : Int), e = .returned (.tuple #[.slice A n c, .int .i64 b]) ∧ (b = 0 ↔ P) ∧ Ext w w'
theorem joint_elem : ElemInfo 278 (.agg #[.int .i64 0, .int .i64 0, .int .i64 0, .int .u8 0, .bool false]) 5 32 := ⟨info_parts (by kernel_rfl), rfl, by decide⟩
theorem LnRow.drop {w : World} {g k : Nat} {l : List Lnk} (h : LnRow w (some ⟨g, 0, none⟩) l) : LnRow w (some ⟨g, k * 5, none⟩) (l.drop k) := by
  intro i hi
  rw [Lnk.cells_len, List.length_drop] at hi
  obtain ⟨ad, e, hc⟩ := h (k * 5 + i) (by rw [Lnk.cells_len]; omega)
  cases e
  refine ⟨_, rfl, ?_⟩
  have e1 : ((l.drop k).map Lnk.cells).flatten = ((l.map Lnk.cells).flatten).drop (k * 5) := by
    have h1 : l = l.take k ++ l.drop k := (List.take_append_drop k l).symm
    have h2 : (l.map Lnk.cells).flatten = ((l.take k).map Lnk.cells).flatten ++ ((l.drop k).map Lnk.cells).flatten := by
      rw [← List.flatten_append, ← List.map_append, ← h1]
    have h3 : k * 5 = ((l.take k).map Lnk.cells).flatten.length := by
      rw [Lnk.cells_len, List.length_take]
      omega
    rw [h2, h3, List.drop_left]
  rw [e1, List.getElem?_drop]
  rw [← hc]
  congr 1
  unfold Addr.add
  by_cases h1 : i = 0
  · subst h1
    by_cases h2 : k * 5 = 0
    · simp [h2]
    · simp [h2]
  · rw [if_neg h1, if_neg (by omega)]
    simp
theorem own_block {w0 w : World} {e size g : Nat} {cs : Array Value} (he : Ext w0 w) (hh : w.heap[g]? = some (.cells cs e)) (hb : w0.heap.size ≤ g) (hs : cs.size = size) : Own w0 w e size (.slice (some ⟨g, 0, none⟩) 1 1) 1 cs.toList := by
  refine ⟨he, by rw [Array.length_toList, hs, Nat.one_mul], .inr ⟨g, 1, cs, rfl, hb, hh, Nat.le_refl _, by unfold maxLen; omega, by rw [hs, Nat.one_mul], ?_⟩⟩
  rw [← hs, Nat.one_mul, ← Array.length_toList, List.take_length]
theorem idx6 (s : Int) (hs : s = 1 ∨ s = 3 ∨ s = 5) : ∃ q : Int, ∀ w : World, (Instr.index 281 (.agg #[.int .i64 0, .int .i64 2, .int .i64 0, .int .i64 3, .int .i64 0, .int .i64 5]) (.int .u8 s)).run Tryz.prog w = .ok (.int .i64 q) w := by
  rcases hs with rfl | rfl | rfl
  · exact ⟨2, fun w => by kernel_rfl⟩
  · exact ⟨3, fun w => by kernel_rfl⟩
  · exact ⟨5, fun w => by kernel_rfl⟩
theorem neq_cells (x0 x1 x2 y0 y1 y2 : Int) : ∃ b : Bool, ∀ w : World, (binOp .neq 60 (.agg #[.int .i64 x0, .int .i64 x1, .int .i64 x2]) (.agg #[.int .i64 y0, .int .i64 y1, .int .i64 y2])).run Tryz.prog w = .ok (.bool b) w := by
  refine ⟨!decide (x0 = y0 ∧ x1 = y1 ∧ x2 = y2), fun w => ?_⟩
  simp [go_sem]
  repeat' split
  all_goals simp [*]
theorem own_cap {w0 w : World} {e size n c : Nat} {A : Option Addr} {xs : List Value} (h : Own w0 w e size (.slice A n c) n xs) : n ≤ c := by
  rcases h.2.2 with ⟨e1, h0⟩ | ⟨g, cap, cur, e1, _, _, hn, _⟩
  · simp only [Value.slice.injEq] at e1
    omega
  · simp only [Value.slice.injEq] at e1
    omega
def lenV : Value → Nat
  | .slice _ n _ => n
  | _ => 0
set_option maxRecDepth 100000 in
set_option maxHeartbeats 4000000 in
theorem joints_any (l : List Ki) (A : Option Addr) (c : Nat) (ms : List Br) (M : Option Addr) (mc : Nat) (w : World) (hA : KiRow w A l) (h8 : kindsW l) (hM : BrRow w M ms) (hbw : bricksW ms) :
    Calls Tryz.prog 138 #[.slice A l.length c, .agg #[.slice M ms.length mc]] w (TellsV (modelP l ms) w) := by
  have hck := fun w' (he : Ext w w') => checkm_any l A c ms M mc w' (hA.ext he) h8 (hM.ext he) hbw
  have hlk := fun (hv : modelP l ms) w' (he : Ext w w') => links_any l A c ms M mc w' (hA.ext he) h8 hv.1 (hM.ext he)
  have hm40 := fun (hv : modelP l ms) => hv.1.2.1
  have hKlen : (ms.map (knoB l)).length = ms.length := by simp
  have hko := fun (hv : modelP l ms) i (hi : i < ms.length) t ht => knoB_ok hv.1 h8 hi (t := t) ht
  have hKat : ∀ i, i < ms.length → klA (ms.map (knoB l)) i = knoB l (brA ms i) := fun i hi => by
    rw [klA_at (by simpa using hi), List.getElem_map, brA_at hi]
  have Hko := Lib.hid (show modelP l ms → ∀ i, i < ms.length → ∀ t, t < (klA (ms.map (knoB l)) i).length → KnK (knA (klA (ms.map (knoB l)) i) t) from fun hv i hi t ht => by
    rw [hKat i hi] at ht ⊢
    exact hko hv i hi t ht)
  have Hck := Lib.hid hck
  have Hlk := Lib.hid hlk
  have Hm40 := Lib.hid hm40
  have HKlen := Lib.hid hKlen
  clear hck hlk hm40 hKlen hKat hko hA h8 hM hbw
  generalize ms.map (knoB l) = KL at *
  generalize hPE : modelP l ms = P at *
  clear hPE
  obtain ⟨m, hmE⟩ : ∃ m, m = ms.length := ⟨_, rfl⟩
  obtain ⟨n, hnE⟩ : ∃ n, n = l.length := ⟨_, rfl⟩
  simp only [← hmE, ← hnE] at Hck Hlk Hm40 Hko HKlen ⊢
  have k0 : Blk (w.alloc (.cells #[.slice M m mc] 25)) w.heap.size [.slice M m mc] := Blk.new _ _
  have z0 := k0.at_ 0 rfl
  have hx1 : Ext w (w.alloc (.cells #[.slice M m mc] 25)) := (Ext.refl w).alloc _
  clear k0
  go_enter Tryz.func138, Tryz.ntmps138
  have hck1 := Hck.out _ hx1
  have Hck1 := Lib.hid hck1
  have Hx1 := Lib.hid hx1
  clear hck1 Hck hx1 hmE hnE
  by_cases hP : ¬ P
  · clear Hlk Hm40 Hko HKlen
    have HP := Lib.hid hP
    clear hP
    go_wp2_with (go_at_call 37; refine (Hck1.out).mono ?_; rintro e w2 ⟨b, rfl, hb, he2⟩; have hb0 : (b != 0) = true := (by have h0 : b ≠ 0 := fun e => HP.out (hb.1 e); simpa using h0); have Hb := Lib.hid hb; have He2 := Lib.hid he2; clear hb he2 z0)
    go_ret2
    exact ⟨_, _, _, b, rfl, Hb.out, Hx1.out.trans He2.out⟩
  have hP : P := Classical.not_not.1 hP
  have HL := Lib.hid (Hlk.out hP)
  have hm40 := Hm40.out hP
  have HKO := Lib.hid (Hko.out hP)
  have HP := Lib.hid hP
  clear Hlk Hm40 Hko hP
  go_wp2_with (first
    | (go_at_call 98; refine (HL.out w2 (Hx1.out.trans He2.out)).mono ?_; rintro e w3 ⟨v3, u3, LL, rfl, hN3, hT3, hok3, hl3, _⟩; have HN3 := Lib.hid hN3; have HT3 := Lib.hid hT3; have Hok3 := Lib.hid hok3; have Hl3 := Lib.hid hl3; clear hN3 hT3 hok3 hl3 z2)
    | (go_at_call 37; refine (Hck1.out).mono ?_; rintro e w2 ⟨b, rfl, hb, he2⟩; obtain rfl : b = 0 := hb.2 HP.out; have z2 := fun w' he => z0 w' (he2.trans he); have He2 := Lib.hid he2; clear hb he2 z0))
  obtain ⟨A3, cap3, rfl⟩ := HN3.out.form
  obtain ⟨U3, uc3, rfl⟩ := HT3.out.form
  rw [HKlen.out] at HT3 ⊢
  obtain ⟨N, hN⟩ : ∃ N, N = LL.length := ⟨_, rfl⟩
  have hcap3 := own_cap HN3.out
  rw [← hN] at HN3 Hl3 hcap3 ⊢
  have HN := Lib.hid hN
  have hl3 := Hl3.out
  clear hN
  go_loopw [7, 9] (fun lv jv wr => ∃ (off k : Nat) (A' : Option Addr) (cap' : Nat) (xs : List Value), off ≤ N ∧ lv = .slice A' (N - off) cap' ∧ N - off ≤ cap' ∧ (off < N → ∃ g, A3 = some ⟨g, 0, none⟩ ∧ A' = some ⟨g, off * 5, none⟩) ∧ Own w2 wr 278 5 jv k xs ∧ k ≤ off ∧ OwnN w2 wr (.slice A3 N cap3) LL ∧ Tab Kn.cells 144 5 80 w2 wr (.slice U3 m uc3) KL) (fun lv _ _ => lenV lv)
  case atStart =>
    refine ⟨0, 0, A3, cap3, [], by omega, rfl, hcap3, fun h => ?_, Own.nil' HN3.out.ext _ _, by omega, HN3.out, HT3.out⟩
    obtain ⟨g, cap, e, _, _⟩ := HN3.out.at_ (by rw [← HN.out]; exact h)
    simp only [Value.slice.injEq] at e
    exact ⟨g, e.1, e.1⟩
  case round =>
    clear HN3 HT3
    obtain ⟨off, k, A', cap', xs, hoff, rfl, hcap, hA', hJ, hk, hN, hT⟩ := hrel
    by_cases hlt : off < N
    · obtain ⟨wo, rfl⟩ : ∃ wo : World, wo = wr := ⟨_, rfl⟩
      obtain ⟨g, rfl, rfl⟩ := hA' hlt
      have hrow := LnRow.drop (k := off) (Own.row hN : LnRow wo (some ⟨g, 0, none⟩) LL)
      obtain ⟨r, hr⟩ : ∃ r, r = N - off := ⟨_, rfl⟩
      have hlen : (LL.drop off).length = r := by rw [List.length_drop, ← HN.out, hr]
      have hlnk : ∀ j, j < r → LnkOk KL (lnA (LL.drop off) j) := fun j hj => by
        rw [lnA_at (by omega)]
        exact Hok3.out _ (List.mem_of_mem_drop (List.getElem_mem _))
      have hr0 : 0 < r := by omega
      have hri : ((r : Nat) : Int) > 0 := by omega
      have hr1 : r ≤ 100000 := by omega
      have hroff : off + r = N := by omega
      have hcap : r ≤ cap' := by omega
      rw [← hr]
      generalize LL.drop off = LD at hrow hlen hlnk
      obtain ⟨ad, had⟩ : ∃ ad : Addr, ad = ⟨g, off * 5, none⟩ := ⟨_, rfl⟩
      rw [← had] at hrow ⊢
      have Had := Lib.hid had
      have Hlnk := Lib.hid hlnk
      have HJ := Lib.hid hJ
      have HL3 := Lib.hid hN
      have HT := Lib.hid hT
      have Hrow := Lib.hid hrow
      have Hlen := Lib.hid hlen
      have H0 := hlnk 0 hr0
      obtain ⟨_, e0, y0, y1, y2, y3, y4⟩ := hrow.at_ (show 0 < LD.length by omega)
      cases e0
      rw [Nat.zero_mul, add_zero_] at y0 y1 y2 y3 y4
      obtain ⟨⟨a, b, ka, ob, sr⟩, hL0⟩ : ∃ x, lnA LD 0 = x := ⟨_, rfl⟩
      rw [hL0] at y0 y1 y2 y3 y4 H0
      obtain ⟨a0, ab, b1, k0, k1, o0, o1, hsr⟩ := H0
      simp only at y0 y1 y2 y3 y4 a0 ab b1 k0 k1 o0 o1 hsr
      obtain ⟨an, rfl⟩ : ∃ an : Nat, a = an := ⟨a.toNat, by omega⟩
      obtain ⟨bn, rfl⟩ : ∃ bn : Nat, b = bn := ⟨b.toNat, by omega⟩
      obtain ⟨kn, rfl⟩ : ∃ kn : Nat, ka = kn := ⟨ka.toNat, by omega⟩
      rw [HKlen.out] at b1
      simp only [Int.toNat_natCast] at k1
      have HK1 := Lib.hid (show kn < (klA KL an).length by omega)
      have ham : (an : Int) < (m : Int) := by omega
      have HL0 := Lib.hid hL0
      clear had hlnk hJ hN hT hrow hlen hA' hr o1 o0 k0 k1 hsr a0 hL0
      go_wp2
      refine Cg.wp_region_calm (p := Cg.extPre) (fr := (fun _ => false)) 10 (fun _ _ _ _ => True) (fun _ _ _ _ _ _ h => h) (by kernel_rfl) (by kernel_rfl) ?_
      simp only [List.take_succ_cons, List.take_zero, List.drop_succ_cons, List.drop_zero]
      refine Cg.calm_quiet Cg.calm_mono_final wo (fun _ h => h) 8 (by kernel_rfl) ?_
      simp only [List.take_succ_cons, List.take_zero, List.drop_succ_cons, List.drop_zero]
      repeat (go_big_quiet_step (fail))
      refine wpQuiet_nil ?_
      refine Cg.calm_value Cg.calm_mono_final (fun v _ => v = .agg #[.int .i64 an, .int .i64 bn, .int .i64 0, .int .u8 0, .bool true]) (fun _ _ _ _ h => h) rfl (fun w' hR _ => ⟨_, w', by go_simp, Ext.refl _, rfl, fun hf => by cases hf⟩) ?_
      rintro _ _ _ rfl _
      simp only [Act.put, List.setIfInBounds_toArray, List.set_cons_succ, List.set_cons_zero]
      refine Cg.calm_value Cg.calm_mono_final (fun v w => ∃ g, v = .pointer (some ⟨g, 0, none⟩) ∧ wo.heap.size ≤ g ∧ w.heap[g]? = some (.cells #[.int .i64 0, .int .i64 0, .int .i64 0, .int .u8 0, .bool false] 278)) (fun _ w' w'' hR ⟨g, e, h1, h2⟩ => ⟨g, e, h1, (show Ext w' w'' from hR).heap h2⟩) rfl (fun w' hR _ => ⟨.pointer (some ⟨w'.heap.size, 0, none⟩), w'.alloc (.cells #[.int .i64 0, .int .i64 0, .int .i64 0, .int .u8 0, .bool false] 278), by go_simp, (Ext.refl _).alloc _, ⟨_, rfl, (show Ext wo w' from hR).size, heap_alloc_new _ _⟩, fun hf => by cases hf⟩) ?_
      rintro _ _ _ ⟨gj, rfl, hgj, _⟩ _
      simp only [Act.put, List.setIfInBounds_toArray, List.set_cons_succ, List.set_cons_zero]
      refine Cg.calm_nil fun w4 he4 hf4 => ?_
      have hh4 : w4.heap[gj]? = some (.cells #[.int .i64 0, .int .i64 0, .int .i64 0, .int .u8 0, .bool false] 278) := by
        obtain ⟨g', e', _, h'⟩ := (hf4.1 9).2 rfl
        simp only [Value.pointer.injEq, Option.some.injEq, Addr.mk.injEq, and_true] at e'
        subst e'
        exact h'
      have ho4 := own_block (show Ext wo w4 from he4) hh4 hgj rfl
      have c0 := ho4.cell (j := 0) (by simp)
      have c1 := ho4.cell (j := 1) (by simp)
      have c2 := ho4.cell (j := 2) (by simp)
      have c3 := ho4.cell (j := 3) (by simp)
      have c4 := ho4.cell (j := 4) (by simp)
      simp only [List.getElem?_cons_succ, List.getElem?_cons_zero] at c0 c1 c2 c3 c4
      have f0 := ho4.free 0
      have f1 := ho4.free 1
      have f2 := ho4.free 2
      have f3 := ho4.free 3
      have f4 := ho4.free 4
      have HO4 := Lib.hid ((((((ho4.store 0 (.int .i64 an)).store 1 (.int .i64 bn)).store 2 (.int .i64 0)).store 3 (.int .u8 0)).store 4 (.bool true)))
      clear ho4 hh4 hf4 he4 hgj
      go_wp2
      obtain ⟨w5, hw5⟩ : ∃ w5, w5 = (((((w4.setCell ⟨gj, 0, none⟩ (.int .i64 an)).setCell ⟨gj, 1, none⟩ (.int .i64 bn)).setCell ⟨gj, 2, none⟩ (.int .i64 0)).setCell ⟨gj, 3, none⟩ (.int .u8 0)).setCell ⟨gj, 4, none⟩ (.bool true)) := ⟨_, rfl⟩
      rw [← hw5] at HO4 ⊢
      clear hw5 c0 c1 c2 c3 c4 f0 f1 f2 f3 f4
      have hx5 := HO4.out.ext
      have d0 := HO4.out.cell (j := 0) (by simp)
      simp only [List.set_cons_succ, List.set_cons_zero, List.getElem?_cons_zero] at d0
      have j0 := fun w' (he : Ext w5 w') => he.cell d0
      have v2 := fun w' (he : Ext w5 w') => y2 w' (hx5.trans he)
      obtain ⟨ad2, c2, g2, gc2, ee2, hcell2, hO2⟩ := (HT.out.later hx5).get (show an < KL.length by rw [HKlen.out]; omega)
      rw [HKlen.out] at ee2
      obtain rfl : U3 = some ad2 := by simp only [Value.slice.injEq] at ee2; exact ee2.1
      clear ee2 c2
      have hrow2 : KnRow w5 (some ⟨g2, 0, none⟩) (klA KL an) := hO2.row
      obtain ⟨_, ee2, z0, z1, z2, z3, z4⟩ := hrow2.at_ HK1.out
      cases ee2
      simp only [add_zero'] at z0 z1 z2 z3 z4
      obtain ⟨_, so0, so1, _, _⟩ := HKO.out an (by omega) kn HK1.out
      obtain ⟨⟨⟨kx, ky, kz⟩, dir, srt2⟩, hs2⟩ : ∃ q, knA (klA KL an) kn = q := ⟨_, rfl⟩
      rw [hs2] at z0 z1 z2 z3 z4 so0 so1
      simp only at z0 z1 z2 z3 z4 so0 so1
      obtain ⟨dn, rfl⟩ : ∃ dn : Nat, dir = dn := ⟨dir.toNat, by omega⟩
      have hli := fun w' => line_any kx ky kz dn srt2 w' (by omega)
      have Hli := Lib.hid hli
      have hyl : (kn : Int) < ((klA KL an).length : Int) := by have := HK1.out; omega
      obtain ⟨nx, hnx⟩ : ∃ nx, nx = (klA KL an).length := ⟨_, rfl⟩
      rw [← hnx] at hyl hcell2
      clear hO2 hrow2 so0 so1 hs2 hli hnx d0 hx5
      refine Cg.wp_region_calm (p := Cg.extPre) (fr := (fun _ => false)) 17 (fun j _ v _ => j = 11 → ∃ (a : Int) (u : Ce), v = .tuple #[.int .u8 a, u.val]) (fun _ _ _ _ _ _ h => h) (by kernel_rfl) (by kernel_rfl) ?_
      simp only [List.take_succ_cons, List.take_zero, List.drop_succ_cons, List.drop_zero]
      refine Cg.calm_quiet Cg.calm_mono_final w5 (fun _ h => h) 11 (by kernel_rfl) ?_
      simp only [List.take_succ_cons, List.take_zero, List.drop_succ_cons, List.drop_zero]
      repeat (go_big_quiet_step (fail))
      refine wpQuiet_nil ?_
      refine Cg.calm_call Cg.calm_mono_final 166 #[.agg #[.int .i64 kx, .int .i64 ky, .int .i64 kz, .int .u8 dn, .int .u8 srt2]] rfl (fun w => ?_) (fun w he hF => ?_) ?_
      · go_simp
      · exact (Hli.out w).mono fun e w'' ⟨a, u, he', hx⟩ => ⟨_, he', hx, fun _ => ⟨a, u, rfl⟩, fun h => by cases h⟩
      rintro _ _ _ h _
      obtain ⟨ax, ⟨ux, uy, uz⟩, rfl⟩ := h rfl
      simp only [Act.put, List.setIfInBounds_toArray, List.set_cons_succ, List.set_cons_zero]
      refine Cg.calm_quiet Cg.calm_mono_final w5 (fun _ h => h) 3 (by kernel_rfl) ?_
      simp only [List.take_succ_cons, List.take_zero, List.drop_succ_cons, List.drop_zero]
      repeat (go_big_quiet_step (fail))
      refine wpQuiet_nil ?_
      refine Cg.calm_value Cg.calm_mono_final (fun v w => ∃ g, v = .pointer (some ⟨g, 0, none⟩) ∧ w5.heap.size ≤ g ∧ w.heap[g]? = some (.cells #[.int .i64 0, .int .i64 0, .int .i64 0] 60)) (fun _ w' w'' hR ⟨g, e, h1, h2⟩ => ⟨g, e, h1, (show Ext w' w'' from hR).heap h2⟩) rfl (fun w' hR _ => ⟨.pointer (some ⟨w'.heap.size, 0, none⟩), w'.alloc (.cells #[.int .i64 0, .int .i64 0, .int .i64 0] 60), by go_simp, (Ext.refl _).alloc _, ⟨_, rfl, (show Ext w5 w' from hR).size, heap_alloc_new _ _⟩, fun hf => by cases hf⟩) ?_
      rintro _ _ _ ⟨gc, rfl, hgc, _⟩ _
      simp only [Act.put, List.setIfInBounds_toArray, List.set_cons_succ, List.set_cons_zero]
      refine Cg.calm_quiet Cg.calm_mono_final w5 (fun _ h => h) 1 (by kernel_rfl) ?_
      simp only [List.take_succ_cons, List.take_zero, List.drop_succ_cons, List.drop_zero]
      repeat (go_big_quiet_step (fail))
      refine wpQuiet_nil ?_
      refine Cg.calm_nil fun w6 he6 hf6 => ?_
      have hh6 : w6.heap[gc]? = some (.cells #[.int .i64 0, .int .i64 0, .int .i64 0] 60) := by
        obtain ⟨g', e', _, h'⟩ := (hf6.1 15).2 rfl
        simp only [Value.pointer.injEq, Option.some.injEq, Addr.mk.injEq, and_true] at e'
        subst e'
        exact h'
      have he6 : Ext w5 w6 := he6
      have ho6 := own_block he6 hh6 hgc rfl
      have c0 := ho6.cell (j := 0) (by simp)
      have c1 := ho6.cell (j := 1) (by simp)
      have c2 := ho6.cell (j := 2) (by simp)
      simp only [List.getElem?_cons_succ, List.getElem?_cons_zero] at c0 c1 c2
      have f0 := ho6.free 0
      have f1 := ho6.free 1
      have f2 := ho6.free 2
      have HC6 := Lib.hid ((((ho6.store 0 (.int .i64 ux)).store 1 (.int .i64 uy)).store 2 (.int .i64 uz)))
      have hw5s : gj < w5.heap.size := (World.ownsRow.lt HO4.out.2 gj rfl).2
      have hgjw : wo.heap.size ≤ gj := HO4.out.ge
      have hwc : wo.heap.size ≤ gc := by omega
      have hne : (Value.slice (some ⟨gj, 0, none⟩) 1 1).ownBlock ≠ some gc := by simp only [Value.ownBlock, ne_eq, Option.some.injEq]; omega
      have hj6 := (((HO4.out.later he6).other (p := ⟨gc, 0, none⟩) hwc hne (.int .i64 ux)).other (p := ⟨gc, 1, none⟩) hwc hne (.int .i64 uy)).other (p := ⟨gc, 2, none⟩) hwc hne (.int .i64 uz)
      have e3 := hj6.cell (j := 3) (by simp)
      simp only [List.set_cons_succ, List.set_cons_zero, List.getElem?_cons_succ, List.getElem?_cons_zero] at e3
      have ef := hj6.free 3
      have HJ7 := Lib.hid (hj6.store 3 (.int .u8 ax))
      have hc6 : Own wo _ _ _ _ _ _ := HC6.out.since (HO4.out.ext)
      have HC7 := Lib.hid (hc6.other (p := ⟨gj, 3, none⟩) hgjw (by simp only [Value.ownBlock, ne_eq, Option.some.injEq]; omega) (.int .u8 ax))
      clear ho6 hh6 hf6 hgjw hwc hne hj6 hc6 HC6 HO4 he6
      go_wp2
      obtain ⟨w7, hw7⟩ : ∃ w7, w7 = (((w6.setCell ⟨gc, 0, none⟩ (.int .i64 ux)).setCell ⟨gc, 1, none⟩ (.int .i64 uy)).setCell ⟨gc, 2, none⟩ (.int .i64 uz)).setCell ⟨gj, 3, none⟩ (.int .u8 ax) := ⟨_, rfl⟩
      rw [← hw7] at HJ7 HC7 ⊢
      simp only [List.set_cons_succ, List.set_cons_zero] at HJ7 HC7
      have hgcj : gc ≠ gj := by omega
      clear hw7 e3 ef c0 c1 c2 f0 f1 f2 y0 y1 y2 y3 y4 z0 z1 z2 z3 z4 v2 j0 hcell2 Hli
      go_loopw [13] (fun i wx => ∃ (j : Nat) (st ax : Int) (pn : Bool), j ≤ r ∧ i = .int .i64 j ∧ Own wo wx 278 5 (.slice (some ⟨gj, 0, none⟩) 1 1) 1 [.int .i64 an, .int .i64 bn, .int .i64 st, .int .u8 ax, .bool pn] ∧ Own wo wx 60 3 (.slice (some ⟨gc, 0, none⟩) 1 1) 1 [.int .i64 ux, .int .i64 uy, .int .i64 uz]) (fun i _ => r - (intOf i).toNat)
      case atStart => exact ⟨0, 0, ax, true, by omega, rfl, HJ7.out, HC7.out⟩
      case round =>
        clear HJ7 HC7
        obtain ⟨j, st, ax2, pn, hj, rfl, hJx, hCx⟩ := hrel
        have HJx := Lib.hid hJx
        have HCx := Lib.hid hCx
        have e0 := hJx.cell (j := 0) (by simp)
        have e1 := hJx.cell (j := 1) (by simp)
        simp only [List.getElem?_cons_succ, List.getElem?_cons_zero] at e0 e1
        have d0 := fun w' (he : Ext wr w') => he.cell e0
        have d1 := fun w' (he : Ext wr w') => he.cell e1
        clear e0 e1
        have hxx := hJx.ext
        clear hJx hCx
        have Hxx := Lib.hid hxx
        go_wp2
        go_cut [81] (fun cv wx => ∃ bb : Bool, cv = .bool bb ∧ (bb = true → j < r ∧ (lnA LD j).a = an ∧ (lnA LD j).b = bn) ∧ (bb = false → 1 ≤ j) ∧ Ext wr wx)
        case first =>
          by_cases hjr : j < r
          · have hji : (j : Int) < (r : Int) := by omega
            obtain ⟨_, ee, y0, y1, _, _, _⟩ := (Hrow.out.ext Hxx.out).at_ (show j < LD.length by rw [Hlen.out]; exact hjr)
            cases ee
            obtain ⟨⟨aj, bj, kj, oj, sj⟩, hLj⟩ : ∃ x, lnA LD j = x := ⟨_, rfl⟩
            have hj0 : aj ≠ an ∨ bj ≠ bn → 1 ≤ j := fun h => by
              rcases Nat.eq_zero_or_pos j with rfl | h1
              · have h0 := hLj.symm.trans HL0.out
                simp only [Lnk.mk.injEq] at h0
                omega
              · omega
            rw [hLj] at y0 y1
            simp only at y0 y1
            have HLj := Lib.hid hLj
            clear hLj hxx
            by_cases ha : aj = (an : Int)
            · by_cases hb : bj = (bn : Int)
              · subst ha
                subst hb
                refine Cg.wp_region_calm (p := Cg.extPre) (fr := (fun _ => false)) 24 (fun _ _ _ _ => True) (fun _ _ _ _ _ _ h => h) (by kernel_rfl) (by kernel_rfl) ?_
                simp only [List.take_succ_cons, List.take_zero, List.drop_succ_cons, List.drop_zero]
                refine Cg.calm_quiet Cg.calm_mono_final wr (fun _ h => h) 23 (by kernel_rfl) ?_
                simp only [List.take_succ_cons, List.take_zero, List.drop_succ_cons, List.drop_zero]
                repeat (go_big_quiet_step (fail))
                refine wpQuiet_nil ?_
                refine Cg.calm_value Cg.calm_mono_final (fun v _ => v = .bool true) (fun _ _ _ _ h => h) rfl (fun w' hR _ => ⟨_, w', by go_simp, Ext.refl _, rfl, fun hf => by cases hf⟩) ?_
                rintro _ _ _ rfl _
                simp only [Act.put, List.setIfInBounds_toArray, List.set_cons_succ, List.set_cons_zero]
                refine Cg.calm_nil fun w8 he8 _ => ?_
                have he8 : Ext wr w8 := he8
                go_wp2_with fail
                go_meet
                exact ⟨true, rfl, fun _ => ⟨hjr, by rw [HLj.out], by rw [HLj.out]⟩, fun h => (by cases h), he8⟩
              · subst ha
                have hj1 := hj0 (.inr hb)
                clear hj0
                refine Cg.wp_region_calm (p := Cg.extPre) (fr := (fun _ => false)) 24 (fun _ _ _ _ => True) (fun _ _ _ _ _ _ h => h) (by kernel_rfl) (by kernel_rfl) ?_
                simp only [List.take_succ_cons, List.take_zero, List.drop_succ_cons, List.drop_zero]
                refine Cg.calm_quiet Cg.calm_mono_final wr (fun _ h => h) 23 (by kernel_rfl) ?_
                simp only [List.take_succ_cons, List.take_zero, List.drop_succ_cons, List.drop_zero]
                repeat (go_big_quiet_step (fail))
                refine wpQuiet_nil ?_
                refine Cg.calm_value Cg.calm_mono_final (fun v _ => v = .bool false) (fun _ _ _ _ h => h) rfl (fun w' hR _ => ⟨_, w', by go_simp, Ext.refl _, rfl, fun hf => by cases hf⟩) ?_
                rintro _ _ _ rfl _
                simp only [Act.put, List.setIfInBounds_toArray, List.set_cons_succ, List.set_cons_zero]
                refine Cg.calm_nil fun w8 he8 _ => ?_
                have he8 : Ext wr w8 := he8
                go_wp2_with fail
                go_meet
                exact ⟨false, rfl, fun h => (by cases h), fun _ => hj1, he8⟩
            · have hj1 := hj0 (.inl ha)
              clear hj0
              refine Cg.wp_region_calm (p := Cg.extPre) (fr := (fun _ => false)) 24 (fun j _ v _ => True) (fun _ _ _ _ _ _ h => h) (by kernel_rfl) (by kernel_rfl) ?_
              simp only [List.take_succ_cons, List.take_zero, List.drop_succ_cons, List.drop_zero]
              refine Cg.calm_quiet Cg.calm_mono_final wr (fun _ h => h) 13 (by kernel_rfl) ?_
              simp only [List.take_succ_cons, List.take_zero, List.drop_succ_cons, List.drop_zero]
              repeat (go_big_quiet_step (fail))
              refine wpQuiet_nil ?_
              refine Cg.calm_value Cg.calm_mono_final (fun v _ => v = .bool false) (fun _ _ _ _ h => h) rfl (fun w' hR _ => ⟨_, w', by go_simp, Ext.refl _, rfl, fun hf => by cases hf⟩) ?_
              rintro _ _ _ rfl _
              simp only [Act.put, List.setIfInBounds_toArray, List.set_cons_succ, List.set_cons_zero]
              refine Cg.calm_quiet Cg.calm_mono_final wr (fun _ h => h) 1 (by kernel_rfl) ?_
              simp only [List.take_succ_cons, List.take_zero, List.drop_succ_cons, List.drop_zero]
              repeat (go_big_quiet_step (fail))
              refine wpQuiet_nil ?_
              refine Cg.calm_skip (by kernel_rfl) ?_
              simp only [Act.put, List.setIfInBounds_toArray, List.set_cons_succ, List.set_cons_zero]
              refine Cg.calm_skip (by kernel_rfl) ?_
              simp only [Act.put, List.setIfInBounds_toArray, List.set_cons_succ, List.set_cons_zero]
              refine Cg.calm_skip (by kernel_rfl) ?_
              simp only [Act.put, List.setIfInBounds_toArray, List.set_cons_succ, List.set_cons_zero]
              refine Cg.calm_skip (by kernel_rfl) ?_
              simp only [Act.put, List.setIfInBounds_toArray, List.set_cons_succ, List.set_cons_zero]
              refine Cg.calm_skip (by kernel_rfl) ?_
              simp only [Act.put, List.setIfInBounds_toArray, List.set_cons_succ, List.set_cons_zero]
              refine Cg.calm_skip (by kernel_rfl) ?_
              simp only [Act.put, List.setIfInBounds_toArray, List.set_cons_succ, List.set_cons_zero]
              refine Cg.calm_skip (by kernel_rfl) ?_
              simp only [Act.put, List.setIfInBounds_toArray, List.set_cons_succ, List.set_cons_zero]
              refine Cg.calm_skip (by kernel_rfl) ?_
              simp only [Act.put, List.setIfInBounds_toArray, List.set_cons_succ, List.set_cons_zero]
              refine Cg.calm_value Cg.calm_mono_final (fun v _ => v = .bool false) (fun _ _ _ _ h => h) rfl (fun w' hR _ => ⟨_, w', by go_simp, Ext.refl _, rfl, fun hf => by cases hf⟩) ?_
              rintro _ _ _ rfl _
              simp only [Act.put, List.setIfInBounds_toArray, List.set_cons_succ, List.set_cons_zero]
              refine Cg.calm_nil fun w8 he8 _ => ?_
              have he8 : Ext wr w8 := he8
              go_wp2_with fail
              go_meet
              exact ⟨false, rfl, fun h => (by cases h), fun _ => hj1, he8⟩
          · have hji : ¬ (j : Int) < (r : Int) := by omega
            have hj1 : 1 ≤ j := by omega
            refine Cg.wp_region_calm (p := Cg.extPre) (fr := (fun _ => false)) 24 (fun _ _ _ _ => True) (fun _ _ _ _ _ _ h => h) (by kernel_rfl) (by kernel_rfl) ?_
            simp only [List.take_succ_cons, List.take_zero, List.drop_succ_cons, List.drop_zero]
            refine Cg.calm_quiet Cg.calm_mono_final wr (fun _ h => h) 23 (by kernel_rfl) ?_
            simp only [List.take_succ_cons, List.take_zero, List.drop_succ_cons, List.drop_zero]
            repeat (go_big_quiet_step (fail))
            refine wpQuiet_nil ?_
            refine Cg.calm_value Cg.calm_mono_final (fun v _ => v = .bool false) (fun _ _ _ _ h => h) rfl (fun w' hR _ => ⟨_, w', by go_simp, Ext.refl _, rfl, fun hf => by cases hf⟩) ?_
            rintro _ _ _ rfl _
            simp only [Act.put, List.setIfInBounds_toArray, List.set_cons_succ, List.set_cons_zero]
            refine Cg.calm_nil fun w8 he8 _ => ?_
            have he8 : Ext wr w8 := he8
            go_wp2_with fail
            go_meet
            exact ⟨false, rfl, fun h => (by cases h), fun _ => hj1, he8⟩
        case rest =>
          obtain ⟨bb, rfl, hc1, hc2, hxc⟩ := hcut
          have hJc := HJx.out.later hxc
          have hCc := HCx.out.later hxc
          clear HJx HCx d0 d1
          cases bb with
          | true =>
            obtain ⟨hjr, ha, hb⟩ := hc1 rfl
            clear hc1 hc2
            have hji : (j : Int) < (r : Int) := by omega
            obtain ⟨_, ee, y0, y1, y2, y3, y4⟩ := (Hrow.out.ext (Hxx.out.trans hxc)).at_ (show j < LD.length by rw [Hlen.out]; exact hjr)
            cases ee
            obtain ⟨_, _, _, k0, k1, _, _, hsr⟩ := Hlnk.out j hjr
            obtain ⟨⟨aj, bj, kj, oj, sj⟩, hLj⟩ : ∃ x, lnA LD j = x := ⟨_, rfl⟩
            rw [hLj] at y0 y1 y2 y3 y4 ha hb k0 k1 hsr
            simp only at y0 y1 y2 y3 y4 ha hb k0 k1 hsr
            subst ha
            subst hb
            obtain ⟨kjn, rfl⟩ : ∃ kn : Nat, kj = kn := ⟨kj.toNat, by omega⟩
            simp only [Int.toNat_natCast] at k1
            have HK2 := Lib.hid (show kjn < (klA KL an).length by omega)
            have Hsr := Lib.hid hsr
            have hw2 : IntKind.i64.wrap ((j : Int) + 1) = ((j + 1 : Nat) : Int) := by rw [IntKind.wrap_i64]; omega
            have hx9 : Ext wc (wc.alloc (.cells #[.int .i64 an, .int .i64 bn, .int .i64 kjn, .int .i64 oj, .int .u8 sj] 163)) := (Ext.refl _).alloc _
            have HJ9 := Lib.hid (hJc.later hx9)
            have HC9 := Lib.hid (hCc.later hx9)
            have HB9 := Lib.hid (show Blk (wc.alloc (.cells #[.int .i64 an, .int .i64 bn, .int .i64 kjn, .int .i64 oj, .int .u8 sj] 163)) wc.heap.size [.int .i64 an, .int .i64 bn, .int .i64 kjn, .int .i64 oj, .int .u8 sj] from Blk.new _ _)
            have hgl := (World.ownsRow.lt hJc.2 gj rfl).2
            have hgl2 := (World.ownsRow.lt hCc.2 gc rfl).2
            clear hLj k0 k1 hsr hxc hJc hCc hxx
            go_wp2
            generalize (wc.alloc (.cells #[.int .i64 an, .int .i64 bn, .int .i64 kjn, .int .i64 oj, .int .u8 sj] 163)) = w9 at *
            obtain ⟨gl, hglE⟩ : ∃ gl, gl = wc.heap.size := ⟨_, rfl⟩
            rw [← hglE] at hgl hgl2 HB9 ⊢
            have p4 := HB9.out.at_ 4 rfl
            obtain ⟨qv, hqv⟩ := idx6 sj Hsr.out
            have e2 := HJ9.out.cell (j := 2) (by simp)
            simp only [List.getElem?_cons_succ, List.getElem?_cons_zero] at e2
            have q2 := fun w' (he : Ext w9 w') => he.cell e2
            clear y0 y1 y2 y3 y4 hx9 e2 hglE
            refine Cg.wp_region_calm (p := Cg.extPre) (fr := (fun _ => false)) 8 (fun j _ v _ => True) (fun _ _ _ _ _ _ h => h) (by kernel_rfl) (by kernel_rfl) ?_
            simp only [List.take_succ_cons, List.take_zero, List.drop_succ_cons, List.drop_zero]
            refine Cg.calm_quiet Cg.calm_mono_final w9 (fun _ h => h) 2 (by kernel_rfl) ?_
            simp only [List.take_succ_cons, List.take_zero, List.drop_succ_cons, List.drop_zero]
            repeat (go_big_quiet_step (fail))
            refine wpQuiet_nil ?_
            refine Cg.calm_value Cg.calm_mono_final (fun v _ => v = .agg #[.int .i64 0, .int .i64 2, .int .i64 0, .int .i64 3, .int .i64 0, .int .i64 5]) (fun _ _ _ _ h => h) rfl (fun w' hR _ => ⟨_, w', by go_simp, Ext.refl _, rfl, fun hf => by cases hf⟩) ?_
            rintro _ _ _ rfl _
            simp only [Act.put, List.setIfInBounds_toArray, List.set_cons_succ, List.set_cons_zero]
            refine Cg.calm_quiet Cg.calm_mono_final w9 (fun _ h => h) 2 (by kernel_rfl) ?_
            simp only [List.take_succ_cons, List.take_zero, List.drop_succ_cons, List.drop_zero]
            repeat (go_big_quiet_step (fail))
            refine wpQuiet_nil ?_
            refine Cg.calm_value Cg.calm_mono_final (fun v _ => v = .int .i64 qv) (fun _ _ _ _ h => h) rfl (fun w' hR _ => ⟨.int .i64 qv, w', by go_simp, Ext.refl _, rfl, fun hf => by cases hf⟩) ?_
            rintro _ _ _ rfl _
            simp only [Act.put, List.setIfInBounds_toArray, List.set_cons_succ, List.set_cons_zero]
            refine Cg.calm_quiet Cg.calm_mono_final w9 (fun _ h => h) 2 (by kernel_rfl) ?_
            simp only [List.take_succ_cons, List.take_zero, List.drop_succ_cons, List.drop_zero]
            repeat (go_big_quiet_step (fail))
            refine wpQuiet_nil ?_
            refine Cg.calm_nil fun w10 he10 _ => ?_
            have he10 : Ext w9 w10 := he10
            have hj10 := HJ9.out.later he10
            have e2 := hj10.cell (j := 2) (by simp)
            simp only [List.getElem?_cons_succ, List.getElem?_cons_zero] at e2
            have f2 := hj10.free 2
            have HJ10 := Lib.hid (hj10.store 2 (.int .i64 (wrap64 (st + qv))))
            have HC10 := Lib.hid ((HC9.out.later he10).other (p := ⟨gj, 2, none⟩) HJ9.out.ge (by simp only [Value.ownBlock, ne_eq, Option.some.injEq]; omega) (.int .i64 (wrap64 (st + qv))))
            have HB10 := Lib.hid ((HB9.out.ext he10).other (b := gj) (k := 2) (by omega) (.int .i64 (wrap64 (st + qv))))
            clear hj10 HJ9 HC9 HB9 he10 p4 q2
            go_upto_region 14 with (fail)
            obtain ⟨w14, hw14⟩ : ∃ w14, w14 = (w10.setCell ⟨gj, 2, none⟩ (.int .i64 (wrap64 (st + qv)))) := ⟨_, rfl⟩
            obtain ⟨sv, hsv⟩ : ∃ sv, sv = wrap64 (st + qv) := ⟨_, rfl⟩
            rw [← hw14] at HJ10 HC10 HB10 ⊢
            rw [← hsv] at HJ10
            simp only [List.set_cons_succ, List.set_cons_zero] at HJ10
            have Hgcj := Lib.hid (show (Value.slice (some ⟨gc, 0, none⟩) 1 1).ownBlock ≠ some gj by simp only [Value.ownBlock, ne_eq, Option.some.injEq]; omega)
            have Hglj := Lib.hid (show gj ≠ gl by omega)
            clear hw14 hsv e2 f2 hqv
            go_cut [] (fun wx => ∃ (st' : Int) (pn' : Bool), Own wo wx 278 5 (.slice (some ⟨gj, 0, none⟩) 1 1) 1 [.int .i64 an, .int .i64 bn, .int .i64 st', .int .u8 ax2, .bool pn'] ∧ Own wo wx 60 3 (.slice (some ⟨gc, 0, none⟩) 1 1) 1 [.int .i64 ux, .int .i64 uy, .int .i64 uz] ∧ Blk wx gl [.int .i64 an, .int .i64 bn, .int .i64 kjn, .int .i64 oj, .int .u8 sj])
            case first =>
              have hj14 := HJ10.out
              have e4 := hj14.cell (j := 4) (by simp)
              simp only [List.getElem?_cons_succ, List.getElem?_cons_zero] at e4
              have f4 := hj14.free 4
              have p4 := HB10.out.at_ 4 rfl w14 (Ext.refl _)
              clear hj14
              cases pn with
              | false =>
                go_wp2_with fail
                go_meet
                exact ⟨_, _, HJ10.out.store 4 (.bool false), HC10.out.other (p := ⟨gj, 4, none⟩) HJ10.out.ge Hgcj.out (.bool false), HB10.out.other (b := gj) (k := 4) Hglj.out (.bool false)⟩
              | true =>
                go_wp2_with fail
                go_meet
                exact ⟨_, _, HJ10.out.store 4 (.bool (sj == 3)), HC10.out.other (p := ⟨gj, 4, none⟩) HJ10.out.ge Hgcj.out (.bool (sj == 3)), HB10.out.other (b := gj) (k := 4) Hglj.out (.bool (sj == 3))⟩
            case rest =>
              clear HJ10 HC10 HB10
              obtain ⟨st3, pn3, hJ14, hC14, hB14⟩ := hcut
              have hx14 := hJ14.ext
              have p2 := hB14.at_ 2 rfl
              have e0 := hJ14.cell (j := 0) (by simp)
              simp only [List.getElem?_cons_zero] at e0
              have j0 := fun w' (he : Ext wc w') => he.cell e0
              have HB14 := Lib.hid hB14
              have HJ14 := Lib.hid hJ14
              have HC14 := Lib.hid hC14
              obtain ⟨ad3, c3, g3, gc3, ee3, hcell3, hO3⟩ := (HT.out.later hx14).get (show an < KL.length by rw [HKlen.out]; omega)
              rw [HKlen.out] at ee3
              obtain rfl : ad2 = ad3 := by simp only [Value.slice.injEq, Option.some.injEq] at ee3; exact ee3.1
              clear ee3 c3
              have hrow3 : KnRow wc (some ⟨g3, 0, none⟩) (klA KL an) := hO3.row
              obtain ⟨_, ee3, z0, z1, z2, z3, z4⟩ := hrow3.at_ HK2.out
              cases ee3
              simp only [add_zero'] at z0 z1 z2 z3 z4
              obtain ⟨_, so0, so1, _, _⟩ := HKO.out an (by omega) kjn HK2.out
              obtain ⟨⟨⟨kx2, ky2, kz2⟩, dir2, srt3⟩, hs3⟩ : ∃ q, knA (klA KL an) kjn = q := ⟨_, rfl⟩
              rw [hs3] at z0 z1 z2 z3 z4 so0 so1
              simp only at z0 z1 z2 z3 z4 so0 so1
              obtain ⟨dn2, rfl⟩ : ∃ dn : Nat, dir2 = dn := ⟨dir2.toNat, by omega⟩
              have hli2 := fun w' => line_any kx2 ky2 kz2 dn2 srt3 w' (by omega)
              have Hli2 := Lib.hid hli2
              have hyl2 : (kjn : Int) < ((klA KL an).length : Int) := by have := HK2.out; omega
              obtain ⟨nx3, hnx3⟩ : ∃ nx, nx = (klA KL an).length := ⟨_, rfl⟩
              rw [← hnx3] at hyl2 hcell3
              clear hO3 hrow3 so0 so1 hs3 hli2 hnx3 e0 hx14 hJ14 hC14 hB14
              go_wp2
              refine Cg.wp_region_calm (p := Cg.extPre) (fr := (fun _ => false)) 15 (fun j _ v _ => j = 9 → ∃ (a : Int) (u : Ce), v = .tuple #[.int .u8 a, u.val]) (fun _ _ _ _ _ _ h => h) (by kernel_rfl) (by kernel_rfl) ?_
              simp only [List.take_succ_cons, List.take_zero, List.drop_succ_cons, List.drop_zero]
              refine Cg.calm_quiet Cg.calm_mono_final wc (fun _ h => h) 9 (by kernel_rfl) ?_
              simp only [List.take_succ_cons, List.take_zero, List.drop_succ_cons, List.drop_zero]
              repeat (go_big_quiet_step (fail))
              refine wpQuiet_nil ?_
              refine Cg.calm_call Cg.calm_mono_final 166 #[.agg #[.int .i64 kx2, .int .i64 ky2, .int .i64 kz2, .int .u8 dn2, .int .u8 srt3]] rfl (fun w => ?_) (fun w he hF => ?_) ?_
              · go_simp
              · exact (Hli2.out w).mono fun e w'' ⟨a, u, he', hx⟩ => ⟨_, he', hx, fun _ => ⟨a, u, rfl⟩, fun h => by cases h⟩
              rintro _ _ _ h _
              obtain ⟨ax3, ⟨vx, vy, vz⟩, rfl⟩ := h rfl
              simp only [Act.put, List.setIfInBounds_toArray, List.set_cons_succ, List.set_cons_zero]
              refine Cg.calm_quiet Cg.calm_mono_final wc (fun _ h => h) 3 (by kernel_rfl) ?_
              simp only [List.take_succ_cons, List.take_zero, List.drop_succ_cons, List.drop_zero]
              repeat (go_big_quiet_step (fail))
              refine wpQuiet_nil ?_
              refine Cg.calm_value Cg.calm_mono_final (fun v w => ∃ g, v = .pointer (some ⟨g, 0, none⟩) ∧ wc.heap.size ≤ g ∧ w.heap[g]? = some (.cells #[.int .i64 0, .int .i64 0, .int .i64 0] 60)) (fun _ w' w'' hR ⟨g, e, h1, h2⟩ => ⟨g, e, h1, (show Ext w' w'' from hR).heap h2⟩) rfl (fun w' hR _ => ⟨.pointer (some ⟨w'.heap.size, 0, none⟩), w'.alloc (.cells #[.int .i64 0, .int .i64 0, .int .i64 0] 60), by go_simp, (Ext.refl _).alloc _, ⟨_, rfl, (show Ext wc w' from hR).size, heap_alloc_new _ _⟩, fun hf => by cases hf⟩) ?_
              rintro _ _ _ ⟨gd, rfl, hgd, _⟩ _
              simp only [Act.put, List.setIfInBounds_toArray, List.set_cons_succ, List.set_cons_zero]
              refine Cg.calm_quiet Cg.calm_mono_final wc (fun _ h => h) 1 (by kernel_rfl) ?_
              simp only [List.take_succ_cons, List.take_zero, List.drop_succ_cons, List.drop_zero]
              repeat (go_big_quiet_step (fail))
              refine wpQuiet_nil ?_
              refine Cg.calm_nil fun w16 he16 hf16 => ?_
              have hh16 : w16.heap[gd]? = some (.cells #[.int .i64 0, .int .i64 0, .int .i64 0] 60) := by
                obtain ⟨g', e', _, h'⟩ := (hf16.1 13).2 rfl
                simp only [Value.pointer.injEq, Option.some.injEq, Addr.mk.injEq, and_true] at e'
                subst e'
                exact h'
              have he16 : Ext wc w16 := he16
              have ho16 := own_block he16 hh16 hgd rfl
              have c0 := ho16.cell (j := 0) (by simp)
              have c1 := ho16.cell (j := 1) (by simp)
              have c2 := ho16.cell (j := 2) (by simp)
              simp only [List.getElem?_cons_succ, List.getElem?_cons_zero] at c0 c1 c2
              have f0 := ho16.free 0
              have f1 := ho16.free 1
              have f2 := ho16.free 2
              have hgw := HJ14.out.ext.size
              have hgjs := (World.ownsRow.lt HJ14.out.2 gj rfl).2
              have hgcs := (World.ownsRow.lt HC14.out.2 gc rfl).2
              have HD17 := Lib.hid ((((ho16.store 0 (.int .i64 vx)).store 1 (.int .i64 vy)).store 2 (.int .i64 vz)))
              have HJ17 := Lib.hid ((((HJ14.out.later he16).other (p := ⟨gd, 0, none⟩) (show wo.heap.size ≤ gd by omega) (by simp only [Value.ownBlock, ne_eq, Option.some.injEq]; omega) (.int .i64 vx)).other (p := ⟨gd, 1, none⟩) (show wo.heap.size ≤ gd by omega) (by simp only [Value.ownBlock, ne_eq, Option.some.injEq]; omega) (.int .i64 vy)).other (p := ⟨gd, 2, none⟩) (show wo.heap.size ≤ gd by omega) (by simp only [Value.ownBlock, ne_eq, Option.some.injEq]; omega) (.int .i64 vz))
              have HC17 := Lib.hid ((((HC14.out.later he16).other (p := ⟨gd, 0, none⟩) (show wo.heap.size ≤ gd by omega) (by simp only [Value.ownBlock, ne_eq, Option.some.injEq]; omega) (.int .i64 vx)).other (p := ⟨gd, 1, none⟩) (show wo.heap.size ≤ gd by omega) (by simp only [Value.ownBlock, ne_eq, Option.some.injEq]; omega) (.int .i64 vy)).other (p := ⟨gd, 2, none⟩) (show wo.heap.size ≤ gd by omega) (by simp only [Value.ownBlock, ne_eq, Option.some.injEq]; omega) (.int .i64 vz))
              clear ho16 hh16 hf16 he16 HJ14 HC14 HB14 z0 z1 z2 z3 z4 j0 p2 hcell3 Hli2
              go_upto_region 16 with (fail)
              obtain ⟨w17, hw17⟩ : ∃ w17, w17 = (((w16.setCell ⟨gd, 0, none⟩ (.int .i64 vx)).setCell ⟨gd, 1, none⟩ (.int .i64 vy)).setCell ⟨gd, 2, none⟩ (.int .i64 vz)) := ⟨_, rfl⟩
              rw [← hw17] at HJ17 HC17 HD17 ⊢
              simp only [List.set_cons_succ, List.set_cons_zero] at HD17
              clear hw17 c0 c1 c2 f0 f1 f2
              go_cut [122] (fun cv wx => ∃ bb : Bool, cv = .bool bb ∧ wx = w17)
              case first =>
                by_cases hax : ax3 = ax
                · have hb0 : (ax3 != ax) = false := by simp [hax]
                  clear hax
                  have d0 := HD17.out.cell (j := 0) (by simp)
                  have d1 := HD17.out.cell (j := 1) (by simp)
                  have d2 := HD17.out.cell (j := 2) (by simp)
                  have g0 := HC17.out.cell (j := 0) (by simp)
                  have g1 := HC17.out.cell (j := 1) (by simp)
                  have g2 := HC17.out.cell (j := 2) (by simp)
                  simp only [List.getElem?_cons_succ, List.getElem?_cons_zero] at d0 d1 d2 g0 g1 g2
                  obtain ⟨nb, hnb⟩ := neq_cells vx vy vz ux uy uz
                  go_wp2_with fail
                  go_meet
                  exact ⟨nb, rfl, rfl⟩
                · have hb0 : (ax3 != ax) = true := by simp [hax]
                  clear hax
                  go_wp2_with fail
                  go_meet
                  exact ⟨true, rfl, rfl⟩
              case rest =>
                obtain ⟨bb, rfl, rfl⟩ := hcut
                have c3 := HJ17.out.cell (j := 3) (by simp)
                simp only [List.getElem?_cons_succ, List.getElem?_cons_zero] at c3
                have f3 := HJ17.out.free 3
                cases bb with
                | false =>
                  go_wp2
                  go_roundw
                  case rel => exact ⟨j + 1, st3, ax2, pn3, by omega, by go_num, HJ17.out, HC17.out⟩
                  case measure => simp [intOf]; omega
                | true =>
                  go_wp2
                  go_roundw
                  case rel => exact ⟨j + 1, st3, 0, pn3, by omega, by go_num, HJ17.out.store 3 (.int .u8 0), HC17.out.other (p := ⟨gj, 3, none⟩) HJ17.out.ge Hgcj.out (.int .u8 0)⟩
                  case measure => simp [intOf]; omega
          | false =>
            have hj1 := hc2 rfl
            clear hc1 hc2 hxc hxx Hxx
            have HJ20 := Lib.hid hJc
            have e3 := hJc.cell (j := 3) (by simp)
            have e4 := hJc.cell (j := 4) (by simp)
            simp only [List.getElem?_cons_succ, List.getElem?_cons_zero] at e3 e4
            have f4 := hJc.free 4
            clear hJc hCc
            go_upto_region 19 with (fail)
            go_cut [] (fun wx => ∃ pn' : Bool, Own wo wx 278 5 (.slice (some ⟨gj, 0, none⟩) 1 1) 1 [.int .i64 an, .int .i64 bn, .int .i64 st, .int .u8 ax2, .bool pn'])
            case first =>
              cases pn with
              | false =>
                go_wp2_with fail
                go_meet
                exact ⟨_, HJ20.out.store 4 (.bool false)⟩
              | true =>
                go_wp2_with fail
                go_meet
                exact ⟨_, HJ20.out.store 4 (.bool _)⟩
            case rest =>
              clear HJ20 e3 e4 f4
              obtain ⟨pn', hJ⟩ := hcut
              obtain ⟨QA, qc, rfl⟩ := HJ.out.form
              have hxc := hJ.ext
              have e0 := hJ.cell (j := 0) (by simp)
              have e1 := hJ.cell (j := 1) (by simp)
              have e2 := hJ.cell (j := 2) (by simp)
              have e3 := hJ.cell (j := 3) (by simp)
              have e4 := hJ.cell (j := 4) (by simp)
              simp only [List.getElem?_cons_succ, List.getElem?_cons_zero] at e0 e1 e2 e3 e4
              have hx21 : Ext wc (wc.alloc (.cells #[.int .i64 an, .int .i64 bn, .int .i64 st, .int .u8 ax2, .bool pn'] 278)) := (Ext.refl _).alloc _
              have HJ21 := Lib.hid (HJ.out.later (hxc.trans hx21))
              have HL21 := Lib.hid (HL3.out.later (hxc.trans hx21))
              have HT21 := Lib.hid (HT.out.later (hxc.trans hx21))
              have Hrw := Lib.hid (Gr.row_alloc wc #[.int .i64 an, .int .i64 bn, .int .i64 st, .int .u8 ax2, .bool pn'] 278)
              clear hJ hxc hx21
              go_wp2_with (refine Gr.own_append_at joint_elem rfl _ _ 206 rfl Tryz.underlying206 (.slice QA k qc) k _ rfl HJ21.out ⟨wc.heap.size, 0, none⟩ 1 1 [.int .i64 an, .int .i64 bn, .int .i64 st, .int .u8 ax2, .bool pn'] rfl rfl Hrw.out (by intro u hu; simp only [List.mem_cons, List.not_mem_nil, or_false] at hu; rcases hu with rfl | rfl | rfl | rfl | rfl <;> rfl) (by omega) (by unfold maxLen; omega) ?_; intro v22 w22 ho22 hg22 hl22; have hbs := (fun j (e : (Value.slice QA k qc).ownBlock = some j) => (HJ21.out.2.lt j e).1); have HL22 := Lib.hid (own_grown HL21.out hg22 hbs (own_ne_row HL21.out HJ21.out.2 (by decide))); have HT22 := Lib.hid (HT21.out.row HJ21.out hg22 (by decide) (by decide)); have HJ22 := Lib.hid ho22; clear ho22 hg22 hl22 hbs)
              refine ⟨⟨off + j, k + 1, _, cap' - j, _, by omega, by rw [show N - (off + j) = r - j by omega], by omega, fun h => ⟨g, rfl, ?_⟩, HJ22.out, by omega, HL22.out, HT22.out⟩, ?_⟩
              · rw [if_neg (by omega), Had.out]
                unfold Addr.add
                rw [if_neg (by omega)]
                simp [Nat.add_mul]
              · show r - j < r
                omega
    · obtain rfl : N = off := by omega
      have hz : ¬ ((N - N : Nat) : Int) > 0 := by omega
      rw [Nat.sub_self] at hz ⊢
      obtain ⟨QA, qc, rfl⟩ := hJ.form
      have HJ := Lib.hid hJ
      clear hN hT hJ hA'
      go_wp2
      go_ret2
      exact ⟨_, _, _, 0, rfl, ⟨fun _ => HP.out, fun _ => rfl⟩, (Hx1.out.trans He2.out).trans HJ.out.ext⟩
end Go.Proofs.YtebkhdhhajjhfaaGreat.Lt
