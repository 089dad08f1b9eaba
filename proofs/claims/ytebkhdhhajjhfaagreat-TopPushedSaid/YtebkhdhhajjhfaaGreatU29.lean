/- build: the cells of a right model, and its joints. -/
import Derived.Test.YtebkhdhhajjhfaaGreatU28
import Derived.Laws.Bits64b
namespace Go.Proofs.YtebkhdhhajjhfaaGreat.Lt
open Go Go.RowKit
theorem mem_celB {l : List Ki} {b : Br} {c : Ce} : c ∈ celB l b ↔ c ∈ placed (kiA l b.kind.toNat).cs b.trn.toNat b.at_ := (sortC_perm _).mem_iff
theorem celB_near {l : List Ki} {ms : List Br} (hv : boundP l ms) {i : Nat} (hi : i < ms.length) {c : Ce} (h : c ∈ celB l (brA ms i)) : nearP c (-2000) 2000 := by
  obtain ⟨h1, _, h3, _, _⟩ := kind_of hv hi
  exact placed_near (ki_near (hv.1.2 _ h1)) h3 _ (mem_celB.1 h)
theorem cl_len {l : List Ki} {ms : List Br} (hv : boundP l ms) {i : Nat} (hi : i < ms.length) : 1 ≤ (klA (ms.map (celB l)) i).length ∧ (klA (ms.map (celB l)) i).length ≤ 24 := by
  obtain ⟨h1, _⟩ := kind_of hv hi
  rw [klA_at (by simpa using hi), List.getElem_map, ← brA_at hi, celB_len]
  exact ⟨(hv.1.2 _ h1).n0, (hv.1.2 _ h1).n1⟩
theorem cl_at {l : List Ki} {ms : List Br} {i : Nat} (hi : i < ms.length) : klA (ms.map (celB l)) i = celB l (brA ms i) := by
  rw [klA_at (by simpa using hi), List.getElem_map, brA_at hi]
theorem cells_i {l : List Ki} {A : Option Addr} {c : Nat} {ms : List Br} {w : World} (hA : KiRow w A l) (h8 : kindsW l) (hv : boundP l ms) {i : Nat} (hi : i < ms.length) : ∀ w', Ext w w' → Calls Tryz.prog 36 #[.slice A l.length c, (brA ms i).val] w' fun e w'' => ∃ g cap, e = .returned (.tuple #[.slice (some ⟨g, 0, none⟩) (klA (ms.map (celB l)) i).length cap, .int .i64 0]) ∧ Own w' w'' 60 3 (.slice (some ⟨g, 0, none⟩) (klA (ms.map (celB l)) i).length cap) (klA (ms.map (celB l)) i).length ((klA (ms.map (celB l)) i).map Ce.cells).flatten := fun w' he => by
  have := cellsb_any l A c (brA ms i) w' (hA.ext he) h8 hv.1 (hv.2.2 i hi)
  rw [cl_at hi, celB_len]
  exact this
theorem grown_set (w : World) (p : Addr) (u : Value) : w.grownBy (w.setCell p u) (some p.block) := by
  refine ⟨rfl, rfl, rfl, by simp, fun i _ hne => ?_⟩
  rw [heap_setCell_other _ _ _ _ (fun h => hne (by rw [h]))]
theorem CelM.ne {w0 w : World} {b n : Nat} {f : Ce → Int → Prop} {g : Ce → Prop} (h : CelM w0 w b n f g) {w1 : World} {e size m : Nat} {v : Value} {xs : List Value} (hv : Own w1 w e size v m xs) : some b ≠ v.ownBlock := by
  obtain ⟨es, clock, hm⟩ := h.isMap
  rcases own_ne_map hv hm with h1 | h1
  · rw [h1]; simp
  · exact fun e => h1 e.symm
/-- What build gives: the model's cells. -/
def Built (CL : List (List Ce)) (w w' : World) (p : Value) : Prop := ∃ (g : Nat) (u : Value), p = .pointer (some ⟨g, 0, none⟩) ∧ (∀ w'', Ext w' w'' → w''.cell? ⟨g, 2, none⟩ = some u) ∧ Tab Ce.cells 60 3 79 w w' u CL
set_option maxRecDepth 100000 in
set_option maxHeartbeats 4000000 in
theorem build_bad (l : List Ki) (A : Option Addr) (c : Nat) (ms : List Br) (M : Option Addr) (mc : Nat) (w : World) (hA : KiRow w A l) (h8 : kindsW l) (hM : BrRow w M ms) (hbw : bricksW ms) (hno : ¬ modelP l ms) :
    Calls Tryz.prog 95 #[.slice A l.length c, .agg #[.slice M ms.length mc]] w fun e w' => ∃ (p : Value) (b : Int), e = .returned (.tuple #[p, .int .i64 b]) ∧ b ≠ 0 ∧ Ext w w' := by
  have hjo := fun w' (he : Ext w w') => joints_any l A c ms M mc w' (hA.ext he) h8 (hM.ext he) hbw
  have Hjo := Lib.hid hjo
  clear hjo hA h8 hM hbw
  generalize modelP l ms = P at *
  generalize ms.length = m at *
  generalize l.length = n at *
  have Hno := Lib.hid hno
  have hx1 : Ext w (((w.alloc (.cells #[.slice M m mc] 25)).alloc (.map #[] 0)).alloc (.cells #[.slice A n c, .slice M m mc, .slice none 0 0, .map (some (w.heap.size + 1)), .slice none 0 0] 208)) := (((Ext.refl w).alloc _).alloc _).alloc _
  have Hx1 := Lib.hid hx1
  have hmm := @run_makeMap Tryz.prog
  clear hno hx1
  go_enter Tryz.func95, Tryz.ntmps95
  go_wp2_with (go_at_call 138; refine (Hjo.out _ Hx1.out).mono ?_; rintro e w2 ⟨_, _, _, b, rfl, hb, he2⟩; have hb0 : (b != 0) = true := (by have h0 : b ≠ 0 := fun e => Hno.out (hb.1 e); simpa using h0); have He2 := Lib.hid he2; clear hb he2)
  go_ret2
  exact ⟨_, b, rfl, by simpa using hb0, Hx1.out.trans He2.out⟩
set_option maxRecDepth 100000 in
set_option maxHeartbeats 4000000 in
theorem build_good (l : List Ki) (A : Option Addr) (c : Nat) (ms : List Br) (M : Option Addr) (mc : Nat) (w : World) (hA : KiRow w A l) (h8 : kindsW l) (hM : BrRow w M ms) (hbw : bricksW ms) (hv : modelP l ms) :
    Calls Tryz.prog 95 #[.slice A l.length c, .agg #[.slice M ms.length mc]] w fun e w' => ∃ p : Value, e = .returned (.tuple #[p, .int .i64 0]) ∧ Built (ms.map (celB l)) w w' p ∧ Ext w w' := by
  have hjo := fun w' (he : Ext w w') => joints_any l A c ms M mc w' (hA.ext he) h8 (hM.ext he) hbw
  have Hjo := Lib.hid hjo
  have Hbr := Lib.hid (fun i (hi : i < ms.length) => hM.at_ hi)
  have Hcl := Lib.hid (fun i (hi : i < ms.length) => cells_i (c := c) hA h8 hv.1 hi)
  have Hln := Lib.hid (fun i (hi : i < ms.length) => cl_len hv.1 hi)
  have Hnr := Lib.hid (show ∀ i, i < ms.length → ∀ t, t < (klA (ms.map (celB l)) i).length → nearP (ceA (klA (ms.map (celB l)) i) t) (-2000) 2000 from fun i hi t ht => by
    rw [cl_at hi] at ht ⊢
    rw [ceA_at ht]
    exact celB_near hv.1 hi (List.getElem_mem _))
  have hm40 : ms.length ≤ 40 := hv.1.2.1
  have Hlen := Lib.hid (show (ms.map (celB l)).length = ms.length by simp)
  have Hv := Lib.hid hv
  clear hjo hA h8 hM hbw hv
  generalize modelP l ms = P at *
  generalize ms.map (celB l) = CL at *
  obtain ⟨m, hmE⟩ : ∃ m, m = ms.length := ⟨_, rfl⟩
  obtain ⟨n, hnE⟩ : ∃ n, n = l.length := ⟨_, rfl⟩
  simp only [← hmE, ← hnE] at Hjo Hbr Hcl Hln Hnr Hlen hm40 ⊢
  clear hmE hnE
  have hx1 : Ext w (w.alloc (.cells #[.slice M m mc] 25)) := (Ext.refl w).alloc _
  have k0 : Blk (w.alloc (.cells #[.slice M m mc] 25)) w.heap.size [.slice M m mc] := Blk.new _ _
  have z0 := k0.at_ 0 rfl
  have hC0 := CelM.start (f := fun _ _ => True) (Ext.refl (w.alloc (.cells #[.slice M m mc] 25))) rfl
  have hB0 := Own.lit (e := 208) (size := 5) ((Ext.refl (w.alloc (.cells #[.slice M m mc] 25))).alloc (.map #[] 0)) #[.slice A n c, .slice M m mc, .slice none 0 0, .map (some (w.heap.size + 1)), .slice none 0 0] 1 (by unfold maxLen; omega) rfl
  have hg2 : ((w.alloc (.cells #[.slice M m mc] 25)).alloc (.map #[] 0)).heap.size = w.heap.size + 1 + 1 := by simp
  have hg1 : (w.alloc (.cells #[.slice M m mc] 25)).heap.size = w.heap.size + 1 := by simp
  have hC1 := hC0.later ((Ext.refl _).alloc (.cells #[.slice A n c, .slice M m mc, .slice none 0 0, .map (some (w.heap.size + 1)), .slice none 0 0] 208))
  rw [hg1] at hC1
  rw [hg2] at hB0
  have hgm : (w.alloc (.cells #[.slice M m mc] 25)).heap.size ≤ w.heap.size + 1 := by omega
  have HC1 := Lib.hid hC1
  have HB1 := Lib.hid hB0
  have Hgm := Lib.hid hgm
  have hmm := @run_makeMap Tryz.prog
  have Hx1 := Lib.hid hx1
  clear hx1 k0 hC0 hB0 hC1 hg1 hg2 hgm
  go_enter Tryz.func95, Tryz.ntmps95
  go_upto_region 2 with (fail)
  obtain ⟨w1, hw1⟩ : ∃ w1, w1 = w.alloc (.cells #[.slice M m mc] 25) := ⟨_, rfl⟩
  rw [← hw1] at HC1 HB1 Hgm Hx1 z0 ⊢
  have hn1 : w.heap.size + 1 ≠ w.heap.size + 1 + 1 := by omega
  generalize w.heap.size + 1 + 1 = gb at *
  generalize w.heap.size + 1 = gm at *
  obtain ⟨w2, hw2⟩ : ∃ w2, w2 = ((w1.alloc (.map #[] 0)).alloc (.cells #[.slice A n c, .slice M m mc, .slice none 0 0, .map (some gm), .slice none 0 0] 208)) := ⟨_, rfl⟩
  rw [← hw2] at HC1 HB1 ⊢
  have h12 := HB1.out.ext
  have z2 := fun w' he => z0 w' (h12.trans he)
  have Z0 := Lib.hid z0
  clear z0 hw2 hmm hw1
  go_wp2_with (go_at_call 138; refine (Hjo.out _ (Hx1.out.trans h12)).mono ?_; rintro e w3 ⟨jA, jn, jc, b, rfl, hb, he3⟩; obtain rfl : b = 0 := hb.2 Hv.out; have hb3 := HB1.out.later he3; have e4 := hb3.cell (j := 4) (by simp); simp only [List.getElem?_cons_succ, List.getElem?_cons_zero] at e4; have f4 := hb3.free 4; have hg3 := grown_set w3 ⟨gb, 4, none⟩ (.slice jA jn jc); have HB3 := Lib.hid (hb3.store 4 (.slice jA jn jc)); have HC3 := Lib.hid ((HC1.out.later he3).kept hg3 (hb3.store 4 (.slice jA jn jc)).ext (by simpa using hn1)); have H3 := Lib.hid (h12.trans he3); have z3 := z2 w3 he3; clear hb he3 hb3 hg3 HB1 HC1 z2 h12)
  clear e4 f4 z3
  obtain ⟨w4, hw4⟩ : ∃ w4, w4 = w3.setCell ⟨gb, 4, none⟩ (.slice jA jn jc) := ⟨_, rfl⟩
  rw [← hw4] at HB3 HC3 ⊢
  simp only [List.set_cons_succ, List.set_cons_zero] at HB3
  clear hw4 H3
  go_loopw [36] (fun i wr => ∃ (k : Nat) (u : Value), k ≤ m ∧ i = .int .i64 k ∧ CelM w1 wr gm (24 * k) (fun _ _ => True) (fun _ => False) ∧ Tab Ce.cells 60 3 79 w1 wr u (CL.take k) ∧ Own w1 wr 208 5 (.slice (some ⟨gb, 0, none⟩) 1 1) 1 [.slice A n c, .slice M m mc, u, .map (some gm), .slice jA jn jc]) (fun i _ => m - (intOf i).toNat)
  case atStart => exact ⟨0, _, by omega, rfl, HC3.out, Tab.nil HB3.out.ext, HB3.out⟩
  case round =>
    clear HC3 HB3
    obtain ⟨wo, rfl⟩ : ∃ wo : World, wo = wr := ⟨_, rfl⟩
    obtain ⟨k, u, hk, rfl, hC, hT, hB⟩ := hrel
    by_cases hlt : k < m
    · have hki : (k : Int) < (m : Int) := by omega
      obtain ⟨am, rfl, x0, x1, x2, x3, x4, x5⟩ := Hbr.out k hlt
      have hex := Hx1.out.trans hB.ext
      have u0 := fun w' he => x0 w' (hex.trans he)
      have u1 := fun w' he => x1 w' (hex.trans he)
      have u2 := fun w' he => x2 w' (hex.trans he)
      have u3 := fun w' he => x3 w' (hex.trans he)
      have u4 := fun w' he => x4 w' (hex.trans he)
      have u5 := fun w' he => x5 w' (hex.trans he)
      have hcl := Hcl.out k hlt
      obtain ⟨hl1, hl2⟩ := Hln.out k hlt
      have hnr := Hnr.out k hlt
      have hKk : k < CL.length := by rw [Hlen.out]; exact hlt
      have Htk := Lib.hid (take_klA hKk)
      obtain ⟨L, hL⟩ : ∃ L, L = (klA CL k).length := ⟨_, rfl⟩
      rw [← hL] at hcl hl1 hl2 hnr
      have HL := Lib.hid hL
      have Hcl2 := Lib.hid hcl
      have Hnr2 := Lib.hid hnr
      have hw1 : IntKind.i64.wrap ((k : Int) + 1) = ((k + 1 : Nat) : Int) := by rw [IntKind.wrap_i64]; omega
      obtain ⟨⟨kind, ⟨ox, oy, oz⟩, trn, col⟩, hbE⟩ : ∃ b, brA ms k = b := ⟨_, rfl⟩
      rw [hbE] at u0 u1 u2 u3 u4 u5 Hcl2
      simp only at u0 u1 u2 u3 u4 u5
      obtain ⟨TA, tc, rfl⟩ := hT.form
      have htl : (CL.take k).length = k := by rw [List.length_take]; omega
      rw [htl] at hT hB
      have HC := Lib.hid hC
      have HT := Lib.hid hT
      have HB := Lib.hid hB
      have Htl := Lib.hid htl
      have z2 := fun w' he => Z0.out w' (hB.ext.trans he)
      clear x0 x1 x2 x3 x4 x5 hcl hnr hL hKk hC hT hB htl hbE
      have hx5 : Ext wo (wo.alloc (.cells #[.int .i64 kind, .int .i64 ox, .int .i64 oy, .int .i64 oz, .int .u8 trn, .int .u8 col] 85)) := (Ext.refl _).alloc _
      have Hx5 := Lib.hid hx5
      have Hex := Lib.hid hex
      have hm40' : k ≤ 40 := by omega
      clear hx5 hex
      go_wp2_with (first
        | (go_at_call 36; refine (Hcl2.out _ (Hex.out.trans Hx5.out)).mono ?_; rintro e w6 ⟨g, cap, rfl, ho6⟩; have hx6 := Hx5.out.trans ho6.ext; have hx7 := hx6.trans ((Ext.refl w6).alloc (.cells #[.slice (some ⟨g, 0, none⟩) L cap] 79)); have b2 := (HB.out.later hx6).cell (j := 2) (by simp); simp only [List.getElem?_cons_succ, List.getElem?_cons_zero] at b2; have j2 := fun w' (he : Ext w6 w') => he.cell b2; have HB7 := Lib.hid (HB.out.later hx7); have HC7 := Lib.hid (HC.out.later hx7); have HT7 := Lib.hid (HT.out.later hx7); have HO7 := Lib.hid ((ho6.since (HB.out.ext.trans Hx5.out)).alloc (.cells #[.slice (some ⟨g, 0, none⟩) L cap] 79)); have Hrw := Lib.hid (Gr.row_alloc w6 #[.slice (some ⟨g, 0, none⟩) L cap] 79); clear ho6 hx6 hx7 b2 HB HC HT u0 u1 u2 u3 u4 u5 z2)
        | (obtain ⟨gs, g1, g2, g3⟩ := HT7.out; rw [Htl.out] at g2; refine Gr.own_append_at cells_elem rfl _ _ 153 rfl Tryz.underlying153 (.slice TA k tc) k _ rfl g2 ⟨w6.heap.size, 0, none⟩ 1 1 [.slice (some ⟨g, 0, none⟩) L cap] rfl rfl Hrw.out (by intro u hu; simp only [List.mem_cons, List.not_mem_nil, or_false] at hu; rcases hu with rfl; rfl) (by omega) (by unfold maxLen; omega) ?_; intro v8 w8 ho8 hg8 hl8; have hbs := (fun j (e : (Value.slice TA k tc).ownBlock = some j) => (g2.2.lt j e).1); have hT8 := (Tab.snoc2 (l := klA CL k) g1 (by rw [Htl.out]; exact g2) g3 (by decide) (by rw [← HL.out]; exact HO7.out) hg8 (by rw [Htl.out, ← HL.out]; exact ho8)); rw [← Htk.out] at hT8; have hB8 := own_grown HB7.out hg8 hbs (own_ne_row HB7.out g2.2 (by decide)); have hC8 := HC7.out.kept hg8 hB8.ext (HC7.out.ne g2); obtain ⟨X8, c8, rfl⟩ := ho8.form; have c2 := hB8.cell (j := 2) (by simp); simp only [List.getElem?_cons_succ, List.getElem?_cons_zero] at c2; have f2 := hB8.free 2; have hg9 := grown_set w8 ⟨gb, 2, none⟩ (.slice X8 (k + 1) c8); have hB9 := hB8.store 2 (.slice X8 (k + 1) c8); have HT9 := Lib.hid (hT8.row (w' := w8.setCell ⟨gb, 2, none⟩ (.slice X8 (k + 1) c8)) hB8 hg9 (by decide) (by decide)); have HC9 := Lib.hid (hC8.kept hg9 hB9.ext (by simpa using hn1)); have HB9 := Lib.hid hB9; have HO9 := Lib.hid (own_grown (own_grown HO7.out hg8 hbs (own_ne_row HO7.out g2.2 (by decide))) hg9 (fun j e => by cases e; exact hB8.ge) (own_ne_row (own_grown HO7.out hg8 hbs (own_ne_row HO7.out g2.2 (by decide))) hB8.2 (by decide))); clear ho8 hg8 hl8 hbs hT8 hB8 hC8 hg9 hB9 g1 g2 g3 HT7 HC7 HB7 HO7 j2))
      obtain ⟨w9, hw9⟩ : ∃ w9, w9 = w8.setCell ⟨gb, 2, none⟩ (.slice X8 (k + 1) c8) := ⟨_, rfl⟩
      rw [← hw9] at HB9 HC9 HT9 HO9 ⊢
      simp only [List.set_cons_succ, List.set_cons_zero] at HB9
      clear hw9 c2 f2
      go_loopw [59] (fun i wr => ∃ t : Nat, t ≤ L ∧ i = .int .i64 t ∧ CelM w1 wr gm (24 * k + t) (fun _ _ => True) (fun _ => False) ∧ Tab Ce.cells 60 3 79 w1 wr (.slice X8 (k + 1) c8) (CL.take (k + 1)) ∧ Own w1 wr 208 5 (.slice (some ⟨gb, 0, none⟩) 1 1) 1 [.slice A n c, .slice (some am) m mc, .slice X8 (k + 1) c8, .map (some gm), .slice jA jn jc] ∧ Own w1 wr 60 3 (.slice (some ⟨g, 0, none⟩) L cap) L ((klA CL k).map Ce.cells).flatten) (fun i _ => L - (intOf i).toNat)
      case atStart => exact ⟨0, by omega, rfl, HC9.out, HT9.out, HB9.out, HO9.out⟩
      case round =>
        clear HC9 HT9 HB9 HO9
        obtain ⟨t, ht, rfl, hC, hT, hB, hO⟩ := hrel
        by_cases hlt2 : t < L
        · have hti : (t : Int) < (L : Int) := by omega
          have hrow : CeRow wr (some ⟨g, 0, none⟩) (klA CL k) := hO.row
          obtain ⟨_, ee, y0, y1, y2⟩ := hrow.at_ (show t < (klA CL k).length by rw [← HL.out]; exact hlt2)
          cases ee
          simp only [add_zero'] at y0 y1 y2
          have hn2 := Hnr2.out t hlt2
          obtain ⟨⟨cx, cy, cz⟩, hcE⟩ : ∃ q, ceA (klA CL k) t = q := ⟨_, rfl⟩
          rw [hcE] at y0 y1 y2 hn2
          simp only at y0 y1 y2
          have Hn5 := Lib.hid (show nearP ⟨cx, cy, cz⟩ (-5000) 5000 by unfold nearP at *; simp only at *; omega)
          have hw2 : IntKind.i64.wrap ((t : Int) + 1) = ((t + 1 : Nat) : Int) := by rw [IntKind.wrap_i64]; omega
          have hx10 : Ext wr (wr.alloc (.cells #[.int .i64 cx, .int .i64 cy, .int .i64 cz] 60)) := (Ext.refl _).alloc _
          have HC10 := Lib.hid (hC.later hx10)
          have HT10 := Lib.hid (hT.later hx10)
          have HB10 := Lib.hid (hB.later hx10)
          have HO10 := Lib.hid (hO.later hx10)
          have k10 : Blk (wr.alloc (.cells #[.int .i64 cx, .int .i64 cy, .int .i64 cz] 60)) wr.heap.size [.int .i64 cx, .int .i64 cy, .int .i64 cz] := Blk.new _ _
          have v0 := k10.at_ 0 rfl
          have v1 := k10.at_ 1 rfl
          have v2 := k10.at_ 2 rfl
          have b3 := (hB.later hx10).cell (j := 3) (by simp)
          simp only [List.getElem?_cons_succ, List.getElem?_cons_zero] at b3
          have v3 := fun w' (he : Ext (wr.alloc (.cells #[.int .i64 cx, .int .i64 cy, .int .i64 cz] 60)) w') => he.cell b3
          clear hC hT hB hO hrow hcE hn2 hx10 k10 b3
          go_wp2
          generalize (wr.alloc (.cells #[.int .i64 cx, .int .i64 cy, .int .i64 cz] 60)) = w10 at *
          refine Cg.wp_region_calm (p := Cg.extPre) (fr := (fun _ => false)) 6 (fun j _ v _ => True) (fun _ _ _ _ _ _ h => h) (by kernel_rfl) (by kernel_rfl) ?_
          simp only [List.take_succ_cons, List.take_zero, List.drop_succ_cons, List.drop_zero]
          refine Cg.calm_quiet Cg.calm_mono_final w10 (fun _ h => h) 1 (by kernel_rfl) ?_
          simp only [List.take_succ_cons, List.take_zero, List.drop_succ_cons, List.drop_zero]
          repeat (go_big_quiet_step (fail))
          refine wpQuiet_nil ?_
          refine Cg.calm_value Cg.calm_mono_final (fun v _ => v = .pointer (some ⟨gb, 0, none⟩)) (fun _ _ _ _ h => h) rfl (fun w' hR _ => ⟨_, w', by go_simp, Ext.refl _, rfl, fun hf => by cases hf⟩) ?_
          rintro _ _ _ rfl _
          simp only [Act.put, List.setIfInBounds_toArray, List.set_cons_succ, List.set_cons_zero]
          refine Cg.calm_quiet Cg.calm_mono_final w10 (fun _ h => h) 4 (by kernel_rfl) ?_
          simp only [List.take_succ_cons, List.take_zero, List.drop_succ_cons, List.drop_zero]
          repeat (go_big_quiet_step (fail))
          refine wpQuiet_nil ?_
          refine Cg.calm_nil fun w11 he11 _ => ?_
          have he11 : Ext w10 w11 := he11
          have HC11 := Lib.hid (HC10.out.later he11)
          have HT11 := Lib.hid (HT10.out.later he11)
          have HB11 := Lib.hid (HB10.out.later he11)
          have HO11 := Lib.hid (HO10.out.later he11)
          clear HC10 HT10 HB10 HO10 he11 v0 v1 v2 v3 y0 y1 y2
          refine CelM.store rfl _ _ _ rfl rfl HC11.out (by omega) ⟨cx, cy, cz⟩ Hn5.out (k : Int) (by omega) (by trivial) rfl rfl ?_
          intro w12 hC12 hg12
          obtain ⟨es, clock, hmap⟩ := HC11.out.isMap
          have HC12 := Lib.hid (hC12.mono (f' := fun _ _ => True) (g' := fun _ => False) (Nat.le_refl _) (fun _ _ h => h) (fun _ h => False.elim h))
          have HT12 := Lib.hid (HT11.out.map hg12 Hgm.out hmap)
          have HB12 := Lib.hid (own_grown HB11.out hg12 (fun k e => (by cases e; exact Hgm.out)) (own_ne_map HB11.out hmap))
          have HO12 := Lib.hid (own_grown HO11.out hg12 (fun k e => (by cases e; exact Hgm.out)) (own_ne_map HO11.out hmap))
          clear hC12 hg12 hmap
          go_wp2
          go_roundw
          case rel => exact ⟨t + 1, by omega, by go_num, HC12.out, HT12.out, HB12.out, HO12.out⟩
          case measure => simp [intOf]; omega
        · obtain rfl : L = t := by omega
          have HC := Lib.hid (hC.mono (show 24 * k + L ≤ 24 * (k + 1) by omega) (fun _ _ h => h) (fun _ h => h))
          have HT := Lib.hid hT
          have HB := Lib.hid hB
          clear hC hT hB hO
          go_wp2
          go_roundw
          case rel => exact ⟨k + 1, _, by omega, by go_num, HC.out, HT.out, HB.out⟩
          case measure => simp [intOf]; omega
    · obtain rfl : m = k := by omega
      have hall : CL.take m = CL := List.take_of_length_le (by rw [Hlen.out]; exact Nat.le_refl _)
      rw [hall] at hT
      have HT := Lib.hid hT
      have HB := Lib.hid hB
      clear hC hT hB hall Hcl Hbr Hnr Hln
      go_wp2
      go_ret2
      have hx := Hx1.out
      have b2 := HB.out.cell (j := 2) (by simp)
      simp only [List.getElem?_cons_succ, List.getElem?_cons_zero] at b2
      exact ⟨_, rfl, ⟨gb, u, rfl, fun w'' he => he.cell b2, HT.out.since hx⟩, hx.trans HB.out.ext⟩
end Go.Proofs.YtebkhdhhajjhfaaGreat.Lt

/- Sets of bricks as words; which choices are right. -/
namespace Go.Proofs.YtebkhdhhajjhfaaGreat.Lt
open Go Go.RowKit
theorem or_pow_lt {S p : Nat} (hS : S < 2 ^ 64) (hp : p < 64) : S ||| 2 ^ p < 2 ^ 64 := Nat.or_lt_two_pow hS (Nat.pow_lt_pow_right (by omega) hp)
set_option maxHeartbeats 1000000 in
theorem with_any (S p : Nat) (w : World) (hS : S < 2 ^ 64) (hp : p < 64) : Calls Tryz.prog 64 #[.int .u64 S, .int .i64 p] w fun e w' => e = .returned (.int .u64 ((S ||| 2 ^ p : Nat) : Int)) ∧ w = w' := by
  have hpp : 2 ^ p < 2 ^ 64 := Nat.pow_lt_pow_right (by omega) hp
  have h0 : IntKind.u64.wrap (2 ^ p) = ((2 ^ p : Nat) : Int) := by
    have : ((2 : Int) ^ p) = ((2 ^ p : Nat) : Int) := by norm_cast
    rw [this, IntKind.wrap_u64]
    clear this
    generalize 2 ^ p = q at *
    omega
  have h1 : bits .or .u64 (S : Int) (IntKind.u64.wrap (2 ^ p)) = ((S ||| 2 ^ p : Nat) : Int) := by
    rw [h0]
    exact bits_or_u64_nat S (2 ^ p) hS hpp
  clear h0 hpp
  go_enter Tryz.func64, Tryz.ntmps64
  go_wp2
  go_ret
  exact ⟨rfl, rfl⟩
set_option maxHeartbeats 1000000 in
theorem has_any (S p : Nat) (w : World) (hS : S < 2 ^ 64) (hp : p < 64) : Calls Tryz.prog 29 #[.int .u64 S, .int .i64 p] w fun e w' => e = .returned (.bool (S.testBit p)) ∧ w = w' := by
  have h0 : ((S : Int) / 2 ^ p) = ((S / 2 ^ p : Nat) : Int) := by norm_cast
  have h1 : bits .and .u64 ((S : Int) / 2 ^ p) 1 = ((S / 2 ^ p % 2 : Nat) : Int) := by
    rw [h0]
    have h2 : S / 2 ^ p ≤ S := Nat.div_le_self _ _
    have := bits_and_u64_nat (S / 2 ^ p) 1 (Nat.lt_of_le_of_lt h2 hS) (by omega)
    rw [Nat.and_one_is_mod] at this
    exact this
  have h3 : S.testBit p = (((S / 2 ^ p % 2 : Nat) : Int) == 1) := by
    rw [Nat.testBit_eq_decide_div_mod_eq]
    have := Nat.mod_two_eq_zero_or_one (S / 2 ^ p)
    rcases this with h | h <;> rw [h] <;> rfl
  rw [h3]
  clear h0 h3
  go_enter Tryz.func29, Tryz.ntmps29
  go_wp2
  go_ret
  exact ⟨rfl, rfl⟩
/-- A right choice of n things: in order, each once. -/
def chosenP (c : List Int) (n : Nat) (k : Nat) : Prop := ∀ j, j < k → (0 ≤ getI c j ∧ getI c j < n) ∧ (0 < j → getI c (j - 1) < getI c j)
theorem chosenP_step {c : List Int} {n k : Nat} (h : chosenP c n k) (h1 : 0 ≤ getI c k ∧ getI c k < n) (h2 : 0 < k → getI c (k - 1) < getI c k) : chosenP c n (k + 1) := fun j hj => by
  by_cases e : j = k
  · rw [e]; exact ⟨h1, h2⟩
  · exact h j (by omega)
set_option maxHeartbeats 2000000 in
theorem chosen_any (c : List Int) (A : Option Addr) (cc : Nat) (n : Nat) (w : World) (hA : Ints w A c) (hl : c.length ≤ 1000000) : Calls Tryz.prog 96 #[.slice A c.length cc, .int .i64 n] w (TellB (chosenP c n c.length) w) := by
  have Ha := Lib.hid (fun (hk : 0 < c.length) => hA.some_ hk)
  have Hno := Lib.hid (show ∀ k, k < c.length → ¬ ((0 ≤ getI c k ∧ getI c k < n) ∧ (0 < k → getI c (k - 1) < getI c k)) → (false = true ↔ chosenP c n c.length) from fun k hk h => ⟨fun e => (by cases e), fun hp => absurd (hp k hk) h⟩)
  clear hA
  obtain ⟨L, hL⟩ : ∃ L, L = c.length := ⟨_, rfl⟩
  rw [← hL] at Ha Hno hl ⊢
  clear hL
  generalize hPE : chosenP c n L = P at *
  have HPE := Lib.hid hPE
  clear hPE
  go_enter Tryz.func96, Tryz.ntmps96
  go_wp2
  go_loopw [9] (fun i wr => ∃ k : Nat, k ≤ L ∧ i = .int .i64 k ∧ Ext w wr ∧ Hid (chosenP c n k)) (fun i _ => L - (intOf i).toNat)
  case atStart => exact ⟨0, by omega, rfl, Ext.refl _, Lib.hid (fun j h => absurd h (by omega))⟩
  case round =>
    obtain ⟨k, hk, rfl, hex, Hall⟩ := hrel
    by_cases hlt : k < L
    · obtain ⟨ad, rfl, hc⟩ := Ha.out (by omega)
      have c0 := fun w' he => hc k hlt w' (hex.trans he)
      have Hk := Lib.hid (Hno.out k hlt)
      have Hst := Lib.hid (fun h1 h2 => chosenP_step (k := k) Hall.out h1 h2)
      have hki : (k : Int) < (L : Int) := by omega
      by_cases h3 : 0 < k
      · have c1 := fun w' he => hc (k - 1) (by omega) w' (hex.trans he)
        have hw : IntKind.i64.wrap ((k : Int) - 1) = ((k - 1 : Nat) : Int) := by rw [IntKind.wrap_i64]; omega
        clear hc Ha Hno Hall
        generalize getI c k = x at *
        generalize getI c (k - 1) = y at *
        have hki3 : ((k : Nat) : Int) > 0 := by omega
        have hkl : ((k - 1 : Nat) : Int) < (L : Int) := by omega
        have hw1 : IntKind.i64.wrap ((k : Int) + 1) = ((k + 1 : Nat) : Int) := by rw [IntKind.wrap_i64]; omega
        by_cases h0 : x < 0
        · go_wp2
          go_ret
          exact tellB (Hk.out (by omega)) hex
        · by_cases h1 : x ≥ (n : Int)
          · go_wp2
            go_ret
            exact tellB (Hk.out (by omega)) hex
          · by_cases h2 : x ≤ y
            · go_wp2
              go_ret
              exact tellB (Hk.out (by omega)) hex
            · go_wp2
              go_roundw
              case rel => exact ⟨k + 1, by omega, by go_num, hex, Lib.hid (Hst.out (by omega) (by omega))⟩
              case measure => simp [intOf]; omega
      · obtain rfl : k = 0 := by omega
        simp only [add_zero_] at c0
        clear hc Ha Hno Hall
        generalize getI c 0 = x at *
        by_cases h0 : x < 0
        · go_wp2
          go_ret
          exact tellB (Hk.out (by omega)) hex
        · by_cases h1 : x ≥ (n : Int)
          · go_wp2
            go_ret
            exact tellB (Hk.out (by omega)) hex
          · go_wp2
            go_roundw
            case rel => exact ⟨1, by omega, by go_num, hex, Lib.hid (Hst.out (by omega) (by omega))⟩
            case measure => simp [intOf]; omega
    · obtain rfl : L = k := by omega
      go_wp2
      go_ret
      exact tellB ⟨fun _ => (by rw [← HPE.out]; exact Hall.out), fun _ => rfl⟩ hex
end Go.Proofs.YtebkhdhhajjhfaaGreat.Lt

/- The choice as a set. -/
namespace Go.Proofs.YtebkhdhhajjhfaaGreat.Lt
open Go Go.RowKit
/-- The word holds the first k of the choice. -/
def SetOf (c : List Int) (k S : Nat) : Prop := S < 2 ^ 64 ∧ ∀ p, p < 64 → (S.testBit p = true ↔ ∃ j, j < k ∧ getI c j = (p : Int))
theorem SetOf.zero (c : List Int) : SetOf c 0 0 := ⟨by omega, fun p _ => by simp⟩
theorem SetOf.step {c : List Int} {k S x : Nat} (h : SetOf c k S) (hx : getI c k = (x : Int)) (h64 : x < 64) : SetOf c (k + 1) (S ||| 2 ^ x) := by
  refine ⟨or_pow_lt h.1 h64, fun p hp => ?_⟩
  rw [Nat.testBit_or, Bool.or_eq_true, h.2 p hp, Nat.testBit_two_pow, decide_eq_true_eq]
  constructor
  · rintro (⟨j, h1, h2⟩ | rfl)
    · exact ⟨j, by omega, h2⟩
    · exact ⟨k, by omega, hx⟩
  · rintro ⟨j, h1, h2⟩
    by_cases e : j = k
    · subst e
      exact .inr (by omega)
    · exact .inl ⟨j, by omega, h2⟩
def SetRes (c : List Int) (n : Nat) (w : World) (e : Ending) (w' : World) : Prop := ∃ (S : Nat) (b : Bool), e = .returned (.tuple #[.int .u64 S, .bool b]) ∧ (b = true ↔ chosenP c n c.length) ∧ (b = true → SetOf c c.length S) ∧ S < 2 ^ 64 ∧ Ext w w'
set_option maxHeartbeats 2000000 in
theorem chosenS_any (c : List Int) (A : Option Addr) (cc : Nat) (n : Nat) (w : World) (hA : Ints w A c) (hl : c.length ≤ 1000000) (hn : n ≤ 60) : Calls Tryz.prog 28 #[.slice A c.length cc, .int .i64 n] w (SetRes c n w) := by
  have Ha := Lib.hid (fun (hk : 0 < c.length) => hA.some_ hk)
  have Hno := Lib.hid (show ∀ k, k < c.length → ¬ ((0 ≤ getI c k ∧ getI c k < n) ∧ (0 < k → getI c (k - 1) < getI c k)) → ∀ w', Ext w w' → SetRes c n w (.returned (.tuple #[.int .u64 0, .bool false])) w' from fun k hk h w' he => ⟨0, false, rfl, ⟨fun e => (by cases e), fun hp => absurd (hp k hk) h⟩, fun e => (by cases e), by omega, he⟩)
  have Hyes := Lib.hid (show ∀ S : Nat, chosenP c n c.length → SetOf c c.length S → ∀ w', Ext w w' → SetRes c n w (.returned (.tuple #[.int .u64 S, .bool true])) w' from fun S hp hs w' he => ⟨S, true, rfl, ⟨fun _ => hp, fun _ => rfl⟩, fun _ => hs, hs.1, he⟩)
  clear hA
  obtain ⟨L, hL⟩ : ∃ L, L = c.length := ⟨_, rfl⟩
  generalize SetRes c n w = R at *
  rw [← hL] at Ha Hno Hyes hl ⊢
  clear hL
  go_enter Tryz.func28, Tryz.ntmps28
  go_wp2
  go_loopw [11, 6] (fun i s wr => ∃ k S : Nat, k ≤ L ∧ i = .int .i64 k ∧ s = .int .u64 S ∧ Ext w wr ∧ Hid (chosenP c n k) ∧ Hid (SetOf c k S)) (fun i _ _ => L - (intOf i).toNat)
  case atStart => exact ⟨0, 0, by omega, rfl, rfl, Ext.refl _, Lib.hid (fun j h => absurd h (by omega)), Lib.hid (SetOf.zero c)⟩
  case round =>
    obtain ⟨k, S, hk, rfl, rfl, hex, Hall, HS⟩ := hrel
    by_cases hlt : k < L
    · obtain ⟨ad, rfl, hc⟩ := Ha.out (by omega)
      have c0 := fun w' he => hc k hlt w' (hex.trans he)
      have Hk := Lib.hid (Hno.out k hlt)
      have Hst := Lib.hid (fun h1 h2 => chosenP_step (k := k) Hall.out h1 h2)
      have Hss := Lib.hid (fun x hx h64 => HS.out.step (x := x) hx h64)
      have hS64 := HS.out.1
      have HS64 := Lib.hid hS64
      have hki : (k : Int) < (L : Int) := by omega
      by_cases h3 : 0 < k
      · have c1 := fun w' he => hc (k - 1) (by omega) w' (hex.trans he)
        have hw : IntKind.i64.wrap ((k : Int) - 1) = ((k - 1 : Nat) : Int) := by rw [IntKind.wrap_i64]; omega
        clear hc Ha Hno Hall HS hS64
        generalize getI c k = x at *
        generalize getI c (k - 1) = y at *
        have hki3 : ((k : Nat) : Int) > 0 := by omega
        have hkl : ((k - 1 : Nat) : Int) < (L : Int) := by omega
        have hw1 : IntKind.i64.wrap ((k : Int) + 1) = ((k + 1 : Nat) : Int) := by rw [IntKind.wrap_i64]; omega
        by_cases h0 : x < 0
        · go_wp2
          exact Hk.out (by omega) _ hex
        · by_cases h1 : x ≥ (n : Int)
          · go_wp2
            exact Hk.out (by omega) _ hex
          · by_cases h2 : x ≤ y
            · go_wp2
              exact Hk.out (by omega) _ hex
            · obtain ⟨xn, rfl⟩ : ∃ xn : Nat, x = xn := ⟨x.toNat, by omega⟩
              go_wp2_with (go_at_call 64; refine (with_any S xn wr HS64.out (by omega)).mono ?_; rintro e w2 ⟨rfl, rfl⟩)
              go_roundw
              case rel => exact ⟨k + 1, _, by omega, by go_num, rfl, hex, Lib.hid (Hst.out (by omega) (by omega)), Lib.hid (Hss.out xn rfl (by omega))⟩
              case measure => simp [intOf]; omega
      · obtain rfl : k = 0 := by omega
        simp only [add_zero_] at c0
        clear hc Ha Hno Hall HS hS64
        generalize getI c 0 = x at *
        by_cases h0 : x < 0
        · go_wp2
          exact Hk.out (by omega) _ hex
        · by_cases h1 : x ≥ (n : Int)
          · go_wp2
            exact Hk.out (by omega) _ hex
          · obtain ⟨xn, rfl⟩ : ∃ xn : Nat, x = xn := ⟨x.toNat, by omega⟩
            go_wp2_with (go_at_call 64; refine (with_any S xn wr HS64.out (by omega)).mono ?_; rintro e w2 ⟨rfl, rfl⟩)
            go_roundw
            case rel => exact ⟨1, _, by omega, by go_num, rfl, hex, Lib.hid (Hst.out (by omega) (by omega)), Lib.hid (Hss.out xn rfl (by omega))⟩
            case measure => simp [intOf]; omega
    · obtain rfl : L = k := by omega
      go_wp2
      exact Hyes.out _ Hall.out HS.out _ hex
end Go.Proofs.YtebkhdhhajjhfaaGreat.Lt

/- The reference's test of a choice. -/
namespace Go.Proofs.YtebkhdhhajjhfaaGreat.Lt
open Go Go.RowKit
theorem withinr_any (x a b : Int) (w : World) : Calls Tryz.prog 32 #[.int .i64 x, .int .i64 a, .int .i64 b] w fun e w' => e = .returned (.bool (decide (a ≤ x ∧ x ≤ b))) ∧ Ext w w' := by
  go_enter Tryz.func32, Tryz.ntmps32
  by_cases h1 : x ≥ a
  · by_cases h2 : x ≤ b
    · go_wp2
      go_ret
      exact ⟨ret_b (by simp; omega), Ext.refl _⟩
    · go_wp2
      go_ret
      exact ⟨ret_b (by simp; omega), Ext.refl _⟩
  · go_wp2
    go_ret
    exact ⟨ret_b (by simp; omega), Ext.refl _⟩
set_option maxRecDepth 100000 in
set_option maxHeartbeats 4000000 in
theorem chosenr_any (c : List Int) (A : Option Addr) (cc : Nat) (n : Nat) (w : World) (hA : Ints w A c) (hl : c.length ≤ 1000000) (hn : n ≤ 1000) : Calls Tryz.prog 11 #[.slice A c.length cc, .int .i64 n] w (TellB (chosenP c n c.length) w) := by
  have Ha := Lib.hid (fun (hk : 0 < c.length) => hA.some_ hk)
  have Hno := Lib.hid (show ∀ k, k < c.length → ¬ ((0 ≤ getI c k ∧ getI c k < n) ∧ (0 < k → getI c (k - 1) < getI c k)) → (false = true ↔ chosenP c n c.length) from fun k hk h => ⟨fun e => (by cases e), fun hp => absurd (hp k hk) h⟩)
  clear hA
  obtain ⟨L, hL⟩ : ∃ L, L = c.length := ⟨_, rfl⟩
  rw [← hL] at Ha Hno hl ⊢
  clear hL
  generalize hPE : chosenP c n L = P at *
  have HPE := Lib.hid hPE
  clear hPE
  go_enter Tryz.func11, Tryz.ntmps11
  go_wp2
  go_loopw [5] (fun i wr => ∃ k : Nat, k ≤ L ∧ i = .int .i64 k ∧ Ext w wr ∧ Hid (chosenP c n k)) (fun i _ => L - (intOf i).toNat)
  case atStart => exact ⟨0, by omega, rfl, Ext.refl _, Lib.hid (fun j h => absurd h (by omega))⟩
  case round =>
    obtain ⟨k, hk, rfl, hex, Hall⟩ := hrel
    by_cases hlt : k < L
    · obtain ⟨ad, rfl, hc⟩ := Ha.out (by omega)
      have c0 := fun w' he => hc k hlt w' (hex.trans he)
      have Hk := Lib.hid (Hno.out k hlt)
      have Hst := Lib.hid (fun h1 h2 => chosenP_step (k := k) Hall.out h1 h2)
      have hki : (k : Int) < (L : Int) := by omega
      have hw0 : IntKind.i64.wrap ((n : Int) - 1) = (n : Int) - 1 := by rw [IntKind.wrap_i64]; omega
      have hw1 : IntKind.i64.wrap ((k : Int) + 1) = ((k + 1 : Nat) : Int) := by rw [IntKind.wrap_i64]; omega
      by_cases h3 : 0 < k
      · have c1 := fun w' he => hc (k - 1) (by omega) w' (hex.trans he)
        have hw : IntKind.i64.wrap ((k : Int) - 1) = ((k - 1 : Nat) : Int) := by rw [IntKind.wrap_i64]; omega
        clear hc Ha Hno Hall
        generalize getI c k = x at *
        generalize getI c (k - 1) = y at *
        have hki3 : ((k : Nat) : Int) > 0 := by omega
        have hkl : ((k - 1 : Nat) : Int) < (L : Int) := by omega
        have hwi := fun w' => withinr_any x 0 ((n : Int) - 1) w'
        by_cases h0 : 0 ≤ x ∧ x ≤ (n : Int) - 1
        · rw [decide_eq_true h0] at hwi
          have Hwi := Lib.hid hwi
          clear hwi
          have H0 := Lib.hid h0
          clear h0
          by_cases h2 : x ≤ y
          · go_wp2
            refine Cg.wp_region_calm (p := Cg.extPre) (fr := (fun _ => false)) 24 (fun j _ v _ => (j = 6 → v = .bool true)) (fun _ _ _ _ _ _ h => h) (by kernel_rfl) (by kernel_rfl) ?_
            simp only [List.take_succ_cons, List.take_zero, List.drop_succ_cons, List.drop_zero]
            refine Cg.calm_quiet Cg.calm_mono_final wr (fun _ h => h) 6 (by kernel_rfl) ?_
            simp only [List.take_succ_cons, List.take_zero, List.drop_succ_cons, List.drop_zero]
            repeat (go_big_quiet_step (fail))
            refine wpQuiet_nil ?_
            refine Cg.calm_call Cg.calm_mono_final 32 #[.int .i64 x, .int .i64 0, .int .i64 (n - 1)] rfl (fun w => ?_) (fun w he hF => ?_) ?_
            · go_simp
            · exact (Hwi.out w).mono fun e w'' ⟨he', hx⟩ => ⟨_, he', hx, fun _ => rfl, fun h => by cases h⟩
            rintro _ _ _ h _
            cases h rfl
            simp only [Act.put, List.setIfInBounds_toArray, List.set_cons_succ, List.set_cons_zero]
            refine Cg.calm_quiet Cg.calm_mono_final wr (fun _ h => h) 15 (by kernel_rfl) ?_
            simp only [List.take_succ_cons, List.take_zero, List.drop_succ_cons, List.drop_zero]
            repeat (go_big_quiet_step (fail))
            refine wpQuiet_nil ?_
            refine Cg.calm_value Cg.calm_mono_final (fun v _ => v = .bool true) (fun _ _ _ _ h => h) rfl (fun w' hR _ => ⟨_, w', by go_simp, Ext.refl _, rfl, fun hf => by cases hf⟩) ?_
            rintro _ _ _ rfl _
            simp only [Act.put, List.setIfInBounds_toArray, List.set_cons_succ, List.set_cons_zero]
            refine Cg.calm_value Cg.calm_mono_final (fun v _ => v = .bool true) (fun _ _ _ _ h => h) rfl (fun w' hR _ => ⟨_, w', by go_simp, Ext.refl _, rfl, fun hf => by cases hf⟩) ?_
            rintro _ _ _ rfl _
            simp only [Act.put, List.setIfInBounds_toArray, List.set_cons_succ, List.set_cons_zero]
            refine Cg.calm_nil fun w3 he3 _ => ?_
            have he3 : Ext wr w3 := he3
            go_wp2
            go_ret
            exact tellB (Hk.out (by have := H0.out; omega)) (hex.trans he3)
          · go_wp2
            refine Cg.wp_region_calm (p := Cg.extPre) (fr := (fun _ => false)) 24 (fun j _ v _ => (j = 6 → v = .bool true)) (fun _ _ _ _ _ _ h => h) (by kernel_rfl) (by kernel_rfl) ?_
            simp only [List.take_succ_cons, List.take_zero, List.drop_succ_cons, List.drop_zero]
            refine Cg.calm_quiet Cg.calm_mono_final wr (fun _ h => h) 6 (by kernel_rfl) ?_
            simp only [List.take_succ_cons, List.take_zero, List.drop_succ_cons, List.drop_zero]
            repeat (go_big_quiet_step (fail))
            refine wpQuiet_nil ?_
            refine Cg.calm_call Cg.calm_mono_final 32 #[.int .i64 x, .int .i64 0, .int .i64 (n - 1)] rfl (fun w => ?_) (fun w he hF => ?_) ?_
            · go_simp
            · exact (Hwi.out w).mono fun e w'' ⟨he', hx⟩ => ⟨_, he', hx, fun _ => rfl, fun h => by cases h⟩
            rintro _ _ _ h _
            cases h rfl
            simp only [Act.put, List.setIfInBounds_toArray, List.set_cons_succ, List.set_cons_zero]
            refine Cg.calm_quiet Cg.calm_mono_final wr (fun _ h => h) 15 (by kernel_rfl) ?_
            simp only [List.take_succ_cons, List.take_zero, List.drop_succ_cons, List.drop_zero]
            repeat (go_big_quiet_step (fail))
            refine wpQuiet_nil ?_
            refine Cg.calm_value Cg.calm_mono_final (fun v _ => v = .bool false) (fun _ _ _ _ h => h) rfl (fun w' hR _ => ⟨_, w', by go_simp, Ext.refl _, rfl, fun hf => by cases hf⟩) ?_
            rintro _ _ _ rfl _
            simp only [Act.put, List.setIfInBounds_toArray, List.set_cons_succ, List.set_cons_zero]
            refine Cg.calm_value Cg.calm_mono_final (fun v _ => v = .bool false) (fun _ _ _ _ h => h) rfl (fun w' hR _ => ⟨_, w', by go_simp, Ext.refl _, rfl, fun hf => by cases hf⟩) ?_
            rintro _ _ _ rfl _
            simp only [Act.put, List.setIfInBounds_toArray, List.set_cons_succ, List.set_cons_zero]
            refine Cg.calm_nil fun w3 he3 _ => ?_
            have he3 : Ext wr w3 := he3
            go_wp2
            go_roundw
            case rel => exact ⟨k + 1, by omega, by go_num, hex.trans he3, Lib.hid (Hst.out (by have := H0.out; omega) (by omega))⟩
            case measure => simp [intOf]; omega
        · rw [decide_eq_false h0] at hwi
          have Hwi := Lib.hid hwi
          clear hwi
          have H0 := Lib.hid h0
          clear h0
          go_wp2
          refine Cg.wp_region_calm (p := Cg.extPre) (fr := (fun _ => false)) 24 (fun j _ v _ => (j = 6 → v = .bool false)) (fun _ _ _ _ _ _ h => h) (by kernel_rfl) (by kernel_rfl) ?_
          simp only [List.take_succ_cons, List.take_zero, List.drop_succ_cons, List.drop_zero]
          refine Cg.calm_quiet Cg.calm_mono_final wr (fun _ h => h) 6 (by kernel_rfl) ?_
          simp only [List.take_succ_cons, List.take_zero, List.drop_succ_cons, List.drop_zero]
          repeat (go_big_quiet_step (fail))
          refine wpQuiet_nil ?_
          refine Cg.calm_call Cg.calm_mono_final 32 #[.int .i64 x, .int .i64 0, .int .i64 (n - 1)] rfl (fun w => ?_) (fun w he hF => ?_) ?_
          · go_simp
          · exact (Hwi.out w).mono fun e w'' ⟨he', hx⟩ => ⟨_, he', hx, fun _ => rfl, fun h => by cases h⟩
          rintro _ _ _ h _
          cases h rfl
          simp only [Act.put, List.setIfInBounds_toArray, List.set_cons_succ, List.set_cons_zero]
          refine Cg.calm_quiet Cg.calm_mono_final wr (fun _ h => h) 2 (by kernel_rfl) ?_
          simp only [List.take_succ_cons, List.take_zero, List.drop_succ_cons, List.drop_zero]
          repeat (go_big_quiet_step (fail))
          refine wpQuiet_nil ?_
          refine Cg.calm_skip (by kernel_rfl) ?_
          simp only [Act.put, List.setIfInBounds_toArray, List.set_cons_succ, List.set_cons_zero]
          refine Cg.calm_skip (by kernel_rfl) ?_
          simp only [Act.put, List.setIfInBounds_toArray, List.set_cons_succ, List.set_cons_zero]
          refine Cg.calm_skip (by kernel_rfl) ?_
          simp only [Act.put, List.setIfInBounds_toArray, List.set_cons_succ, List.set_cons_zero]
          refine Cg.calm_skip (by kernel_rfl) ?_
          simp only [Act.put, List.setIfInBounds_toArray, List.set_cons_succ, List.set_cons_zero]
          refine Cg.calm_skip (by kernel_rfl) ?_
          simp only [Act.put, List.setIfInBounds_toArray, List.set_cons_succ, List.set_cons_zero]
          refine Cg.calm_skip (by kernel_rfl) ?_
          simp only [Act.put, List.setIfInBounds_toArray, List.set_cons_succ, List.set_cons_zero]
          refine Cg.calm_skip (by kernel_rfl) ?_
          simp only [Act.put, List.setIfInBounds_toArray, List.set_cons_succ, List.set_cons_zero]
          refine Cg.calm_skip (by kernel_rfl) ?_
          simp only [Act.put, List.setIfInBounds_toArray, List.set_cons_succ, List.set_cons_zero]
          refine Cg.calm_skip (by kernel_rfl) ?_
          simp only [Act.put, List.setIfInBounds_toArray, List.set_cons_succ, List.set_cons_zero]
          refine Cg.calm_skip (by kernel_rfl) ?_
          simp only [Act.put, List.setIfInBounds_toArray, List.set_cons_succ, List.set_cons_zero]
          refine Cg.calm_skip (by kernel_rfl) ?_
          simp only [Act.put, List.setIfInBounds_toArray, List.set_cons_succ, List.set_cons_zero]
          refine Cg.calm_skip (by kernel_rfl) ?_
          simp only [Act.put, List.setIfInBounds_toArray, List.set_cons_succ, List.set_cons_zero]
          refine Cg.calm_skip (by kernel_rfl) ?_
          simp only [Act.put, List.setIfInBounds_toArray, List.set_cons_succ, List.set_cons_zero]
          refine Cg.calm_skip (by kernel_rfl) ?_
          simp only [Act.put, List.setIfInBounds_toArray, List.set_cons_succ, List.set_cons_zero]
          refine Cg.calm_value Cg.calm_mono_final (fun v _ => v = .bool true) (fun _ _ _ _ h => h) rfl (fun w' hR _ => ⟨_, w', by go_simp, Ext.refl _, rfl, fun hf => by cases hf⟩) ?_
          rintro _ _ _ rfl _
          simp only [Act.put, List.setIfInBounds_toArray, List.set_cons_succ, List.set_cons_zero]
          refine Cg.calm_nil fun w3 he3 _ => ?_
          have he3 : Ext wr w3 := he3
          go_wp2
          go_ret
          exact tellB (Hk.out (by have := H0.out; omega)) (hex.trans he3)
      · obtain rfl : k = 0 := by omega
        simp only [add_zero_] at c0
        clear hc Ha Hno Hall
        generalize getI c 0 = x at *
        have hwi := fun w' => withinr_any x 0 ((n : Int) - 1) w'
        by_cases h0 : 0 ≤ x ∧ x ≤ (n : Int) - 1
        · rw [decide_eq_true h0] at hwi
          have Hwi := Lib.hid hwi
          clear hwi
          have H0 := Lib.hid h0
          clear h0
          go_wp2
          refine Cg.wp_region_calm (p := Cg.extPre) (fr := (fun _ => false)) 24 (fun j _ v _ => (j = 6 → v = .bool true)) (fun _ _ _ _ _ _ h => h) (by kernel_rfl) (by kernel_rfl) ?_
          simp only [List.take_succ_cons, List.take_zero, List.drop_succ_cons, List.drop_zero]
          refine Cg.calm_quiet Cg.calm_mono_final wr (fun _ h => h) 6 (by kernel_rfl) ?_
          simp only [List.take_succ_cons, List.take_zero, List.drop_succ_cons, List.drop_zero]
          repeat (go_big_quiet_step (fail))
          refine wpQuiet_nil ?_
          refine Cg.calm_call Cg.calm_mono_final 32 #[.int .i64 x, .int .i64 0, .int .i64 (n - 1)] rfl (fun w => ?_) (fun w he hF => ?_) ?_
          · go_simp
          · exact (Hwi.out w).mono fun e w'' ⟨he', hx⟩ => ⟨_, he', hx, fun _ => rfl, fun h => by cases h⟩
          rintro _ _ _ h _
          cases h rfl
          simp only [Act.put, List.setIfInBounds_toArray, List.set_cons_succ, List.set_cons_zero]
          refine Cg.calm_quiet Cg.calm_mono_final wr (fun _ h => h) 5 (by kernel_rfl) ?_
          simp only [List.take_succ_cons, List.take_zero, List.drop_succ_cons, List.drop_zero]
          repeat (go_big_quiet_step (fail))
          refine wpQuiet_nil ?_
          refine Cg.calm_skip (by kernel_rfl) ?_
          simp only [Act.put, List.setIfInBounds_toArray, List.set_cons_succ, List.set_cons_zero]
          refine Cg.calm_skip (by kernel_rfl) ?_
          simp only [Act.put, List.setIfInBounds_toArray, List.set_cons_succ, List.set_cons_zero]
          refine Cg.calm_skip (by kernel_rfl) ?_
          simp only [Act.put, List.setIfInBounds_toArray, List.set_cons_succ, List.set_cons_zero]
          refine Cg.calm_skip (by kernel_rfl) ?_
          simp only [Act.put, List.setIfInBounds_toArray, List.set_cons_succ, List.set_cons_zero]
          refine Cg.calm_skip (by kernel_rfl) ?_
          simp only [Act.put, List.setIfInBounds_toArray, List.set_cons_succ, List.set_cons_zero]
          refine Cg.calm_skip (by kernel_rfl) ?_
          simp only [Act.put, List.setIfInBounds_toArray, List.set_cons_succ, List.set_cons_zero]
          refine Cg.calm_skip (by kernel_rfl) ?_
          simp only [Act.put, List.setIfInBounds_toArray, List.set_cons_succ, List.set_cons_zero]
          refine Cg.calm_skip (by kernel_rfl) ?_
          simp only [Act.put, List.setIfInBounds_toArray, List.set_cons_succ, List.set_cons_zero]
          refine Cg.calm_skip (by kernel_rfl) ?_
          simp only [Act.put, List.setIfInBounds_toArray, List.set_cons_succ, List.set_cons_zero]
          refine Cg.calm_skip (by kernel_rfl) ?_
          simp only [Act.put, List.setIfInBounds_toArray, List.set_cons_succ, List.set_cons_zero]
          refine Cg.calm_value Cg.calm_mono_final (fun v _ => v = .bool false) (fun _ _ _ _ h => h) rfl (fun w' hR _ => ⟨_, w', by go_simp, Ext.refl _, rfl, fun hf => by cases hf⟩) ?_
          rintro _ _ _ rfl _
          simp only [Act.put, List.setIfInBounds_toArray, List.set_cons_succ, List.set_cons_zero]
          refine Cg.calm_value Cg.calm_mono_final (fun v _ => v = .bool false) (fun _ _ _ _ h => h) rfl (fun w' hR _ => ⟨_, w', by go_simp, Ext.refl _, rfl, fun hf => by cases hf⟩) ?_
          rintro _ _ _ rfl _
          simp only [Act.put, List.setIfInBounds_toArray, List.set_cons_succ, List.set_cons_zero]
          refine Cg.calm_nil fun w3 he3 _ => ?_
          have he3 : Ext wr w3 := he3
          go_wp2
          go_roundw
          case rel => exact ⟨1, by omega, by go_num, hex.trans he3, Lib.hid (Hst.out (by have := H0.out; omega) (by omega))⟩
          case measure => simp [intOf]; omega
        · rw [decide_eq_false h0] at hwi
          have Hwi := Lib.hid hwi
          clear hwi
          have H0 := Lib.hid h0
          clear h0
          go_wp2
          refine Cg.wp_region_calm (p := Cg.extPre) (fr := (fun _ => false)) 24 (fun j _ v _ => (j = 6 → v = .bool false)) (fun _ _ _ _ _ _ h => h) (by kernel_rfl) (by kernel_rfl) ?_
          simp only [List.take_succ_cons, List.take_zero, List.drop_succ_cons, List.drop_zero]
          refine Cg.calm_quiet Cg.calm_mono_final wr (fun _ h => h) 6 (by kernel_rfl) ?_
          simp only [List.take_succ_cons, List.take_zero, List.drop_succ_cons, List.drop_zero]
          repeat (go_big_quiet_step (fail))
          refine wpQuiet_nil ?_
          refine Cg.calm_call Cg.calm_mono_final 32 #[.int .i64 x, .int .i64 0, .int .i64 (n - 1)] rfl (fun w => ?_) (fun w he hF => ?_) ?_
          · go_simp
          · exact (Hwi.out w).mono fun e w'' ⟨he', hx⟩ => ⟨_, he', hx, fun _ => rfl, fun h => by cases h⟩
          rintro _ _ _ h _
          cases h rfl
          simp only [Act.put, List.setIfInBounds_toArray, List.set_cons_succ, List.set_cons_zero]
          refine Cg.calm_quiet Cg.calm_mono_final wr (fun _ h => h) 2 (by kernel_rfl) ?_
          simp only [List.take_succ_cons, List.take_zero, List.drop_succ_cons, List.drop_zero]
          repeat (go_big_quiet_step (fail))
          refine wpQuiet_nil ?_
          refine Cg.calm_skip (by kernel_rfl) ?_
          simp only [Act.put, List.setIfInBounds_toArray, List.set_cons_succ, List.set_cons_zero]
          refine Cg.calm_skip (by kernel_rfl) ?_
          simp only [Act.put, List.setIfInBounds_toArray, List.set_cons_succ, List.set_cons_zero]
          refine Cg.calm_skip (by kernel_rfl) ?_
          simp only [Act.put, List.setIfInBounds_toArray, List.set_cons_succ, List.set_cons_zero]
          refine Cg.calm_skip (by kernel_rfl) ?_
          simp only [Act.put, List.setIfInBounds_toArray, List.set_cons_succ, List.set_cons_zero]
          refine Cg.calm_skip (by kernel_rfl) ?_
          simp only [Act.put, List.setIfInBounds_toArray, List.set_cons_succ, List.set_cons_zero]
          refine Cg.calm_skip (by kernel_rfl) ?_
          simp only [Act.put, List.setIfInBounds_toArray, List.set_cons_succ, List.set_cons_zero]
          refine Cg.calm_skip (by kernel_rfl) ?_
          simp only [Act.put, List.setIfInBounds_toArray, List.set_cons_succ, List.set_cons_zero]
          refine Cg.calm_skip (by kernel_rfl) ?_
          simp only [Act.put, List.setIfInBounds_toArray, List.set_cons_succ, List.set_cons_zero]
          refine Cg.calm_skip (by kernel_rfl) ?_
          simp only [Act.put, List.setIfInBounds_toArray, List.set_cons_succ, List.set_cons_zero]
          refine Cg.calm_skip (by kernel_rfl) ?_
          simp only [Act.put, List.setIfInBounds_toArray, List.set_cons_succ, List.set_cons_zero]
          refine Cg.calm_skip (by kernel_rfl) ?_
          simp only [Act.put, List.setIfInBounds_toArray, List.set_cons_succ, List.set_cons_zero]
          refine Cg.calm_skip (by kernel_rfl) ?_
          simp only [Act.put, List.setIfInBounds_toArray, List.set_cons_succ, List.set_cons_zero]
          refine Cg.calm_skip (by kernel_rfl) ?_
          simp only [Act.put, List.setIfInBounds_toArray, List.set_cons_succ, List.set_cons_zero]
          refine Cg.calm_skip (by kernel_rfl) ?_
          simp only [Act.put, List.setIfInBounds_toArray, List.set_cons_succ, List.set_cons_zero]
          refine Cg.calm_value Cg.calm_mono_final (fun v _ => v = .bool true) (fun _ _ _ _ h => h) rfl (fun w' hR _ => ⟨_, w', by go_simp, Ext.refl _, rfl, fun hf => by cases hf⟩) ?_
          rintro _ _ _ rfl _
          simp only [Act.put, List.setIfInBounds_toArray, List.set_cons_succ, List.set_cons_zero]
          refine Cg.calm_nil fun w3 he3 _ => ?_
          have he3 : Ext wr w3 := he3
          go_wp2
          go_ret
          exact tellB (Hk.out (by have := H0.out; omega)) (hex.trans he3)
    · obtain rfl : L = k := by omega
      go_wp2
      go_ret
      exact tellB ⟨fun _ => (by rw [← HPE.out]; exact Hall.out), fun _ => rfl⟩ hex
end Go.Proofs.YtebkhdhhajjhfaaGreat.Lt
