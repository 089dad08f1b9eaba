/- Which panels clash: by the code. -/
import Derived.Test.YteilglljigjefaaR26
import Derived.Test.YteilglljigjefaaR01
import Derived.Test.YteilglljigjefaaR09
import Derived.Test.YteilglljigjefaaR14
namespace Go.Proofs.Yteilglljigjefaa
open Go.RowKit
theorem pair_elem : ElemInfo 91 (.agg #[.int .i64 0, .int .i64 0]) 2 16 := ⟨info_parts (by kernel_rfl), rfl, by decide⟩
theorem corners_elem : ElemInfo 111 (.slice none 0 0) 1 24 := ⟨info_parts (by kernel_rfl), rfl, by decide⟩
/-- The corners of panels, in the call's own memory. -/
structure Crns (w1 w : World) (vs : List Value) (ps : List (List Sp)) (hs : List Hg) (m : Nat) : Prop where
  len : vs.length = m
  own : ∀ k, k < m → Own w1 w 114 3 (vs.getD k undef) (pcrn ps hs k).length ((pcrn ps hs k).map Cn.cells).flatten
section
variable {w1 w w' : World} {vs : List Value} {ps : List (List Sp)} {hs : List Hg} {m : Nat}
theorem Crns.later (h : Crns w1 w vs ps hs m) (he : Ext w w') : Crns w1 w' vs ps hs m := ⟨h.len, fun k hk => (h.own k hk).later he⟩
theorem Crns.grown {row : Option Nat} (h : Crns w1 w vs ps hs m) (hg : w.grownBy w' row) (hx : Ext w1 w') (hne : ∀ k, k < m → ∀ g, (vs.getD k undef).ownBlock = some g → some g ≠ row) : Crns w1 w' vs ps hs m := ⟨h.len, fun k hk => (h.own k hk).grown hg hx (hne k hk)⟩
theorem Crns.snoc {x : Value} (h : Crns w1 w vs ps hs m) (ho : Own w1 w 114 3 x (pcrn ps hs m).length ((pcrn ps hs m).map Cn.cells).flatten) : Crns w1 w (vs ++ [x]) ps hs (m + 1) := by
  refine ⟨by simp [h.len], fun k hk => ?_⟩
  by_cases e : k < m
  · rw [show (vs ++ [x]).getD k undef = vs.getD k undef by simp [List.getD, List.getElem?_append_left (show k < vs.length by rw [h.len]; exact e)]]
    exact h.own k e
  · have e : k = m := by omega
    subst e
    rw [show (vs ++ [x]).getD k undef = x by simp [List.getD, ← h.len]]
    exact ho
/-- What stands at a place of the list, and in it. -/
theorem Crns.at_ {A : Option Addr} {c : Nat} (h : Crns w1 w vs ps hs m) (ho : Own w1 w 111 1 (.slice A m c) m vs) {k : Nat} (hk : k < m) : ∃ ad X x, A = some ad ∧ (∀ w', Ext w w' → w'.cell? (ad.add k) = some (.slice X (pcrn ps hs k).length x)) ∧ CRow w X (pcrn ps hs k) := by
  have h1 := h.own k hk
  obtain ⟨X, x, hX⟩ := h1.form
  rw [hX] at h1
  obtain ⟨ad, ha, hc⟩ := ho.row k (by rw [h.len]; exact hk)
  refine ⟨ad, X, x, ha, fun w' he => he.cell ?_, h1.row⟩
  rw [hc, List.getElem?_eq_getElem (by rw [h.len]; exact hk), ← hX]
  simp [List.getD, h.len, hk]
end
theorem field_apart (b : Bool) (x1 x2 x3 x4 x5 : Value) (w : World) : (Instr.field 67 (.agg #[.bool b, x1, x2, x3, x4, x5]) 0).run Try.prog w = .ok (.bool b) w := by kernel_rfl
def clF (ps : List (List Sp)) (hs : List Hg) (i k : Nat) : Bool := clashB (pcrn ps hs i) (pcrn ps hs k)
set_option maxRecDepth 100000 in
set_option maxHeartbeats 16000000 in
theorem clashes_any (A : Option Addr) (c : Nat) (ps : List (List Sp)) (B : Option Addr) (d : Nat) (hs : List Hg) (w : World) (hL : Lk w A ps B hs) (hl : linkP ps hs) :
    Calls Try.prog 70 #[.agg #[.slice A ps.length c, .slice B hs.length d]] w fun e w' => ∃ v, e = .returned v ∧ OwnQ w w' v (refC (clF ps hs) ps.length ps.length) := by
  have hpl := fun w' (he : Ext w w') => poses_any A ps.length c B d hs w' (hL.hB.ext he) hl.nh hl.hinges
  have hpa := fun k (hk : k < ps.length) => hL.hA.at_ hk
  have hps := hl.2.1
  have h4 := hl.1
  have hcr := fun k (hk : k < ps.length) (X : Option Addr) (x : Nat) w' (hX : SRow w' X (pnA ps k)) => (corners_any (posF hs k) X x (pnA ps k) w' hX (by have := ((linkP_iff.1 hl).2.2.1 k hk).1.2; omega) (psOk (link_pose hl hk)) ((linkP_iff.1 hl).2.2.1 k hk).2.1).mono (R' := fun e w'' => ∃ X x, e = .returned (.slice X (pcrn ps hs k).length x) ∧ Own w' w'' 114 3 (.slice X (pcrn ps hs k).length x) (pcrn ps hs k).length ((pcrn ps hs k).map Cn.cells).flatten) fun e w'' ⟨v, he, ho⟩ => by
    have ho : Own w' w'' 114 3 v (pcrn ps hs k).length ((pcrn ps hs k).map Cn.cells).flatten := ho
    obtain ⟨X, x, rfl⟩ := ho.form
    exact ⟨X, x, he, ho⟩
  have hap := fun i k (hi : i < ps.length) (hk : k < ps.length) (X Y : Option Addr) (x y : Nat) w' (hX : CRow w' X (pcrn ps hs i)) (hY : CRow w' Y (pcrn ps hs k)) => (apart_any X x (pcrn ps hs i) Y y (pcrn ps hs k) w' hX hY (pcrn_ok hl hi) (pcrn_ok hl hk)
    (fun j hj h => thr_right1 (link_pose hl hi) ((linkP_iff.1 hl).2.2.1 i hi) (by rw [pcrn_len] at hj; exact hj) h) (fun j hj h => thr_right2 (link_pose hl hk) ((linkP_iff.1 hl).2.2.1 k hk) (by rw [pcrn_len] at hj; exact hj) h)).mono
    (R' := fun e w'' => ∃ r I ic, e = .returned (Apr.val r I ic) ∧ Ext w' w'' ∧ r.clear = !clF ps hs i k) fun e w'' ⟨r, I, ic, he, _, hx, hr, _⟩ => ⟨r, I, ic, he, hx, by
      have := right_tells (link_pose hl hi) (link_pose hl hk) ((linkP_iff.1 hl).2.2.1 i hi) ((linkP_iff.1 hl).2.2.1 k hk) hr
      show r.clear = !clashB (pcrn ps hs i) (pcrn ps hs k)
      have e : clashB (pcrn ps hs i) (pcrn ps hs k) = !r.clear := this
      rw [e, Bool.not_not]⟩
  have hpA := fun k (hk : k ≤ hs.length) => posesL_psA (hs := hs) hk
  have hpl2 := posesL_len hs
  have hpl3 := fun k => pcrn_len ps hs k
  have Hpl := Lib.hid hpl
  have Hpa := Lib.hid hpa
  have Hcr0 := Lib.hid hcr
  have Hap0 := Lib.hid hap
  have HpA := Lib.hid hpA
  have Hpl2 := Lib.hid hpl2
  have Hpl3 := Lib.hid hpl3
  have Hsort := Lib.hid (sorted_pairs (clF ps hs) ps.length h4.2)
  have Hlen := Lib.hid (codeC_len (clF ps hs))
  have Hcs := Lib.hid (codeC_succ (clF ps hs))
  have Hrs := Lib.hid (rowC_succ (clF ps hs))
  have Hrl := Lib.hid (rowC_len (clF ps hs))
  clear hpl hpa hcr hap hpA hpl2 hpl3 hL hl
  generalize posesL hs = PL at *
  generalize clF ps hs = f at *
  generalize hs.length = nh at *
  generalize ps.length = np at *
  have kb : Blk (w.alloc (.cells #[.slice A np c, .slice B nh d] 25)) w.heap.size [.slice A np c, .slice B nh d] := Blk.new _ _
  have b0 := kb.at_ 0 rfl
  have b1 := kb.at_ 1 rfl
  have hx0 : Ext w (w.alloc (.cells #[.slice A np c, .slice B nh d] 25)) := (Ext.refl _).alloc _
  have Hx0 := Lib.hid hx0
  have B0 := Lib.hid b0
  clear kb hx0
  go_enter Try.func70, Try.ntmps70
  go_wp2_with (go_at_call 64; refine (Hpl.out _ Hx0.out).mono ?_; rintro e w1 ⟨v, rfl, hown0⟩; unfold OwnP at hown0; rw [Hpl2.out] at hown0; obtain ⟨g, cg, rfl, _, _⟩ := hown0.at_ (by omega))
  have hrow1 : PRow w1 (some ⟨g, 0, none⟩) PL := Own.row hown0
  have hx1 := hown0.ext
  have hxx := Hx0.out.trans hx1
  have Hrow := Lib.hid (fun k (hk : k < np) => hrow1.at_ (k := k) (by rw [Hpl2.out]; omega))
  have B1 := Lib.hid (fun w' (he : Ext w1 w') => B0.out w' (hx1.trans he))
  have Hxx := Lib.hid hxx
  clear hrow1 hown0 hx1 hxx b0 b1 B0 Hx0 Hpl
  have hnp : nh + 1 = np := hps
  go_loopw [12, 3] (fun i v wr => ∃ (k : Nat) (vs : List Value), k ≤ np ∧ i = .int .i64 k ∧ Own w1 wr 111 1 v k vs ∧ Crns w1 wr vs ps hs k) (fun i _ _ => np - (intOf i).toNat)
  case atStart => exact ⟨0, [], by omega, rfl, Own.nil _ _ _, ⟨rfl, fun k hk => absurd hk (by omega)⟩⟩
  case round =>
    obtain ⟨k, vs, hk, rfl, hown, hcn⟩ := hrel
    obtain ⟨Av, cv, rfl, hcap⟩ := hown.form2
    have hex := hown.ext
    by_cases hlt : k < np
    · obtain ⟨_, ee, p0, p1, p2, p3, p4⟩ := Hrow.out k hlt
      cases ee
      simp only [HpA.out k (by omega), add_zero'] at p0 p1 p2 p3 p4
      replace p0 : ∀ w', Ext wr w' → _ := fun w' he => p0 w' (hex.trans he)
      replace p1 : ∀ w', Ext wr w' → _ := fun w' he => p1 w' (hex.trans he)
      replace p2 : ∀ w', Ext wr w' → _ := fun w' he => p2 w' (hex.trans he)
      replace p3 : ∀ w', Ext wr w' → _ := fun w' he => p3 w' (hex.trans he)
      replace p4 : ∀ w', Ext wr w' → _ := fun w' he => p4 w' (hex.trans he)
      obtain ⟨ad, Y, yc, rfl, t0, hY⟩ := Hpa.out k hlt
      have hxr := Hxx.out.trans hex
      replace t0 : ∀ w', Ext wr w' → _ := fun w' he => t0 w' (hxr.trans he)
      have b0 : ∀ w', Ext wr w' → _ := fun w' he => B1.out w' (hex.trans he)
      have hcr := fun w' (he : Ext wr w') => Hcr0.out k hlt Y yc w' (hY.ext (hxr.trans he))
      have HH := Lib.hid (And.intro hown hcn)
      have Hcr1 := Lib.hid hcr
      have hkn : (k : Int) < (np : Int) := by omega
      clear hY hcr hown hcn Hcr0 Hap0 Hsort Hlen Hcs Hrs Hrl Hpa Hrow
      obtain ⟨cells, hcells⟩ : ∃ cells, cells = ((pcrn ps hs k).map Cn.cells).flatten := ⟨_, rfl⟩
      rw [← hcells] at Hcr1
      have Hcells := Lib.hid hcells
      clear hcells
      obtain ⟨m, hm⟩ : ∃ m, m = (pcrn ps hs k).length := ⟨_, rfl⟩
      rw [← hm] at Hcr1
      have Hm := Lib.hid hm
      clear hm
      obtain ⟨y, hy⟩ : ∃ y, y = (pnA ps k).length := ⟨_, rfl⟩
      rw [← hy] at t0 Hcr1
      clear hy
      generalize posF hs k = p at *
      go_wp2
      have kp : Blk (wr.alloc (.cells #[vint p.p, vint p.q, vint p.x, vint p.y, vint p.d] 82)) wr.heap.size [vint p.p, vint p.q, vint p.x, vint p.y, vint p.d] := Blk.new _ _
      have hxp : Ext wr (wr.alloc (.cells #[vint p.p, vint p.q, vint p.x, vint p.y, vint p.d] 82)) := (Ext.refl _).alloc _
      generalize (wr.alloc (.cells #[vint p.p, vint p.q, vint p.x, vint p.y, vint p.d] 82)) = wp at *
      have q0 := kp.at_ 0 rfl
      have q1 := kp.at_ 1 rfl
      have q2 := kp.at_ 2 rfl
      have q3 := kp.at_ 3 rfl
      have q4 := kp.at_ 4 rfl
      replace t0 : ∀ w', Ext wp w' → _ := fun w' he => t0 w' (hxp.trans he)
      replace b0 : ∀ w', Ext wp w' → _ := fun w' he => b0 w' (hxp.trans he)
      have Hcr := Lib.hid (fun w' (he : Ext wp w') => Hcr1.out w' (hxp.trans he))
      clear p0 p1 p2 p3 p4 kp Hcr1
      refine Cg.wp_region_calm (p := Cg.extPre) (fr := (fun _ => false)) 9 (fun j _ v w' => j = 7 → ∃ X x, v = .slice X m x ∧ Own wp w' 114 3 (.slice X m x) m cells) (fun _ _ _ _ _ he h hj => let ⟨X, x, e, ho⟩ := h hj; ⟨X, x, e, ho.later he⟩) (by kernel_rfl) (by kernel_rfl) ?_
      simp only [List.take_succ_cons, List.take_zero, List.drop_succ_cons, List.drop_zero]
      refine Cg.calm_quiet Cg.calm_mono_final wp (fun _ h => h) 7 (by kernel_rfl) ?_
      simp only [List.take_succ_cons, List.take_zero, List.drop_succ_cons, List.drop_zero]
      repeat (go_big_quiet_step (fail))
      refine wpQuiet_nil ?_
      refine Cg.calm_call Cg.calm_mono_final 61 #[p.val, .slice Y y yc] rfl (fun w => ?_) (fun w he hF => ?_) ?_
      · go_simp
      · exact (Hcr.out w (show Ext wp w from he)).mono fun e w'' ⟨X, x, e', ho⟩ => ⟨_, e', ho.ext, fun _ => ⟨X, x, rfl, ho.since (show Ext wp w from he)⟩, fun h => by cases h⟩
      rintro v _ _ h _
      obtain ⟨X6, x6, rfl, _⟩ := h rfl
      clear h
      simp only [Act.put, List.setIfInBounds_toArray, List.set_cons_succ, List.set_cons_zero]
      refine Cg.calm_value Cg.calm_mono_final (fun v w => ∃ b, v = .slice (some ⟨b, 0, none⟩) 1 1 ∧ w.heap[b]? = some (.cells #[.slice X6 m x6] 111)) (fun _ w' w'' hR ⟨b, e, hh⟩ => ⟨b, e, (show Ext w' w'' from hR).heap hh⟩) rfl (fun w' hR _ => ⟨.slice (some ⟨w'.heap.size, 0, none⟩) 1 1, w'.alloc (.cells #[.slice X6 m x6] 111), by go_simp, (Ext.refl _).alloc _, ⟨_, rfl, heap_alloc_new _ _⟩, fun hf => by cases hf⟩) ?_
      rintro v7 _ _ ⟨b7, rfl, _⟩ _
      simp only [Act.put, List.setIfInBounds_toArray, List.set_cons_succ, List.set_cons_zero]
      refine Cg.calm_nil fun w3 he3 hF => ?_
      have he3 : Ext wp w3 := he3
      obtain ⟨_, e7, hh7⟩ := (hF.1 8).2 rfl
      simp only [Value.slice.injEq, Option.some.injEq, Addr.mk.injEq, and_true] at e7
      subst e7
      obtain ⟨_, _, e6, ho6⟩ := (hF.1 7).1.2 rfl rfl
      simp only [Value.slice.injEq, true_and] at e6
      obtain ⟨rfl, rfl⟩ := e6
      clear hF
      have hx13 := hex.trans hxp
      have ho6' : Own w1 w3 114 3 (.slice X6 m x6) m cells := ho6.since hx13
      have hrow7 : Row w3 (some ⟨b7, 0, none⟩) [.slice X6 m x6] := row_heap hh7
      obtain ⟨hown, hcn⟩ := HH.out
      have hown3 := (hown.later hxp).later he3
      have hcn3 := (hcn.later hxp).later he3
      have hcn4 := hcn3.snoc (x := .slice X6 m x6) (by rw [← Hm.out, ← Hcells.out]; exact ho6')
      have H3 := Lib.hid (And.intro hown3 hcn4)
      clear hown hcn hown3 hcn3 hcn4 ho6 ho6' HH hh7 q0 q1 q2 q3 q4 t0 b0
      go_wp2_with (refine own_append_src (w1 := w1) corners_elem rfl _ _ 141 rfl Try.underlying141 _ k _ rfl H3.out.1 _ 1 1 _ rfl rfl hrow7 (by intro u hu; simp at hu; subst hu; rfl) (by omega) (by unfold maxLen; omega) ?_; intro v' w' ho hg; have hg : w3.grownBy w' (Value.slice Av k cv).ownBlock := hg)
      have hcn5 := H3.out.2.grown hg ho.ext (fun j hj g e1 e2 => (H3.out.2.own j hj).ne_own H3.out.1 (by decide) e2.symm e1)
      go_roundw
      case rel => exact ⟨k + 1, _, by omega, by go_num, ho, hcn5⟩
      case measure => simp [intOf]; omega
    · obtain rfl : np = k := by omega
      have Hat := Lib.hid (fun j (hj : j < np) => hcn.at_ hown hj)
      have Hxr := Lib.hid (Hxx.out.trans hex)
      clear hown hcn Hcr0 Hrow Hpa HpA Hpl3
      go_wp2
      obtain ⟨wo, rfl⟩ : ∃ wo : World, wo = wr := ⟨_, rfl⟩
      go_loopw [30, 6] (fun i v wr => ∃ k : Nat, k ≤ np ∧ i = .int .i64 k ∧ Own wo wr 91 2 v (codeC f k).length ((codeC f k).map pcells).flatten) (fun i _ _ => np - (intOf i).toNat)
      case atStart => exact ⟨0, by omega, rfl, Own.nil _ _ _⟩
      case round =>
        obtain ⟨i, hi, rfl, hown⟩ := hrel
        obtain ⟨Ao, co, rfl⟩ := hown.form
        by_cases hlt : i < np
        · obtain ⟨ad, _, _, rfl, _, _⟩ := Hat.out 0 (by omega)
          have c1 : (i : Int) ≤ (cv : Int) := by omega
          have c2 : (0 : Int) ≤ (i : Int) := by omega
          have hil : (codeC f i).length * 2 ≤ 16 := Nat.le_trans (Hlen.out i) (Nat.le_trans (Nat.mul_le_mul (show i ≤ 4 by omega) (show i ≤ 4 by omega)) (by omega))
          have Hown := Lib.hid (show Own wo wr 91 2 (.slice Ao (codeC f i).length co) (codeC f i ++ rowC f i 0).length ((codeC f i ++ rowC f i 0).map pcells).flatten by simpa [rowC] using hown)
          have hlc : (codeC f i).length = (codeC f i ++ rowC f i 0).length := by simp [rowC]
          have Hcs' := Lib.hid (Hcs.out i)
          clear hown
          go_wp2
          obtain ⟨wq, rfl⟩ : ∃ wq : World, wq = wr := ⟨_, rfl⟩
          go_loopw [38, 6] (fun j v wr => ∃ k : Nat, k ≤ i ∧ j = .int .i64 k ∧ Own wo wr 91 2 v (codeC f i ++ rowC f i k).length ((codeC f i ++ rowC f i k).map pcells).flatten) (fun j _ _ => i - (intOf j).toNat)
          case atStart => exact ⟨0, by omega, rfl, Hown.out⟩
          case round =>
            clear Hown
            obtain ⟨k, hk, rfl, hown⟩ := hrel
            obtain ⟨A9, c9, rfl⟩ := hown.form
            by_cases hlt2 : k < i
            · obtain ⟨_, X1, x1, ee, u0, hX1⟩ := Hat.out k (by omega)
              cases ee
              obtain ⟨_, X2, x2, ee, v0, hX2⟩ := Hat.out i hlt
              cases ee
              have hex2 := hown.ext
              replace u0 : ∀ w', Ext wr w' → _ := fun w' he => u0 w' (hex2.trans he)
              replace v0 : ∀ w', Ext wr w' → _ := fun w' he => v0 w' (hex2.trans he)
              have hap := fun w' (he : Ext wr w') => Hap0.out k i (by omega) hlt X1 X2 x1 x2 w' (hX1.ext (hex2.trans he)) (hX2.ext (hex2.trans he))
              have hrs := Hrs.out i k
              have hrl := Hrl.out i k
              have hll : (codeC f i ++ rowC f i k).length ≤ 12 := by rw [List.length_append]; omega
              have Hap := Lib.hid hap
              have hfl := fun (b : Bool) (x1 x2 x3 x4 x5 : Value) (w : World) => field_apart b x1 x2 x3 x4 x5 w
              have hki : (k : Int) < (i : Int) := by omega
              have hkn : (k : Int) < (np : Int) := by omega
              have hin : (i : Int) < (np : Int) := by omega
              have Hown := Lib.hid hown
              clear hap hX1 hX2 hown Hap0 Hat Hrs Hrl Hcs Hlen Hsort
              generalize (pcrn ps hs k).length = m1 at *
              generalize (pcrn ps hs i).length = m2 at *
              obtain ⟨bb, hbb⟩ : ∃ bb, bb = !f k i := ⟨_, rfl⟩
              rw [← hbb] at Hap
              cases bb
              · have hf : f k i = true := by simpa using hbb
                rw [hf] at hrs
                have hrs : rowC f i (k + 1) = rowC f i k ++ [((k : Int), (i : Int))] := hrs
                have Hrs' := Lib.hid hrs
                clear hf hbb hrs
                generalize hN : (codeC f i ++ rowC f i k).length = N at *
                go_wp2
                refine wp_region_calm 11 (fun j _ v _ => j = 8 → ∃ (r : Apr) (I : Option Addr) (ic : Nat), v = r.val I ic ∧ r.clear = false) (fun _ _ _ _ _ _ h => h) (by kernel_rfl) (by kernel_rfl) ?_
                simp only [List.take_succ_cons, List.take_zero, List.drop_succ_cons, List.drop_zero]
                refine calm_quiet calm_mono_final 8 (by kernel_rfl) ?_
                simp only [List.take_succ_cons, List.take_zero, List.drop_succ_cons, List.drop_zero]
                repeat (go_big_quiet_step (fail))
                refine wpQuiet_nil ?_
                refine calm_call calm_mono_final 74 #[.slice X1 m1 x1, .slice X2 m2 x2] rfl (fun w => ?_) (fun w he hF => ?_) ?_
                · go_simp
                · exact (Hap.out w he).mono fun e w'' ⟨r, I, ic, e', hx, hcl⟩ => ⟨_, e', hx, fun _ => ⟨r, I, ic, rfl, hcl⟩⟩
                rintro v _ _ h
                obtain ⟨⟨rc, rA, rB, rC, rE, ri⟩, I, ic, rfl, hcl⟩ := h rfl
                have hcl : rc = false := hcl
                subst hcl
                clear h
                simp only [Act.put, List.setIfInBounds_toArray, List.set_cons_succ, List.set_cons_zero]
                refine calm_quiet calm_mono_final 2 (by kernel_rfl) ?_
                simp only [List.take_succ_cons, List.take_zero, List.drop_succ_cons, List.drop_zero]
                repeat (go_big_quiet_step (fail))
                refine wpQuiet_nil ?_
                refine calm_nil fun w3 he3 _ => ?_
                have hown3 := Hown.out.later he3
                go_wp2_with (at_builtin; refine own_append (w1 := wo) pair_elem rfl _ _ 68 rfl Try.underlying68 _ N _ rfl hown3 #[.int .i64 k, .int .i64 i] 1 rfl rfl (by intro u hu; simp at hu; rcases hu with rfl | rfl <;> rfl) (by omega) (by unfold maxLen; omega) ?_; intro v' w' ho _)
                go_roundw
                case rel =>
                  refine ⟨k + 1, by omega, by go_num, ?_⟩
                  rw [Hrs'.out, ← List.append_assoc]
                  have e1 : (codeC f i ++ rowC f i k ++ [((k : Int), (i : Int))]).length = N + 1 := by rw [List.length_append, hN]; rfl
                  have e2 : ((codeC f i ++ rowC f i k ++ [((k : Int), (i : Int))]).map pcells).flatten = ((codeC f i ++ rowC f i k).map pcells).flatten ++ [.int .i64 k, .int .i64 i] := by simp [pcells]
                  rw [e1, e2]
                  exact ho
                case measure => simp [intOf]; omega
              · have hf : f k i = false := by simpa using hbb
                rw [hf] at hrs
                have hrs : rowC f i (k + 1) = rowC f i k := by rw [hrs]; simp
                have Hrs' := Lib.hid hrs
                clear hf hbb hrs
                generalize hN : (codeC f i ++ rowC f i k).length = N at *
                go_wp2
                refine wp_region_calm 11 (fun j _ v _ => j = 8 → ∃ (r : Apr) (I : Option Addr) (ic : Nat), v = r.val I ic ∧ r.clear = true) (fun _ _ _ _ _ _ h => h) (by kernel_rfl) (by kernel_rfl) ?_
                simp only [List.take_succ_cons, List.take_zero, List.drop_succ_cons, List.drop_zero]
                refine calm_quiet calm_mono_final 8 (by kernel_rfl) ?_
                simp only [List.take_succ_cons, List.take_zero, List.drop_succ_cons, List.drop_zero]
                repeat (go_big_quiet_step (fail))
                refine wpQuiet_nil ?_
                refine calm_call calm_mono_final 74 #[.slice X1 m1 x1, .slice X2 m2 x2] rfl (fun w => ?_) (fun w he hF => ?_) ?_
                · go_simp
                · exact (Hap.out w he).mono fun e w'' ⟨r, I, ic, e', hx, hcl⟩ => ⟨_, e', hx, fun _ => ⟨r, I, ic, rfl, hcl⟩⟩
                rintro v _ _ h
                obtain ⟨⟨rc, rA, rB, rC, rE, ri⟩, I, ic, rfl, hcl⟩ := h rfl
                have hcl : rc = true := hcl
                subst hcl
                clear h
                simp only [Act.put, List.setIfInBounds_toArray, List.set_cons_succ, List.set_cons_zero]
                refine calm_quiet calm_mono_final 2 (by kernel_rfl) ?_
                simp only [List.take_succ_cons, List.take_zero, List.drop_succ_cons, List.drop_zero]
                repeat (go_big_quiet_step (fail))
                refine wpQuiet_nil ?_
                refine calm_nil fun w3 he3 _ => ?_
                have Hown3 := Lib.hid (Hown.out.later he3)
                go_wp2
                go_roundw
                case rel => exact ⟨k + 1, by omega, by go_num, by rw [Hrs'.out, hN]; exact Hown3.out⟩
                case measure => simp [intOf]; omega
            · obtain rfl : i = k := by omega
              rw [← Hcs'.out] at hown
              have Hown := Lib.hid hown
              clear hown Hat Hap0
              go_wp2
              go_roundw
              case rel => exact ⟨i + 1, by omega, by go_num, by first | exact Hown.out | (rw [Hcs'.out]; rw [Hcs'.out] at Hown; exact Hown.out)⟩
              case measure => simp [intOf]; omega
        · obtain rfl : np = i := by omega
          have hnl : (codeC f np).length * 2 ≤ 16 := Nat.le_trans (Hlen.out np) (Nat.le_trans (Nat.mul_le_mul h4.2 h4.2) (by omega))
          have hs := sort_pairs wo (.slice Ao (codeC f np).length co) (codeC f np) wr hown (by omega)
          rw [Hsort.out] at hs
          have Hs := Lib.hid hs
          clear hs hown Hat Hap0 Hsort Hlen Hcs Hrs Hrl
          go_wp2_with (go_at_call 89; refine Hs.out.mono ?_; rintro e w9 ⟨rfl, ho9⟩)
          go_ret
          exact ⟨_, rfl, ho9.since Hxr.out⟩
end Go.Proofs.Yteilglljigjefaa

/- The pairs of panels that clash: by both. -/
namespace Go.Proofs.Yteilglljigjefaa
open Go.RowKit
def pairsR (ps : List (List Sp)) (hs : List Hg) : List (Int × Int) := if linkB ps hs = true then refC (clF ps hs) ps.length ps.length else []
set_option maxRecDepth 100000 in
set_option maxHeartbeats 8000000 in
theorem clashes_all (A : Option Addr) (c : Nat) (ps : List (List Sp)) (B : Option Addr) (d : Nat) (hs : List Hg) (w : World) (hL : Lk w A ps B hs) :
    Calls Try.prog 39 #[.agg #[.slice A ps.length c, .slice B hs.length d]] w fun e w' => ∃ v, e = .returned (.tuple #[v, .int .i64 (checkE ps hs)]) ∧ OwnQ w w' v (pairsR ps hs) := by
  have hck := fun w' (he : Ext w w') => (hL.ext he).check c d
  have hcs := fun (h : linkP ps hs) w' (he : Ext w w') => clashes_any A c ps B d hs w' (hL.ext he) h
  unfold pairsR
  rcases linkB_eq (ps := ps) (hs := hs) with ⟨h1, h2, h3⟩ | ⟨h1, h2, h3⟩
  · rw [h2, h3, if_pos rfl]
    rw [h3] at hck
    have hcs := hcs h1
    have Hck := Lib.hid hck
    have Hcs := Lib.hid hcs
    clear hck hcs hL h1 h2 h3
    generalize refC (clF ps hs) ps.length ps.length = R at *
    generalize ps.length = np at *
    generalize hs.length = nh at *
    have kb : Blk (w.alloc (.cells #[.slice A np c, .slice B nh d] 25)) w.heap.size [.slice A np c, .slice B nh d] := Blk.new _ _
    have b0 := kb.at_ 0 rfl
    have b1 := kb.at_ 1 rfl
    have hx0 : Ext w (w.alloc (.cells #[.slice A np c, .slice B nh d] 25)) := (Ext.refl _).alloc _
    have Hx0 := Lib.hid hx0
    clear kb hx0
    go_enter Try.func39, Try.ntmps39
    go_wp2_with (first
      | (go_at_call 30; refine (Hck.out _ Hx0.out).mono ?_; rintro e w1 ⟨rfl, hx1⟩; have hxx := Hx0.out.trans hx1; replace b0 : ∀ w', Ext w1 w' → _ := fun w' he => b0 w' (hx1.trans he); replace b1 : ∀ w', Ext w1 w' → _ := fun w' he => b1 w' (hx1.trans he))
      | (go_at_call 70; refine (Hcs.out _ hxx).mono ?_; rintro e w2 ⟨v, rfl, hown⟩))
    go_ret2
    exact ⟨_, rfl, hown.since hxx⟩
  · rw [h2, h3, if_neg (by simp)]
    rw [h3] at hck
    have Hck := Lib.hid hck
    clear hck hcs hL h1 h2 h3
    generalize ps.length = np at *
    generalize hs.length = nh at *
    have kb : Blk (w.alloc (.cells #[.slice A np c, .slice B nh d] 25)) w.heap.size [.slice A np c, .slice B nh d] := Blk.new _ _
    have b0 := kb.at_ 0 rfl
    have b1 := kb.at_ 1 rfl
    have hx0 : Ext w (w.alloc (.cells #[.slice A np c, .slice B nh d] 25)) := (Ext.refl _).alloc _
    have Hx0 := Lib.hid hx0
    clear kb hx0
    go_enter Try.func39, Try.ntmps39
    go_wp2_with (go_at_call 30; refine (Hck.out _ Hx0.out).mono ?_; rintro e w1 ⟨rfl, hx1⟩; have hxx := Hx0.out.trans hx1)
    go_ret2
    exact ⟨_, rfl, Own.nil' hxx _ _⟩
set_option maxRecDepth 100000 in
set_option maxHeartbeats 8000000 in
theorem clashes_ref (A : Option Addr) (c : Nat) (ps : List (List Sp)) (B : Option Addr) (d : Nat) (hs : List Hg) (w : World) (hL : Lk w A ps B hs) :
    Calls Try.prog 40 #[.agg #[.slice A ps.length c, .slice B hs.length d]] w fun e w' => ∃ v, e = .returned (.tuple #[v, .int .i64 (checkE ps hs)]) ∧ OwnQ w w' v (pairsR ps hs) := by
  have hck := fun w' (he : Ext w w') => (hL.ext he).valid c d
  unfold pairsR
  rcases linkB_eq (ps := ps) (hs := hs) with ⟨h1, h2, h3⟩ | ⟨h1, h2, h3⟩
  · rw [h2, h3, if_pos rfl]
    rw [h2] at hck
    have hcg := fun i k (hi : i < ps.length) (hk : k < ps.length) w' (he : Ext w w') => clashing_any A c ps B d hs i k w' (hL.ext he) h1 hi hk
    change ∀ i k (hi : i < ps.length) (hk : k < ps.length) w' (he : Ext w w'), Calls Try.prog 72 _ w' fun e w'' => e = .returned (.bool (clF ps hs i k)) ∧ Ext w' w'' at hcg
    have h4 := h1.1
    have Hck := Lib.hid hck
    have Hcg := Lib.hid hcg
    have Hlen := Lib.hid (refC_len (clF ps hs) ps.length)
    have Hrs := Lib.hid (refC_succ (clF ps hs) ps.length)
    have Hws := Lib.hid (rowR_succ (clF ps hs))
    have Hwl := Lib.hid (rowR_len (clF ps hs))
    clear hck hcg hL h1 h2 h3
    generalize clF ps hs = f at *
    generalize ps.length = np at *
    generalize hs.length = nh at *
    have kb : Blk (w.alloc (.cells #[.slice A np c, .slice B nh d] 25)) w.heap.size [.slice A np c, .slice B nh d] := Blk.new _ _
    have b0 := kb.at_ 0 rfl
    have b1 := kb.at_ 1 rfl
    have hx0 : Ext w (w.alloc (.cells #[.slice A np c, .slice B nh d] 25)) := (Ext.refl _).alloc _
    have Hx0 := Lib.hid hx0
    clear kb hx0
    go_enter Try.func40, Try.ntmps40
    go_wp2_with (go_at_call 65; refine (Hck.out _ Hx0.out).mono ?_; rintro e w1 ⟨rfl, hx1⟩; have hxx := Hx0.out.trans hx1; replace b0 : ∀ w', Ext w1 w' → _ := fun w' he => b0 w' (hx1.trans he); replace b1 : ∀ w', Ext w1 w' → _ := fun w' he => b1 w' (hx1.trans he))
    have B0 := Lib.hid b0
    have B1 := Lib.hid b1
    have Hxx := Lib.hid hxx
    clear b0 b1 hxx Hck hx1 Hx0
    go_loopw [5, 4] (fun i v wr => ∃ k : Nat, k ≤ np ∧ i = .int .i64 k ∧ Own w1 wr 91 2 v (refC f np k).length ((refC f np k).map pcells).flatten) (fun i _ _ => np - (intOf i).toNat)
    case atStart => exact ⟨0, by omega, rfl, Own.nil _ _ _⟩
    case round =>
      obtain ⟨i, hi, rfl, hown⟩ := hrel
      obtain ⟨Ao, co, rfl⟩ := hown.form
      have hex := hown.ext
      have b0 : ∀ w', Ext wr w' → _ := fun w' he => B0.out w' (hex.trans he)
      by_cases hlt : i < np
      · have hil : (refC f np i).length ≤ 16 := Nat.le_trans (Hlen.out i) (Nat.mul_le_mul (show np ≤ 4 by omega) (show i ≤ 4 by omega))
        have Hown := Lib.hid (show Own w1 wr 91 2 (.slice Ao (refC f np i).length co) (refC f np i ++ rowR f i (i + 1) 0).length ((refC f np i ++ rowR f i (i + 1) 0).map pcells).flatten by simpa [rowR] using hown)
        have Hrs' := Lib.hid (Hrs.out i)
        have hki : (i : Int) < (np : Int) := by omega
        clear hown
        go_wp2
        clear b0
        obtain ⟨wq, rfl⟩ : ∃ wq : World, wq = wr := ⟨_, rfl⟩
        go_loopw [6, 4] (fun j v wr => ∃ k : Nat, i + 1 + k ≤ np ∧ j = .int .i64 ((i + 1 + k : Nat) : Int) ∧ Own w1 wr 91 2 v (refC f np i ++ rowR f i (i + 1) k).length ((refC f np i ++ rowR f i (i + 1) k).map pcells).flatten) (fun j _ _ => np - (intOf j).toNat)
        case atStart => exact ⟨0, by omega, by go_num, Hown.out⟩
        case round =>
          clear Hown
          obtain ⟨k, hk, rfl, hown⟩ := hrel
          obtain ⟨A9, c9, rfl⟩ := hown.form
          have hex2 := hown.ext
          have b0 : ∀ w', Ext wr w' → _ := fun w' he => B0.out w' (hex2.trans he)
          have b1 : ∀ w', Ext wr w' → _ := fun w' he => B1.out w' (hex2.trans he)
          by_cases hlt2 : i + 1 + k < np
          · have hcg := fun w' (he : Ext wr w') => Hcg.out i (i + 1 + k) hlt hlt2 w' ((Hxx.out.trans hex2).trans he)
            have hws := Hws.out i (i + 1) k
            have hwl := Hwl.out i (i + 1) k
            have hll : (refC f np i ++ rowR f i (i + 1) k).length ≤ 30 := by rw [List.length_append]; omega
            have Hcg' := Lib.hid hcg
            have Hown := Lib.hid hown
            clear hcg hown Hcg Hws Hwl Hrs Hlen
            generalize hQ : i + 1 + k = q at *
            have hqn : (q : Int) < (np : Int) := by omega
            cases hf : f i q
            · rw [hf] at hws Hcg'
              have hws : rowR f i (i + 1) (k + 1) = rowR f i (i + 1) k := by rw [hws]; simp
              have Hws' := Lib.hid hws
              clear hf hws
              generalize hN : (refC f np i ++ rowR f i (i + 1) k).length = N at *
              go_wp2_with (go_at_call 72; refine (Hcg'.out _ (Ext.refl _)).mono ?_; rintro e w5 ⟨rfl, hx5⟩)
              go_roundw
              case rel => exact ⟨k + 1, by omega, by rw [← hQ]; go_num, by rw [Hws'.out, hN]; exact Hown.out.later hx5⟩
              case measure => simp [intOf]; omega
            · rw [hf] at hws Hcg'
              have hws : rowR f i (i + 1) (k + 1) = rowR f i (i + 1) k ++ [((i : Int), (q : Int))] := hws
              have Hws' := Lib.hid hws
              clear hf hws
              generalize hN : (refC f np i ++ rowR f i (i + 1) k).length = N at *
              go_wp2_with (first
                | (go_at_call 72; refine (Hcg'.out _ (Ext.refl _)).mono ?_; rintro e w5 ⟨rfl, hx5⟩; have hown3 := Hown.out.later hx5)
                | (at_builtin; refine own_append (w1 := w1) pair_elem rfl _ _ 68 rfl Try.underlying68 _ N _ rfl hown3 #[.int .i64 i, .int .i64 q] 1 rfl rfl (by intro u hu; simp at hu; rcases hu with rfl | rfl <;> rfl) (by omega) (by unfold maxLen; omega) ?_; intro v' w' ho _))
              go_roundw
              case rel =>
                refine ⟨k + 1, by omega, by rw [← hQ]; go_num, ?_⟩
                rw [Hws'.out, ← List.append_assoc]
                have e1 : (refC f np i ++ rowR f i (i + 1) k ++ [((i : Int), (q : Int))]).length = N + 1 := by rw [List.length_append, hN]; rfl
                have e2 : ((refC f np i ++ rowR f i (i + 1) k ++ [((i : Int), (q : Int))]).map pcells).flatten = ((refC f np i ++ rowR f i (i + 1) k).map pcells).flatten ++ [.int .i64 i, .int .i64 q] := by simp [pcells]
                rw [e1, e2]
                exact ho
              case measure => simp [intOf]; omega
          · have hkk : k = np - (i + 1) := by omega
            have hqe : i + 1 + k = np := by omega
            subst hkk
            rw [← Hrs'.out] at hown
            have Hown := Lib.hid hown
            rw [hqe]
            clear hown Hcg Hws Hwl Hrs Hlen
            go_wp2
            go_roundw
            case rel => exact ⟨i + 1, by omega, by go_num, by first | exact Hown.out | (rw [Hrs'.out]; rw [Hrs'.out] at Hown; exact Hown.out)⟩
            case measure => simp [intOf]; omega
      · obtain rfl : np = i := by omega
        have Hown := Lib.hid hown
        clear hown Hcg Hws Hwl Hrs Hlen
        go_wp2
        go_ret2
        exact ⟨_, rfl, Hown.out.since Hxx.out⟩
  · rw [h2, h3, if_neg (by simp)]
    rw [h2] at hck
    have Hck := Lib.hid hck
    clear hck hL h1 h2 h3
    generalize ps.length = np at *
    generalize hs.length = nh at *
    have kb : Blk (w.alloc (.cells #[.slice A np c, .slice B nh d] 25)) w.heap.size [.slice A np c, .slice B nh d] := Blk.new _ _
    have b0 := kb.at_ 0 rfl
    have b1 := kb.at_ 1 rfl
    have hx0 : Ext w (w.alloc (.cells #[.slice A np c, .slice B nh d] 25)) := (Ext.refl _).alloc _
    have Hx0 := Lib.hid hx0
    clear kb hx0
    go_enter Try.func40, Try.ntmps40
    go_wp2_with (go_at_call 65; refine (Hck.out _ Hx0.out).mono ?_; rintro e w1 ⟨rfl, hx1⟩; have hxx := Hx0.out.trans hx1)
    go_ret2
    exact ⟨_, rfl, Own.nil' hxx _ _⟩
end Go.Proofs.Yteilglljigjefaa

/- Clone of hinges; a linkage with one other angle: With, Bent. -/
namespace Go.Proofs.Yteilglljigjefaa
open Go.RowKit
/-- The hinges with another angle at one place. -/
def setAng (hs : List Hg) (k : Nat) (n : Int) : List Hg := hs.set k ⟨(hgA hs k).a, (hgA hs k).b, n⟩
theorem setAng_len (hs : List Hg) (k : Nat) (n : Int) : (setAng hs k n).length = hs.length := by simp [setAng]
theorem setAng_set {hs : List Hg} {k : Nat} (hk : k < hs.length) (m n : Int) : setAng (setAng hs k m) k n = setAng hs k n := by
  simp [setAng, hgA, List.getD, hk]
theorem setAng_cells : ∀ (hs : List Hg) (k : Nat) (n : Int), k < hs.length → (hs.map Hg.cells).flatten.set (k * 5 + 4) (vint n) = ((setAng hs k n).map Hg.cells).flatten
  | [], k, n, h => by simp at h
  | q :: t, 0, n, _ => by simp [Hg.cells, setAng, hgA]
  | q :: t, k + 1, n, h => by
    have ih := setAng_cells t k n (by simpa using h)
    have e1 : (k + 1) * 5 + 4 = k * 5 + 4 + 1 + 1 + 1 + 1 + 1 := by omega
    have e2 : setAng (q :: t) (k + 1) n = q :: setAng t k n := by simp [setAng, hgA]
    rw [e2]
    simp only [List.map_cons, List.flatten_cons, Hg.cells, List.cons_append, List.nil_append, List.set_cons_succ, e1] at ih ⊢
    rw [ih]
theorem setAng_link {ps : List (List Sp)} {hs : List Hg} {k : Nat} {n : Nat} (hl : linkP ps hs) (hk : k < hs.length) (hn : n < 36) : linkP ps (setAng hs k n) := by
  refine ⟨hl.1, by rw [setAng_len]; exact hl.2.1, hl.2.2.1, fun h hh => ?_⟩
  rcases List.mem_or_eq_of_mem_set hh with h1 | rfl
  · exact hl.2.2.2 h h1
  · have h1 := hl.2.2.2 (hgA hs k) (by rw [hgA_at hk]; exact List.getElem_mem hk)
    unfold hingeB at h1 ⊢
    simp only at h1 ⊢
    exact ⟨h1.1, h1.2.1, by omega, by omega⟩
abbrev OwnH (w1 w : World) (v : Value) (hs : List Hg) : Prop := Own w1 w 85 5 v hs.length (hs.map Hg.cells).flatten
theorem OwnH.row {w1 w : World} {A : Option Addr} {m c : Nat} {xs : List Hg} (h : OwnH w1 w (.slice A m c) xs) : HRow w A xs := Own.row h
theorem clone_hinges (A : Option Addr) (c : Nat) (hs : List Hg) (w : World) (hA : HRow w A hs) (hx : hs.length ≤ 1000) (hpos : 0 < hs.length) :
    Calls Try.prog 69 #[.slice A hs.length c] w fun e w' => ∃ v, e = .returned v ∧ OwnH w w' v hs := by
  have hA : Row w A (hs.map Hg.cells).flatten := hA
  have k1 : (hs.map Hg.cells).flatten.length = hs.length * 5 := Hg.cells_len hs
  obtain ⟨ad, rfl, _⟩ := hA 0 (by rw [k1]; omega)
  have k2 := Hg.cells_one hs
  have HA := Lib.hid hA
  obtain ⟨n, hn⟩ : ∃ n, n = hs.length := ⟨_, rfl⟩
  rw [← hn] at hx hpos k1 ⊢
  have Hn := Lib.hid hn
  have K1 := Lib.hid k1
  have K2 := Lib.hid k2
  clear hn hA k1 k2
  have hnil := fun W => Lib.run_eql_slice_nil (P := Try.prog) W 23 85 (some ad) n c 0 0 Try.underlying23
  go_enter Try.func69, Try.ntmps69
  have hown0 : Own w (w.alloc (.cells #[] 85)) 85 5 (.slice (some ⟨w.heap.size, 0, none⟩) 0 0) 0 [] := Own.lit (Ext.refl _) #[] 0 (Nat.zero_le _) rfl
  have hrow : Row (w.alloc (.cells #[] 85)) (some ad) (hs.map Hg.cells).flatten := Row.ext HA.out (by simp)
  go_wp2_with (at_builtin; refine own_append_src (w1 := w) hinge_elem rfl _ _ 23 rfl Try.underlying23 (.slice (some ⟨w.heap.size, 0, none⟩) 0 0) 0 [] rfl hown0 ad n c (hs.map Hg.cells).flatten rfl K1.out hrow K2.out (by omega) (by unfold maxLen; omega) ?_; intro v' w2 hown2 _)
  go_ret
  rw [Nat.zero_add, List.nil_append] at hown2
  refine ⟨_, rfl, ?_⟩
  show Own w w2 _ 5 v' hs.length _
  rw [← Hn.out]
  exact hown2
set_option maxRecDepth 100000 in
set_option maxHeartbeats 8000000 in
/-- The reference's With, of no angles: a linkage with hinges of its own. -/
theorem with_any (A : Option Addr) (c : Nat) (ps : List (List Sp)) (B : Option Addr) (d : Nat) (hs : List Hg) (w : World) (hL : Lk w A ps B hs) :
    Calls Try.prog 91 #[.agg #[.slice A ps.length c, .slice B hs.length d], .slice none 0 0] w fun e w' => ∃ B1 d1, e = .returned (.agg #[.slice A ps.length c, .slice B1 hs.length d1]) ∧ OwnH w w' (.slice B1 hs.length d1) hs := by
  have hcp := fun (w2 : World) (he : Ext w w2) (base b : Nat) (hb : w2.heap[b]? = some (.cells #[] 85)) (hbb : base ≤ b) => app_copy (w := w2) (base := base) (c := d) hinge_elem Try.underlying23 23 hb hbb (Hg.cells_len hs) (hL.hB.ext he) (Hg.cells_one hs) hL.nh (by omega)
  have Hcp := Lib.hid hcp
  clear hcp hL
  unfold OwnH
  generalize (hs.map Hg.cells).flatten = F at *
  generalize ps.length = np at *
  generalize hs.length = nh at *
  have kl : Blk ((w.alloc (.cells #[.slice A np c, .slice B nh d] 25)).alloc (.cells #[.slice none 0 0, .slice none 0 0] 25)) w.heap.size [.slice A np c, .slice B nh d] := (Blk.new _ _).ext ((Ext.refl _).alloc _)
  have kz : Whole ((w.alloc (.cells #[.slice A np c, .slice B nh d] 25)).alloc (.cells #[.slice none 0 0, .slice none 0 0] 25)) (w.heap.size + 1) #[.slice none 0 0, .slice none 0 0] 25 := Whole.new (by simp)
  have b0 := kl.at_ 0 rfl
  have b1 := kl.at_ 1 rfl
  have hx0 : Ext w ((w.alloc (.cells #[.slice A np c, .slice B nh d] 25)).alloc (.cells #[.slice none 0 0, .slice none 0 0] 25)) := ((Ext.refl _).alloc _).alloc _
  have Hx0 := Lib.hid hx0
  have Kz := Lib.hid kz
  clear kl kz hx0
  go_enter Try.func91, Try.ntmps91
  go_wp2
  generalize ((w.alloc (.cells #[.slice A np c, .slice B nh d] 25)).alloc (.cells #[.slice none 0 0, .slice none 0 0] 25)) = wr at *
  refine Cg.wp_region_calm (p := Cg.extPre) (fr := (fun _ => false)) 8 (fun _ _ _ _ => True) (fun _ _ _ _ _ _ h => h) (by kernel_rfl) (by kernel_rfl) ?_
  simp only [List.take_succ_cons, List.take_zero, List.drop_succ_cons, List.drop_zero]
  refine Cg.calm_quiet Cg.calm_mono_final wr (fun _ h => h) 2 (by kernel_rfl) ?_
  simp only [List.take_succ_cons, List.take_zero, List.drop_succ_cons, List.drop_zero]
  repeat (go_big_quiet_step (fail))
  refine wpQuiet_nil ?_
  refine Cg.calm_value Cg.calm_mono_final (fun v w => ∃ b, v = .slice (some ⟨b, 0, none⟩) 0 0 ∧ wr.heap.size ≤ b ∧ w.heap[b]? = some (.cells #[] 85)) (fun _ w' w'' hR ⟨b, e, hb, hh⟩ => ⟨b, e, hb, (show Ext w' w'' from hR).heap hh⟩) rfl (fun w' hR _ => ⟨.slice (some ⟨w'.heap.size, 0, none⟩) 0 0, w'.alloc (.cells #[] 85), by go_simp, (Ext.refl w').alloc _, ⟨_, rfl, (show Ext wr w' from hR).le, Go.heap_alloc_new _ _⟩, fun hf => by cases hf⟩) ?_
  rintro v2 _ _ ⟨b2, rfl, _, _⟩ _
  simp only [Act.put, List.setIfInBounds_toArray, List.set_cons_succ, List.set_cons_zero]
  refine Cg.calm_quiet Cg.calm_mono_final wr (fun _ h => h) 2 (by kernel_rfl) ?_
  simp only [List.take_succ_cons, List.take_zero, List.drop_succ_cons, List.drop_zero]
  repeat (go_big_quiet_step (fail))
  refine wpQuiet_nil ?_
  refine Cg.calm_value Cg.calm_mono_final (fun v w => w.ownsRow wr.heap.size 85 5 v nh F ∧ True) (fun _ w' w'' hR ⟨h1, h2⟩ => ⟨(show Ext w' w'' from hR).owns h1, h2⟩) rfl (fun w' hR hf => ?_) ?_
  · obtain ⟨b', eb, hbb, hb2⟩ := (hf 2 (by kernel_rfl)).2 rfl
    simp only [Value.slice.injEq, Option.some.injEq, Addr.mk.injEq, and_true] at eb
    subst eb
    obtain ⟨v', w'', hr, hx2, ho, _⟩ := Hcp.out w' (Hx0.out.trans hR) wr.heap.size _ hb2 hbb
    exact ⟨_, w'', exec_append _ _ 23 rfl rfl rfl hr, hx2, ⟨ho, trivial⟩, fun hf => by cases hf⟩
  rintro v4 wq hq ⟨ho4, _⟩ _
  obtain ⟨X4, c4, rfl⟩ : ∃ X4 c4, v4 = .slice X4 nh c4 := Own.form (w1 := wr) (w := wq) ⟨hq, ho4⟩
  clear ho4 hq
  simp only [Act.put, List.setIfInBounds_toArray, List.set_cons_succ, List.set_cons_zero]
  refine Cg.calm_value Cg.calm_mono_final (fun v _ => v = .agg #[.slice A np c, .slice X4 nh c4] ∧ True) (fun _ _ _ _ h => h) rfl (fun w' _ _ => ⟨.agg #[.slice A np c, .slice X4 nh c4], w', by go_simp, Ext.refl _, ⟨rfl, trivial⟩, fun hf => by cases hf⟩) ?_
  rintro _ _ _ ⟨rfl, _⟩ _
  simp only [Act.put, List.setIfInBounds_toArray, List.set_cons_succ, List.set_cons_zero]
  refine Cg.calm_value Cg.calm_mono_final (fun v w => ∃ b, v = .pointer (some ⟨b, 0, none⟩) ∧ wr.heap.size ≤ b ∧ w.heap[b]? = some (.cells #[.slice none 0 0, .slice none 0 0] 25)) (fun _ w' w'' hR ⟨b, e, hb, hh⟩ => ⟨b, e, hb, (show Ext w' w'' from hR).heap hh⟩) rfl (fun w' hR _ => ⟨.pointer (some ⟨w'.heap.size, 0, none⟩), w'.alloc (.cells #[.slice none 0 0, .slice none 0 0] 25), by go_simp, (Ext.refl _).alloc _, ⟨_, rfl, (show Ext wr w' from hR).le, heap_alloc_new _ _⟩, fun hf => by cases hf⟩) ?_
  rintro v5 _ _ ⟨b5, rfl, _, _⟩ _
  simp only [Act.put, List.setIfInBounds_toArray, List.set_cons_succ, List.set_cons_zero]
  refine Cg.calm_nil fun w3 he3 hF => ?_
  have he3 : Ext wr w3 := he3
  obtain ⟨_, e5, hg5, hh5⟩ := (hF.1 7).2 rfl
  simp only [Value.pointer.injEq, Option.some.injEq, Addr.mk.injEq, and_true] at e5
  subst e5
  obtain ⟨hx4, _⟩ := (hF.1 5).1.1.2 rfl
  clear hF
  have hS : Whole w3 b5 #[.slice none 0 0, .slice none 0 0] 25 := ⟨hh5⟩
  have hK := Whole.ext Kz.out he3
  have hh : Own w w3 85 5 (.slice X4 nh c4) nh F := (show Own wr w3 85 5 (.slice X4 nh c4) nh F from ⟨he3, hx4⟩).since Hx0.out
  have hge := Nat.le_trans Hx0.out.le hg5
  have hne : w.heap.size + 1 ≠ b5 := by
    have h1 := (Array.getElem?_eq_some_iff.1 Kz.out.h).1
    omega
  have hS5 := (hS.setCell 0 (.slice A np c)).setCell 1 (.slice X4 nh c4)
  have hK5 := (hK.farCell hne 0 (.slice A np c)).farCell hne 1 (.slice X4 nh c4)
  have hw5 := (hh.other (p := ⟨b5, 0, none⟩) hge (hh.ne_whole hS (by decide)) (.slice A np c)).other (p := ⟨b5, 1, none⟩) hge (hh.ne_whole hS (by decide)) (.slice X4 nh c4)
  have s0 := hS.cell 0 rfl
  have s1 := hS.cell 1 rfl
  have sf := hS.free
  have H5 := Lib.hid (And.intro hS5 (And.intro hK5 hw5))
  have Hne := Lib.hid hne
  clear hS5 hK5 hw5 hS hK hh hne hh5 hx4 b0 b1 Hcp Kz
  go_wp2
  obtain ⟨hS5, hK5, hh5⟩ := H5.out
  generalize ((w3.setCell ⟨b5, 0, none⟩ (.slice A np c)).setCell ⟨b5, 1, none⟩ (.slice X4 nh c4)) = w4 at *
  clear H5 s0 s1 sf
  go_loopw [6] (fun i wr => i = .int .i64 0 ∧ Whole wr b5 #[.slice A np c, .slice X4 nh c4] 25 ∧ Whole wr (w.heap.size + 1) #[.slice none 0 0, .slice none 0 0] 25 ∧ Own w wr 85 5 (.slice X4 nh c4) nh F) (fun _ _ => 0)
  case atStart => exact ⟨rfl, hS5, hK5, hh5⟩
  case round =>
    clear hS5 hK5 hh5
    obtain ⟨rfl, hS, hK, hh⟩ := hrel
    have s0 := hS.cell 0 rfl
    have s1 := hS.cell 1 rfl
    have z0 := hK.cell 0 rfl
    have z1 := hK.cell 1 rfl
    have zf := hK.free
    have hne := Hne.out
    have HH := Lib.hid (And.intro hS (And.intro hK hh))
    clear hS hK hh
    go_wp2
    obtain ⟨hS, hK, hh⟩ := HH.out
    have hge1 : w.heap.size ≤ w.heap.size + 1 := by omega
    have hh5 := (hh.other (p := ⟨w.heap.size + 1, 0, none⟩) hge1 (hh.ne_whole hK (by decide)) (.slice A np c)).other (p := ⟨w.heap.size + 1, 1, none⟩) hge1 (hh.ne_whole hK (by decide)) (.slice X4 nh c4)
    have hK5 := ((hK.setCell 0 (.slice A np c)).setCell 1 (.slice X4 nh c4)).blk
    refine bodyPost_ret (results_link rfl _ _ rfl hK5) rfl ?_
    exact ⟨_, _, rfl, hh5⟩
end Go.Proofs.Yteilglljigjefaa

/- The first angles for which a gap closes, one hinge at a time. -/
namespace Go.Proofs.Yteilglljigjefaa
theorem range36 {m : Nat} (hm : m < 36) : List.range 36 = List.range m ++ m :: List.range' (m + 1) (35 - m) := by
  rw [List.range_eq_range', List.range_eq_range', show (36 : Nat) = m + (35 - m + 1) by omega, ← List.range'_append_1, List.range'_succ]
  simp
theorem clo_all {a b : Sp} {h : Hg} {t : List Hg} {p : Ps} (hn : ∀ j, j < 36 → clo a b t (flw p h (trn j)) = none) : clo a b (h :: t) p = none := by
  unfold clo
  rw [List.findSome?_eq_none_iff]
  intro n h1
  rw [hn n (by simpa using h1)]
  rfl
theorem clo_first {a b : Sp} {h : Hg} {t : List Hg} {p : Ps} {m : Nat} {r : List Nat} (hm : m < 36) (hn : ∀ j, j < m → clo a b t (flw p h (trn j)) = none) (hr : clo a b t (flw p h (trn m)) = some r) : clo a b (h :: t) p = some (m :: r) := by
  unfold clo
  have e : (List.range m).findSome? (fun n => (clo a b t (flw p h (trn n))).map (n :: ·)) = none := by
    rw [List.findSome?_eq_none_iff]
    intro n h1
    rw [hn n (by simpa using h1)]
    rfl
  rw [range36 hm, List.findSome?_append, e, List.findSome?_cons, hr]
  rfl
theorem clo_len {a b : Sp} {hs : List Hg} {p : Ps} {r : List Nat} (h : clo a b hs p = some r) : r.length = hs.length := (clo_some hs p r h).1
end Go.Proofs.Yteilglljigjefaa

/- A growth in which numbers are appended twice: what was appended first stays. -/
namespace Go.Proofs.Yteilglljigjefaa
open Go.RowKit
def keptI (y : Int) : List Obj := [.cells #[] 3, .cells #[vint y] 3]
/-- A growth under which the lists so far stay. -/
structure GrI (b : Nat) (xs : List Int) (y : Int) (w w' : World) : Prop where
  low : Below b w w'
  kept : ∀ (k : Nat) (o : Obj), o ∈ keptI y → w.heap[k]? = some o → w'.heap[k]? = some o
  own : ∀ (v : Value) (n : Nat) (ys : List Value), (n = xs.length ∧ ys = xs.map vint ∨ n = xs.length + 1 ∧ ys = (xs ++ [y]).map vint) → w.ownsRow b 3 1 v n ys → w'.ownsRow b 3 1 v n ys
  keep : ∀ (g : Nat) (ys zs : List Int), ys = xs ++ y :: zs → Ints w (some ⟨g, 0, none⟩) ys → Ints w' (some ⟨g, 0, none⟩) ys
def griPre (b : Nat) (xs : List Int) (y : Int) : Cg.Pre where
  R := GrI b xs y
  refl _ := ⟨Below.refl _ _, fun _ _ _ h => h, fun _ _ _ _ h => h, fun _ _ _ _ h => h⟩
  trans h k := ⟨Below.trans h.low k.low, fun i o ho hh => k.kept i o ho (h.kept i o ho hh), fun v n ys hn ho => k.own v n ys hn (h.own v n ys hn ho), fun g ys zs e hh => k.keep g ys zs e (h.keep g ys zs e hh)⟩
  drawn h _ := ⟨⟨h.low.os, h.low.tape, h.low.output, h.low.size, h.low.block⟩, fun i o ho hh => h.kept i o ho hh, fun v m ys hn ho => h.own v m ys hn ho, fun g ys zs e hh => h.keep g ys zs e hh⟩
  size h := h.low.size
theorem GrI.of_ext {b : Nat} {xs : List Int} {y : Int} {w w' : World} (h : Ext w w') (hb : b ≤ w.heap.size) : GrI b xs y w w' :=
  ⟨Below.mono h hb, fun _ _ _ hh => h.heap hh, fun _ _ _ _ ho => h.owns ho, fun _ _ _ _ hh => Row.ext hh h⟩
theorem GrI.ext {xs : List Int} {y : Int} {w w' : World} (h : GrI w.heap.size xs y w w') : Ext w w' := h.low
set_option maxRecDepth 100000 in
theorem app_int {w : World} {b : Nat} {v : Value} {xs : List Int} {y : Int} {bs c : Nat} (ty : TypeId) (hown : w.ownsRow b 3 1 v xs.length (xs.map vint)) (h0 : xs.length = 0 → ∃ g, v = .slice (some ⟨g, 0, none⟩) 0 0)
    (hx : w.heap[bs]? = some (.cells #[vint y] 3)) (hn : xs.length ≤ 1000) (hb : b ≤ w.heap.size) :
    ∃ v' w', (Builtin.append_ #[30, 30] ty #[v, .slice (some ⟨bs, 0, none⟩) 1 c]).run Try.prog w = .ok v' w' ∧ w'.ownsRow b 3 1 v' (xs.length + 1) ((xs ++ [y]).map vint) ∧ GrI b xs y w w' := by
  obtain ⟨i, hi, hz0, hz1, hz2⟩ := int_elem.info
  have happ : (xs ++ [y]).map vint = xs.map vint ++ [vint y] := by simp
  have hnews : ∀ j u, [vint y][j]? = some u → w.cell? ((⟨bs, 0, none⟩ : Addr).add j) = some u := fun j u hj => by
    rw [add_zero', cell_heap hx]
    simpa using hj
  have hone : ∀ u ∈ [vint y], u.oneCell' = true := fun u hu => by
    simp at hu
    subst hu
    rfl
  have h63 : xs.length + 1 ≤ maxLen := by unfold maxLen; omega
  obtain ⟨v', w', hr, o1, o2, _, o4⟩ := run_append_own_at (P := Try.prog) w b 30 ty 3 i _ 1 _ Try.underlying30 hi hz0 hz1 hz2 int_elem.zs int_elem.pos v xs.length (xs.map vint) hown ⟨bs, 0, none⟩ 1 c [vint y] rfl hnews hone h63 (by omega) hb
  rw [← happ] at o1
  refine ⟨v', w', hr, o1, ?_⟩
  rcases hown.2 with ⟨rfl, hz⟩ | ⟨g, cap, cur, rfl, hbg, hg, hnc, hcm, hcs, htake⟩
  · obtain ⟨g, e⟩ := h0 hz
    cases e
  · have hglt : g < w.heap.size := (Array.getElem?_eq_some_iff.1 hg).1
    by_cases hroom : xs.length + 1 ≤ cap
    · have hn1 : 1 ≤ xs.length := by
        refine Nat.one_le_iff_ne_zero.2 fun e => ?_
        obtain ⟨g', e'⟩ := h0 e
        simp only [Value.slice.injEq] at e'
        omega
      have hr2 := run_append_room (P := Try.prog) w 30 ty 3 i Try.underlying30 hi g xs.length cap cur hg ⟨bs, 0, none⟩ 1 c [vint y] (by rw [hz1]; rfl) hnews hone hroom (by rw [hz1, hcs]; simp; omega)
      rw [hr] at hr2
      injection hr2 with e1 e2
      have hnew : w'.heap[g]? = some (.cells (cur.toList.take (xs.length * 1) ++ [vint y] ++ cur.toList.drop (xs.length * 1 + 1)).toArray 3) := by
        rw [e2, hz1]
        exact setRow_heap w g cur _ _ _ hg
      have hoth : ∀ k, k < w.heap.size → k ≠ g → w'.heap[k]? = w.heap[k]? := fun k hk hne => o2.block k hk fun e => hne (Option.some.inj e)
      refine ⟨⟨o2.os, o2.tape, o2.output, o2.size, fun k hk => hoth k (by omega) (by omega)⟩, fun k o ho hh => ?_, fun v2 n2 ys hny ho => ?_, fun g2 ys zs ey hh => ?_⟩
      · by_cases e : k = g
        · subst e
          rw [hg] at hh
          injection hh with hh
          simp only [keptI, List.mem_cons, List.not_mem_nil, or_false] at ho
          rcases ho with rfl | rfl
          · injection hh with h1 _
            rw [h1] at hcs
            simp at hcs
            omega
          · injection hh with h1 _
            rw [h1] at hcs
            simp at hcs
            omega
        · rw [hoth k (Array.getElem?_eq_some_iff.1 hh).1 e]; exact hh
      · refine ⟨ho.1, ?_⟩
        rcases ho.2 with h | ⟨g2, cap2, cur2, rfl, hbg2, hg2, hnc2, hcm2, hcs2, htake2⟩
        · exact .inl h
        · refine .inr ?_
          by_cases e : g2 = g
          · subst e
            rw [hg] at hg2
            injection hg2 with hg2
            injection hg2 with h1 _
            subst h1
            refine ⟨g2, cap2, _, rfl, hbg2, hnew, hnc2, hcm2, ?_, ?_⟩
            · simp only [List.size_toArray, List.length_append, List.length_take, List.length_drop, Array.length_toList, List.length_cons, List.length_nil]
              omega
            · rcases hny with ⟨rfl, rfl⟩ | ⟨rfl, rfl⟩
              · rw [htake, List.append_assoc]
                have hlx : (xs.map vint).length = xs.length * 1 := by simp
                rw [← hlx]
                exact List.take_left
              · rw [htake, happ]
                have hlx : (xs.map vint ++ [vint y]).length = (xs.length + 1) * 1 := by simp
                rw [← hlx]
                exact List.take_left
          · exact ⟨g2, cap2, cur2, rfl, hbg2, (hoth g2 (Array.getElem?_eq_some_iff.1 hg2).1 e).trans hg2, hnc2, hcm2, hcs2, htake2⟩
      · have hcell : ∀ k, k < ys.length → w.cell? ⟨g2, k, none⟩ = (ys.map vint)[k]? := fun k hk => by
          obtain ⟨ad, e, hc⟩ := hh k (by simpa using hk)
          cases Option.some.inj e
          rw [add_zero'] at hc
          exact hc
        have hsame : w'.heap[g2]? = w.heap[g2]? := by
          by_cases e : g2 = g
          · subst e
            have h1 := hcell xs.length (by rw [ey]; simp)
            rw [cell_heap hg, ey] at h1
            simp only [List.map_append, List.map_cons] at h1
            rw [List.getElem?_append_right (by simp)] at h1
            simp only [List.length_map, Nat.sub_self, List.getElem?_cons_zero] at h1
            rw [hnew, hg]
            have h2 : cur.toList[xs.length]? = some (vint y) := by simpa using h1
            obtain ⟨h3, h4⟩ := List.getElem?_eq_some_iff.1 h2
            have h5 : List.take (xs.length * 1) cur.toList ++ [vint y] ++ List.drop (xs.length * 1 + 1) cur.toList = cur.toList := by
              rw [Nat.mul_one, ← h4, List.append_assoc, List.singleton_append, ← List.drop_eq_getElem_cons h3, List.take_append_drop]
            rw [h5]
          · have hlt : g2 < w.heap.size := by
              have h1 := hcell 0 (by rw [ey]; simp; omega)
              rw [List.getElem?_eq_getElem (by rw [ey]; simp; omega)] at h1
              exact World.block_lt_of_cell? w ⟨g2, 0, none⟩ h1
            exact hoth g2 hlt e
        intro k hk
        obtain ⟨ad, e, hc⟩ := hh k hk
        cases Option.some.inj e
        refine ⟨_, rfl, ?_⟩
        rw [← hc]
        rw [add_zero']
        simp only [World.cell?, hsame]
    · have holds : ∀ j u, (xs.map vint)[j]? = some u → w.cell? ((⟨g, 0, none⟩ : Addr).add j) = some u := hown.cells (g := g) rfl
      have hr2 := run_append_grow (P := Try.prog) w 30 ty 3 i _ Try.underlying30 hi hz0 ⟨g, 0, none⟩ xs.length cap (xs.map vint) (by rw [hz1]; exact hown.1) holds ⟨bs, 0, none⟩ 1 c [vint y] (by rw [hz1]; rfl) hnews (by omega) (by omega) (by rw [hz2]; exact growslice_fits (by omega) (by omega))
      rw [hr] at hr2
      injection hr2 with e1 e2
      subst e2
      exact GrI.of_ext (by simp) hb
/-- The first append: numbers, copied. -/
theorem copy_int {w : World} {base b c : Nat} {B : Option Addr} {xs : List Int} (ty : TypeId) (hb : w.heap[b]? = some (.cells #[] 3)) (hbb : base ≤ b) (hB : Ints w B xs) (hl : xs.length ≤ 1000) :
    ∃ v' w', (Builtin.append_ #[30, 30] ty #[.slice (some ⟨b, 0, none⟩) 0 0, .slice B xs.length c]).run Try.prog w = .ok v' w' ∧ Ext w w' ∧ w'.ownsRow base 3 1 v' xs.length (xs.map vint) ∧ (xs.length = 0 → ∃ g, v' = .slice (some ⟨g, 0, none⟩) 0 0) := by
  by_cases h0 : xs.length = 0
  · obtain rfl : xs = [] := List.eq_nil_of_length_eq_zero h0
    have hown0 : w.ownsRow base 3 1 (.slice (some ⟨b, 0, none⟩) 0 0) 0 [] := ⟨by simp, .inr ⟨b, 0, #[], rfl, hbb, hb, by omega, by unfold maxLen; omega, by simp, by simp⟩⟩
    obtain ⟨i, hi, hz0, hz1, hz2⟩ := int_elem.info
    have hs : Src Try.prog i.size 30 (.slice B 0 c) 0 [] w := by
      cases B with
      | none => exact Src.ofNil w Try.underlying30 c
      | some a => exact Src.ofSlice w Try.underlying30 a _ c _ (by simp) (fun j u hu => by simp at hu) (fun u hu => by simp at hu)
    exact ⟨_, w, run_append_nothing w 30 30 ty 3 i Try.underlying30 hi _ 0 0 (Nat.le_refl _) _ hs, Ext.refl _, hown0, fun _ => ⟨b, rfl⟩⟩
  · obtain ⟨v', w', hr, hx, ho, _⟩ := app_copy (w := w) (base := base) (c := c) int_elem Try.underlying30 ty hb hbb (xs := xs.map vint) (n := xs.length) (by simp) hB (ints_cells_one xs) hl (by omega)
    exact ⟨v', w', hr, hx, ho, fun h => absurd h h0⟩
end Go.Proofs.Yteilglljigjefaa

/- The reference's closing, where no hinge is left. -/
namespace Go.Proofs.Yteilglljigjefaa
open Go.RowKit
/-- What the reference's closing answers. -/
def ClQ (w : World) (R : Option Addr) (rs : List Int) (o : Option (List Nat)) (e : Ending) (w' : World) : Prop :=
  ∃ v, e = .returned (.tuple #[v, .bool o.isSome]) ∧ Ext w w' ∧ ∀ r, o = some r → ∃ X x, v = .slice X (rs.length + r.length) x ∧ Ints w' X (rs ++ r.map fun (m : Nat) => (m : Int)) ∧ (X = R ∨ ∃ g, X = some ⟨g, 0, none⟩)
theorem gap0_yes {p : Ps} {a b : Sp} (h : (plc p a).x = b.x * p.d) : gap0 p a b = ((plc p a).y == b.y * p.d) := by
  unfold gap0 gapS
  rw [h]
  by_cases h2 : (plc p a).y = b.y * p.d
  · rw [h2]; simp [s0]
  · have : ¬ (plc p a).y - b.y * p.d = 0 := by omega
    simp [s0, this, h2]
theorem gap0_no {p : Ps} {a b : Sp} (h : ¬ (plc p a).x = b.x * p.d) : gap0 p a b = false := by
  unfold gap0 gapS
  have : ¬ (plc p a).x - b.x * p.d = 0 := by omega
  simp [s0, this]
set_option maxRecDepth 100000 in
set_option maxHeartbeats 8000000 in
theorem closing_zero (A : Option Addr) (c np : Nat) (B : Option Addr) (d nh : Nat) (a b : Sp) (R : Option Addr) (rc : Nat) (rs : List Int) (p : Ps) (w : World) (hp : PoseOk p 3) (ha : spotB a) (hb : spotB b) (hr : Ints w R rs) (hn : rs.length = nh) :
    Calls Try.prog 57 #[.agg #[.slice A np c, .slice B nh d], a.val, b.val, .slice R rs.length rc, p.val] w fun e w' => ClQ w R rs (clo a b [] p) e w' := by
  have hfin : ∀ w', Ext w w' → ClQ w R rs (clo a b [] p) (.returned (.tuple #[.slice R rs.length rc, .bool (gap0 p a b)])) w' := fun w' he => by
    have e : clo a b [] p = if gap0 p a b then some [] else none := by unfold clo; rfl
    refine ⟨.slice R rs.length rc, ?_, he, fun r hr2 => ?_⟩
    · rw [e]; cases gap0 p a b <;> rfl
    · rw [e] at hr2
      cases hg : gap0 p a b with
      | false => rw [hg] at hr2; simp at hr2
      | true =>
        rw [hg] at hr2
        simp only [if_true, Option.some.injEq] at hr2
        subst hr2
        exact ⟨_, _, rfl, by simpa using (show Ints w' R rs from Row.ext hr he), .inl rfl⟩
  have hat := fun w' => at_any p a w' (psOk hp) ha
  have hy := fun h => gap0_yes (p := p) (a := a) (b := b) h
  have hno := fun h => gap0_no (p := p) (a := a) (b := b) h
  obtain ⟨⟨q1, q2⟩, ⟨q3, q4⟩, ⟨q5, q6⟩, ⟨q7, q8⟩, ⟨q9, q10⟩⟩ := pose_small hp
  have e1 := prod_le (a := b.x) (s := p.d) (d := 50) (m := 15625) hb.1.1 hb.1.2 (by omega) (by omega)
  have e2 := prod_le (a := b.y) (s := p.d) (d := 50) (m := 15625) hb.2.1 hb.2.2 (by omega) (by omega)
  have E1 : IntKind.i64.wrap (b.x * p.d) = b.x * p.d := by rw [IntKind.wrap_i64]; omega
  have E2 : IntKind.i64.wrap (b.y * p.d) = b.y * p.d := by rw [IntKind.wrap_i64]; omega
  have Hfin := Lib.hid hfin
  have Hat := Lib.hid hat
  have Hy := Lib.hid hy
  have Hno := Lib.hid hno
  clear hfin hat hy hno e1 e2 q1 q2 q3 q4 q5 q6 q7 q8 q9 q10 hp ha hb hr
  generalize gap0 p a b = G at *
  generalize plc p a = z at *
  generalize rs.length = rn at *
  subst hn
  obtain ⟨zx, zy⟩ := z
  obtain ⟨ax, ay⟩ := a
  obtain ⟨bx, bY⟩ := b
  obtain ⟨P, Q, X, Y, D⟩ := p
  have kl : Blk ((((w.alloc (.cells #[.slice A np c, .slice B rn d] 25)).alloc (.cells #[vint ax, vint ay] 27)).alloc (.cells #[vint bx, vint bY] 27)).alloc (.cells #[vint P, vint Q, vint X, vint Y, vint D] 82)) w.heap.size [.slice A np c, .slice B rn d] := (Blk.new _ _).ext ((((Ext.refl _).alloc _).alloc _).alloc _)
  have ka : Blk ((((w.alloc (.cells #[.slice A np c, .slice B rn d] 25)).alloc (.cells #[vint ax, vint ay] 27)).alloc (.cells #[vint bx, vint bY] 27)).alloc (.cells #[vint P, vint Q, vint X, vint Y, vint D] 82)) (w.heap.size + 1) [vint ax, vint ay] := (Blk.new' (cs := #[vint ax, vint ay]) (by simp)).ext (((Ext.refl _).alloc _).alloc _)
  have kb : Blk ((((w.alloc (.cells #[.slice A np c, .slice B rn d] 25)).alloc (.cells #[vint ax, vint ay] 27)).alloc (.cells #[vint bx, vint bY] 27)).alloc (.cells #[vint P, vint Q, vint X, vint Y, vint D] 82)) (w.heap.size + 1 + 1) [vint bx, vint bY] := (Blk.new' (cs := #[vint bx, vint bY]) (by simp)).ext ((Ext.refl _).alloc _)
  have kp : Blk ((((w.alloc (.cells #[.slice A np c, .slice B rn d] 25)).alloc (.cells #[vint ax, vint ay] 27)).alloc (.cells #[vint bx, vint bY] 27)).alloc (.cells #[vint P, vint Q, vint X, vint Y, vint D] 82)) (w.heap.size + 1 + 1 + 1) [vint P, vint Q, vint X, vint Y, vint D] := Blk.new' (cs := #[vint P, vint Q, vint X, vint Y, vint D]) (by simp)
  have l1 := kl.at_ 1 rfl
  have a0 := ka.at_ 0 rfl
  have a1 := ka.at_ 1 rfl
  have b0 := kb.at_ 0 rfl
  have b1 := kb.at_ 1 rfl
  have p0 := kp.at_ 0 rfl
  have p1 := kp.at_ 1 rfl
  have p2 := kp.at_ 2 rfl
  have p3 := kp.at_ 3 rfl
  have p4 := kp.at_ 4 rfl
  have hx0 : Ext w ((((w.alloc (.cells #[.slice A np c, .slice B rn d] 25)).alloc (.cells #[vint ax, vint ay] 27)).alloc (.cells #[vint bx, vint bY] 27)).alloc (.cells #[vint P, vint Q, vint X, vint Y, vint D] 82)) := ((((Ext.refl _).alloc _).alloc _).alloc _).alloc _
  have Hx0 := Lib.hid hx0
  clear kl ka kb kp hx0
  go_enter Try.func57, Try.ntmps57
  go_wp2_with (go_at_call 47; refine (Hat.out _).mono ?_; rintro e w1 ⟨rfl, hx1⟩)
  have kz := Blk.new (W := w1) #[vint zx, vint zy] 27
  have hx2 : Ext w1 (w1.alloc (.cells #[vint zx, vint zy] 27)) := (Ext.refl _).alloc _
  generalize (w1.alloc (.cells #[vint zx, vint zy] 27)) = W1 at *
  have z0 := kz.at_ 0 rfl
  have z1 := kz.at_ 1 rfl
  have y0 : ∀ w', Ext W1 w' → _ := fun w' he => b0 w' ((hx1.trans hx2).trans he)
  have y1 : ∀ w', Ext W1 w' → _ := fun w' he => b1 w' ((hx1.trans hx2).trans he)
  have y4 : ∀ w', Ext W1 w' → _ := fun w' he => p4 w' ((hx1.trans hx2).trans he)
  have hxx := (Hx0.out.trans hx1).trans hx2
  clear b0 b1 p4 l1 a0 a1 p0 p1 p2 p3 kz hx1 hx2 Hat
  by_cases h : zx = bx * D
  · have d1 : (zx == bx * D) = true := by simp [h]
    have hG := Hy.out h
    rw [hG] at Hfin
    clear h hG Hy Hno
    go_wp2
    refine wp_region_calm 21 (fun _ _ _ _ => True) (fun _ _ _ _ _ _ h => h) (by kernel_rfl) (by kernel_rfl) ?_
    simp only [List.take_succ_cons, List.take_zero, List.drop_succ_cons, List.drop_zero]
    refine calm_quiet calm_mono_final 21 (by kernel_rfl) ?_
    simp only [List.take_succ_cons, List.take_zero, List.drop_succ_cons, List.drop_zero]
    repeat (go_big_quiet_step (fail))
    refine wpQuiet_nil ?_
    refine calm_nil fun w3 he3 _ => ?_
    have he3 : Ext W1 w3 := he3
    go_wp2
    go_ret2
    exact Hfin.out _ (hxx.trans he3)
  · have d1 : (zx == bx * D) = false := by simp [h]
    have hG := Hno.out h
    rw [hG] at Hfin
    clear h hG Hy Hno
    go_wp2
    refine wp_region_calm 21 (fun _ _ _ _ => True) (fun _ _ _ _ _ _ h => h) (by kernel_rfl) (by kernel_rfl) ?_
    simp only [List.take_succ_cons, List.take_zero, List.drop_succ_cons, List.drop_zero]
    refine calm_quiet calm_mono_final 10 (by kernel_rfl) ?_
    simp only [List.take_succ_cons, List.take_zero, List.drop_succ_cons, List.drop_zero]
    repeat (go_big_quiet_step (fail))
    refine wpQuiet_nil ?_
    refine calm_skip (by kernel_rfl) ?_
    simp only [Act.put, List.setIfInBounds_toArray, List.set_cons_succ, List.set_cons_zero]
    refine calm_skip (by kernel_rfl) ?_
    simp only [Act.put, List.setIfInBounds_toArray, List.set_cons_succ, List.set_cons_zero]
    refine calm_skip (by kernel_rfl) ?_
    simp only [Act.put, List.setIfInBounds_toArray, List.set_cons_succ, List.set_cons_zero]
    refine calm_skip (by kernel_rfl) ?_
    simp only [Act.put, List.setIfInBounds_toArray, List.set_cons_succ, List.set_cons_zero]
    refine calm_skip (by kernel_rfl) ?_
    simp only [Act.put, List.setIfInBounds_toArray, List.set_cons_succ, List.set_cons_zero]
    refine calm_skip (by kernel_rfl) ?_
    simp only [Act.put, List.setIfInBounds_toArray, List.set_cons_succ, List.set_cons_zero]
    refine calm_skip (by kernel_rfl) ?_
    simp only [Act.put, List.setIfInBounds_toArray, List.set_cons_succ, List.set_cons_zero]
    refine calm_skip (by kernel_rfl) ?_
    simp only [Act.put, List.setIfInBounds_toArray, List.set_cons_succ, List.set_cons_zero]
    refine calm_quiet calm_mono_final 3 (by kernel_rfl) ?_
    simp only [List.take_succ_cons, List.take_zero, List.drop_succ_cons, List.drop_zero]
    repeat (go_big_quiet_step (fail))
    refine wpQuiet_nil ?_
    refine calm_nil fun w3 he3 _ => ?_
    have he3 : Ext W1 w3 := he3
    go_wp2
    go_ret2
    exact Hfin.out _ (hxx.trans he3)
end Go.Proofs.Yteilglljigjefaa
