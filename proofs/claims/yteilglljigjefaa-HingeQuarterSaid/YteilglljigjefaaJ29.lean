/- Which panels clash: by the code. -/
import Derived.Test.YteilglljigjefaaJ28
import Derived.Test.YteilglljigjefaaJ16
namespace Go.Proofs.Yteilglljigjefaa
open Go.RowKit
theorem pair_elem : ElemInfo 91 (.agg #[.int .i64 0, .int .i64 0]) 2 16 := ⟨info_parts (by kernel_rfl), rfl, by decide⟩
theorem corners_elem : ElemInfo 111 (.slice none 0 0) 1 24 := ⟨info_parts (by kernel_rfl), rfl, by decide⟩
/-- The corners of panels, in the call's own memory. -/
structure Crns (w1 w : World) (vs : List Value) (ps : List (List Sp)) (hs : List Hg) (m : Nat) : Prop where
  len : vs.length = m
  own : ∀ k, k < m → Own w1 w 114 3 (vs.getD k undef) (pcrn ps hs k).length ((pcrn ps hs k).map Cn.cells).flatten
section
variable {w1 w w' : World} {vs : List Value} {ps : List (List Sp)} {hs : List Hg} {m : Nat}
theorem Crns.later (h : Crns w1 w vs ps hs m) (he : Ext w w') : Crns w1 w' vs ps hs m := ⟨h.len, fun k hk => (h.own k hk).later he⟩
theorem Crns.grown {row : Option Nat} (h : Crns w1 w vs ps hs m) (hg : w.grownBy w' row) (hx : Ext w1 w') (hne : ∀ k, k < m → ∀ g, (vs.getD k undef).ownBlock = some g → some g ≠ row) : Crns w1 w' vs ps hs m := ⟨h.len, fun k hk => (h.own k hk).grown hg hx (hne k hk)⟩
theorem Crns.snoc {x : Value} (h : Crns w1 w vs ps hs m) (ho : Own w1 w 114 3 x (pcrn ps hs m).length ((pcrn ps hs m).map Cn.cells).flatten) : Crns w1 w (vs ++ [x]) ps hs (m + 1) := by
  refine ⟨by simp [h.len], fun k hk => ?_⟩
  by_cases e : k < m
  · rw [show (vs ++ [x]).getD k undef = vs.getD k undef by simp [List.getD, List.getElem?_append_left (show k < vs.length by rw [h.len]; exact e)]]
    exact h.own k e
  · have e : k = m := by omega
    subst e
    rw [show (vs ++ [x]).getD k undef = x by simp [List.getD, ← h.len]]
    exact ho
/-- What stands at a place of the list, and in it. -/
theorem Crns.at_ {A : Option Addr} {c : Nat} (h : Crns w1 w vs ps hs m) (ho : Own w1 w 111 1 (.slice A m c) m vs) {k : Nat} (hk : k < m) : ∃ ad X x, A = some ad ∧ (∀ w', Ext w w' → w'.cell? (ad.add k) = some (.slice X (pcrn ps hs k).length x)) ∧ CRow w X (pcrn ps hs k) := by
  have h1 := h.own k hk
  obtain ⟨X, x, hX⟩ := h1.form
  rw [hX] at h1
  obtain ⟨ad, ha, hc⟩ := ho.row k (by rw [h.len]; exact hk)
  refine ⟨ad, X, x, ha, fun w' he => he.cell ?_, h1.row⟩
  rw [hc, List.getElem?_eq_getElem (by rw [h.len]; exact hk), ← hX]
  simp [List.getD, h.len, hk]
end
theorem field_apart (b : Bool) (x1 x2 x3 x4 x5 : Value) (w : World) : (Instr.field 67 (.agg #[.bool b, x1, x2, x3, x4, x5]) 0).run Try.prog w = .ok (.bool b) w := by kernel_rfl
def clF (ps : List (List Sp)) (hs : List Hg) (i k : Nat) : Bool := clashB (pcrn ps hs i) (pcrn ps hs k)
set_option maxRecDepth 100000 in
set_option maxHeartbeats 16000000 in
theorem clashes_any (A : Option Addr) (c : Nat) (ps : List (List Sp)) (B : Option Addr) (d : Nat) (hs : List Hg) (w : World) (hL : Lk w A ps B hs) (hl : linkP ps hs) :
    Calls Try.prog 70 #[.agg #[.slice A ps.length c, .slice B hs.length d]] w fun e w' => ∃ v, e = .returned v ∧ OwnQ w w' v (refC (clF ps hs) ps.length ps.length) := by
  have hpl := fun w' (he : Ext w w') => poses_any A ps.length c B d hs w' (hL.hB.ext he) hl.nh hl.hinges
  have hpa := fun k (hk : k < ps.length) => hL.hA.at_ hk
  have hps := hl.2.1
  have h4 := hl.1
  have hcr := fun k (hk : k < ps.length) (X : Option Addr) (x : Nat) w' (hX : SRow w' X (pnA ps k)) => (corners_any (posF hs k) X x (pnA ps k) w' hX (by have := ((linkP_iff.1 hl).2.2.1 k hk).1.2; omega) (psOk (link_pose hl hk)) ((linkP_iff.1 hl).2.2.1 k hk).2.1).mono (R' := fun e w'' => ∃ X x, e = .returned (.slice X (pcrn ps hs k).length x) ∧ Own w' w'' 114 3 (.slice X (pcrn ps hs k).length x) (pcrn ps hs k).length ((pcrn ps hs k).map Cn.cells).flatten) fun e w'' ⟨v, he, ho⟩ => by
    have ho : Own w' w'' 114 3 v (pcrn ps hs k).length ((pcrn ps hs k).map Cn.cells).flatten := ho
    obtain ⟨X, x, rfl⟩ := ho.form
    exact ⟨X, x, he, ho⟩
  have hap := fun i k (hi : i < ps.length) (hk : k < ps.length) (X Y : Option Addr) (x y : Nat) w' (hX : CRow w' X (pcrn ps hs i)) (hY : CRow w' Y (pcrn ps hs k)) => (apart_any X x (pcrn ps hs i) Y y (pcrn ps hs k) w' hX hY (pcrn_ok hl hi) (pcrn_ok hl hk)
    (fun j hj h => thr_right1 (link_pose hl hi) ((linkP_iff.1 hl).2.2.1 i hi) (by rw [pcrn_len] at hj; exact hj) h) (fun j hj h => thr_right2 (link_pose hl hk) ((linkP_iff.1 hl).2.2.1 k hk) (by rw [pcrn_len] at hj; exact hj) h)).mono
    (R' := fun e w'' => ∃ r I ic, e = .returned (Apr.val r I ic) ∧ Ext w' w'' ∧ r.clear = !clF ps hs i k) fun e w'' ⟨r, I, ic, he, _, hx, hr, _⟩ => ⟨r, I, ic, he, hx, by
      have := right_tells (link_pose hl hi) (link_pose hl hk) ((linkP_iff.1 hl).2.2.1 i hi) ((linkP_iff.1 hl).2.2.1 k hk) hr
      show r.clear = !clashB (pcrn ps hs i) (pcrn ps hs k)
      have e : clashB (pcrn ps hs i) (pcrn ps hs k) = !r.clear := this
      rw [e, Bool.not_not]⟩
  have hpA := fun k (hk : k ≤ hs.length) => posesL_psA (hs := hs) hk
  have hpl2 := posesL_len hs
  have hpl3 := fun k => pcrn_len ps hs k
  have Hpl := Lib.hid hpl
  have Hpa := Lib.hid hpa
  have Hcr0 := Lib.hid hcr
  have Hap0 := Lib.hid hap
  have HpA := Lib.hid hpA
  have Hpl2 := Lib.hid hpl2
  have Hpl3 := Lib.hid hpl3
  have Hsort := Lib.hid (sorted_pairs (clF ps hs) ps.length h4.2)
  have Hlen := Lib.hid (codeC_len (clF ps hs))
  have Hcs := Lib.hid (codeC_succ (clF ps hs))
  have Hrs := Lib.hid (rowC_succ (clF ps hs))
  have Hrl := Lib.hid (rowC_len (clF ps hs))
  clear hpl hpa hcr hap hpA hpl2 hpl3 hL hl
  generalize posesL hs = PL at *
  generalize clF ps hs = f at *
  generalize hs.length = nh at *
  generalize ps.length = np at *
  have kb : Blk (w.alloc (.cells #[.slice A np c, .slice B nh d] 25)) w.heap.size [.slice A np c, .slice B nh d] := Blk.new _ _
  have b0 := kb.at_ 0 rfl
  have b1 := kb.at_ 1 rfl
  have hx0 : Ext w (w.alloc (.cells #[.slice A np c, .slice B nh d] 25)) := (Ext.refl _).alloc _
  have Hx0 := Lib.hid hx0
  have B0 := Lib.hid b0
  clear kb hx0
  go_enter Try.func70, Try.ntmps70
  go_wp2_with (go_at_call 64; refine (Hpl.out _ Hx0.out).mono ?_; rintro e w1 ⟨v, rfl, hown0⟩; unfold OwnP at hown0; rw [Hpl2.out] at hown0; obtain ⟨g, cg, rfl, _, _⟩ := hown0.at_ (by omega))
  have hrow1 : PRow w1 (some ⟨g, 0, none⟩) PL := Own.row hown0
  have hx1 := hown0.ext
  have hxx := Hx0.out.trans hx1
  have Hrow := Lib.hid (fun k (hk : k < np) => hrow1.at_ (k := k) (by rw [Hpl2.out]; omega))
  have B1 := Lib.hid (fun w' (he : Ext w1 w') => B0.out w' (hx1.trans he))
  have Hxx := Lib.hid hxx
  clear hrow1 hown0 hx1 hxx b0 b1 B0 Hx0 Hpl
  have hnp : nh + 1 = np := hps
  go_loopw [12, 3] (fun i v wr => ∃ (k : Nat) (vs : List Value), k ≤ np ∧ i = .int .i64 k ∧ Own w1 wr 111 1 v k vs ∧ Crns w1 wr vs ps hs k) (fun i _ _ => np - (intOf i).toNat)
  case atStart => exact ⟨0, [], by omega, rfl, Own.nil _ _ _, ⟨rfl, fun k hk => absurd hk (by omega)⟩⟩
  case round =>
    obtain ⟨k, vs, hk, rfl, hown, hcn⟩ := hrel
    obtain ⟨Av, cv, rfl, hcap⟩ := hown.form2
    have hex := hown.ext
    by_cases hlt : k < np
    · obtain ⟨_, ee, p0, p1, p2, p3, p4⟩ := Hrow.out k hlt
      cases ee
      simp only [HpA.out k (by omega), add_zero'] at p0 p1 p2 p3 p4
      replace p0 : ∀ w', Ext wr w' → _ := fun w' he => p0 w' (hex.trans he)
      replace p1 : ∀ w', Ext wr w' → _ := fun w' he => p1 w' (hex.trans he)
      replace p2 : ∀ w', Ext wr w' → _ := fun w' he => p2 w' (hex.trans he)
      replace p3 : ∀ w', Ext wr w' → _ := fun w' he => p3 w' (hex.trans he)
      replace p4 : ∀ w', Ext wr w' → _ := fun w' he => p4 w' (hex.trans he)
      obtain ⟨ad, Y, yc, rfl, t0, hY⟩ := Hpa.out k hlt
      have hxr := Hxx.out.trans hex
      replace t0 : ∀ w', Ext wr w' → _ := fun w' he => t0 w' (hxr.trans he)
      have b0 : ∀ w', Ext wr w' → _ := fun w' he => B1.out w' (hex.trans he)
      have hcr := fun w' (he : Ext wr w') => Hcr0.out k hlt Y yc w' (hY.ext (hxr.trans he))
      have HH := Lib.hid (And.intro hown hcn)
      have Hcr1 := Lib.hid hcr
      have hkn : (k : Int) < (np : Int) := by omega
      clear hY hcr hown hcn Hcr0 Hap0 Hsort Hlen Hcs Hrs Hrl Hpa Hrow
      obtain ⟨cells, hcells⟩ : ∃ cells, cells = ((pcrn ps hs k).map Cn.cells).flatten := ⟨_, rfl⟩
      rw [← hcells] at Hcr1
      have Hcells := Lib.hid hcells
      clear hcells
      obtain ⟨m, hm⟩ : ∃ m, m = (pcrn ps hs k).length := ⟨_, rfl⟩
      rw [← hm] at Hcr1
      have Hm := Lib.hid hm
      clear hm
      obtain ⟨y, hy⟩ : ∃ y, y = (pnA ps k).length := ⟨_, rfl⟩
      rw [← hy] at t0 Hcr1
      clear hy
      generalize posF hs k = p at *
      go_wp2
      have kp : Blk (wr.alloc (.cells #[vint p.p, vint p.q, vint p.x, vint p.y, vint p.d] 82)) wr.heap.size [vint p.p, vint p.q, vint p.x, vint p.y, vint p.d] := Blk.new _ _
      have hxp : Ext wr (wr.alloc (.cells #[vint p.p, vint p.q, vint p.x, vint p.y, vint p.d] 82)) := (Ext.refl _).alloc _
      generalize (wr.alloc (.cells #[vint p.p, vint p.q, vint p.x, vint p.y, vint p.d] 82)) = wp at *
      have q0 := kp.at_ 0 rfl
      have q1 := kp.at_ 1 rfl
      have q2 := kp.at_ 2 rfl
      have q3 := kp.at_ 3 rfl
      have q4 := kp.at_ 4 rfl
      replace t0 : ∀ w', Ext wp w' → _ := fun w' he => t0 w' (hxp.trans he)
      replace b0 : ∀ w', Ext wp w' → _ := fun w' he => b0 w' (hxp.trans he)
      have Hcr := Lib.hid (fun w' (he : Ext wp w') => Hcr1.out w' (hxp.trans he))
      clear p0 p1 p2 p3 p4 kp Hcr1
      refine Cg.wp_region_calm (p := Cg.extPre) (fr := (fun _ => false)) 9 (fun j _ v w' => j = 7 → ∃ X x, v = .slice X m x ∧ Own wp w' 114 3 (.slice X m x) m cells) (fun _ _ _ _ _ he h hj => let ⟨X, x, e, ho⟩ := h hj; ⟨X, x, e, ho.later he⟩) (by kernel_rfl) (by kernel_rfl) ?_
      simp only [List.take_succ_cons, List.take_zero, List.drop_succ_cons, List.drop_zero]
      refine Cg.calm_quiet Cg.calm_mono_final wp (fun _ h => h) 7 (by kernel_rfl) ?_
      simp only [List.take_succ_cons, List.take_zero, List.drop_succ_cons, List.drop_zero]
      repeat (go_big_quiet_step (fail))
      refine wpQuiet_nil ?_
      refine Cg.calm_call Cg.calm_mono_final 61 #[p.val, .slice Y y yc] rfl (fun w => ?_) (fun w he hF => ?_) ?_
      · go_simp
      · exact (Hcr.out w (show Ext wp w from he)).mono fun e w'' ⟨X, x, e', ho⟩ => ⟨_, e', ho.ext, fun _ => ⟨X, x, rfl, ho.since (show Ext wp w from he)⟩, fun h => by cases h⟩
      rintro v _ _ h _
      obtain ⟨X6, x6, rfl, _⟩ := h rfl
      clear h
      simp only [Act.put, List.setIfInBounds_toArray, List.set_cons_succ, List.set_cons_zero]
      refine Cg.calm_value Cg.calm_mono_final (fun v w => ∃ b, v = .slice (some ⟨b, 0, none⟩) 1 1 ∧ w.heap[b]? = some (.cells #[.slice X6 m x6] 111)) (fun _ w' w'' hR ⟨b, e, hh⟩ => ⟨b, e, (show Ext w' w'' from hR).heap hh⟩) rfl (fun w' hR _ => ⟨.slice (some ⟨w'.heap.size, 0, none⟩) 1 1, w'.alloc (.cells #[.slice X6 m x6] 111), by go_simp, (Ext.refl _).alloc _, ⟨_, rfl, heap_alloc_new _ _⟩, fun hf => by cases hf⟩) ?_
      rintro v7 _ _ ⟨b7, rfl, _⟩ _
      simp only [Act.put, List.setIfInBounds_toArray, List.set_cons_succ, List.set_cons_zero]
      refine Cg.calm_nil fun w3 he3 hF => ?_
      have he3 : Ext wp w3 := he3
      obtain ⟨_, e7, hh7⟩ := (hF.1 8).2 rfl
      simp only [Value.slice.injEq, Option.some.injEq, Addr.mk.injEq, and_true] at e7
      subst e7
      obtain ⟨_, _, e6, ho6⟩ := (hF.1 7).1.2 rfl rfl
      simp only [Value.slice.injEq, true_and] at e6
      obtain ⟨rfl, rfl⟩ := e6
      clear hF
      have hx13 := hex.trans hxp
      have ho6' : Own w1 w3 114 3 (.slice X6 m x6) m cells := ho6.since hx13
      have hrow7 : Row w3 (some ⟨b7, 0, none⟩) [.slice X6 m x6] := row_heap hh7
      obtain ⟨hown, hcn⟩ := HH.out
      have hown3 := (hown.later hxp).later he3
      have hcn3 := (hcn.later hxp).later he3
      have hcn4 := hcn3.snoc (x := .slice X6 m x6) (by rw [← Hm.out, ← Hcells.out]; exact ho6')
      have H3 := Lib.hid (And.intro hown3 hcn4)
      clear hown hcn hown3 hcn3 hcn4 ho6 ho6' HH hh7 q0 q1 q2 q3 q4 t0 b0
      go_wp2_with (refine own_append_src (w1 := w1) corners_elem rfl _ _ 141 rfl Try.underlying141 _ k _ rfl H3.out.1 _ 1 1 _ rfl rfl hrow7 (by intro u hu; simp at hu; subst hu; rfl) (by omega) (by unfold maxLen; omega) ?_; intro v' w' ho hg; have hg : w3.grownBy w' (Value.slice Av k cv).ownBlock := hg)
      have hcn5 := H3.out.2.grown hg ho.ext (fun j hj g e1 e2 => (H3.out.2.own j hj).ne_own H3.out.1 (by decide) e2.symm e1)
      go_roundw
      case rel => exact ⟨k + 1, _, by omega, by go_num, ho, hcn5⟩
      case measure => simp [intOf]; omega
    · obtain rfl : np = k := by omega
      have Hat := Lib.hid (fun j (hj : j < np) => hcn.at_ hown hj)
      have Hxr := Lib.hid (Hxx.out.trans hex)
      clear hown hcn Hcr0 Hrow Hpa HpA Hpl3
      go_wp2
      obtain ⟨wo, rfl⟩ : ∃ wo : World, wo = wr := ⟨_, rfl⟩
      go_loopw [30, 6] (fun i v wr => ∃ k : Nat, k ≤ np ∧ i = .int .i64 k ∧ Own wo wr 91 2 v (codeC f k).length ((codeC f k).map pcells).flatten) (fun i _ _ => np - (intOf i).toNat)
      case atStart => exact ⟨0, by omega, rfl, Own.nil _ _ _⟩
      case round =>
        obtain ⟨i, hi, rfl, hown⟩ := hrel
        obtain ⟨Ao, co, rfl⟩ := hown.form
        by_cases hlt : i < np
        · obtain ⟨ad, _, _, rfl, _, _⟩ := Hat.out 0 (by omega)
          have c1 : (i : Int) ≤ (cv : Int) := by omega
          have c2 : (0 : Int) ≤ (i : Int) := by omega
          have hil : (codeC f i).length * 2 ≤ 16 := Nat.le_trans (Hlen.out i) (Nat.le_trans (Nat.mul_le_mul (show i ≤ 4 by omega) (show i ≤ 4 by omega)) (by omega))
          have Hown := Lib.hid (show Own wo wr 91 2 (.slice Ao (codeC f i).length co) (codeC f i ++ rowC f i 0).length ((codeC f i ++ rowC f i 0).map pcells).flatten by simpa [rowC] using hown)
          have hlc : (codeC f i).length = (codeC f i ++ rowC f i 0).length := by simp [rowC]
          have Hcs' := Lib.hid (Hcs.out i)
          clear hown
          go_wp2
          obtain ⟨wq, rfl⟩ : ∃ wq : World, wq = wr := ⟨_, rfl⟩
          go_loopw [38, 6] (fun j v wr => ∃ k : Nat, k ≤ i ∧ j = .int .i64 k ∧ Own wo wr 91 2 v (codeC f i ++ rowC f i k).length ((codeC f i ++ rowC f i k).map pcells).flatten) (fun j _ _ => i - (intOf j).toNat)
          case atStart => exact ⟨0, by omega, rfl, Hown.out⟩
          case round =>
            clear Hown
            obtain ⟨k, hk, rfl, hown⟩ := hrel
            obtain ⟨A9, c9, rfl⟩ := hown.form
            by_cases hlt2 : k < i
            · obtain ⟨_, X1, x1, ee, u0, hX1⟩ := Hat.out k (by omega)
              cases ee
              obtain ⟨_, X2, x2, ee, v0, hX2⟩ := Hat.out i hlt
              cases ee
              have hex2 := hown.ext
              replace u0 : ∀ w', Ext wr w' → _ := fun w' he => u0 w' (hex2.trans he)
              replace v0 : ∀ w', Ext wr w' → _ := fun w' he => v0 w' (hex2.trans he)
              have hap := fun w' (he : Ext wr w') => Hap0.out k i (by omega) hlt X1 X2 x1 x2 w' (hX1.ext (hex2.trans he)) (hX2.ext (hex2.trans he))
              have hrs := Hrs.out i k
              have hrl := Hrl.out i k
              have hll : (codeC f i ++ rowC f i k).length ≤ 12 := by rw [List.length_append]; omega
              have Hap := Lib.hid hap
              have hfl := fun (b : Bool) (x1 x2 x3 x4 x5 : Value) (w : World) => field_apart b x1 x2 x3 x4 x5 w
              have hki : (k : Int) < (i : Int) := by omega
              have hkn : (k : Int) < (np : Int) := by omega
              have hin : (i : Int) < (np : Int) := by omega
              have Hown := Lib.hid hown
              clear hap hX1 hX2 hown Hap0 Hat Hrs Hrl Hcs Hlen Hsort
              generalize (pcrn ps hs k).length = m1 at *
              generalize (pcrn ps hs i).length = m2 at *
              obtain ⟨bb, hbb⟩ : ∃ bb, bb = !f k i := ⟨_, rfl⟩
              rw [← hbb] at Hap
              cases bb
              · have hf : f k i = true := by simpa using hbb
                rw [hf] at hrs
                have hrs : rowC f i (k + 1) = rowC f i k ++ [((k : Int), (i : Int))] := hrs
                have Hrs' := Lib.hid hrs
                clear hf hbb hrs
                generalize hN : (codeC f i ++ rowC f i k).length = N at *
                go_wp2
                refine wp_region_calm 11 (fun j _ v _ => j = 8 → ∃ (r : Apr) (I : Option Addr) (ic : Nat), v = r.val I ic ∧ r.clear = false) (fun _ _ _ _ _ _ h => h) (by kernel_rfl) (by kernel_rfl) ?_
                simp only [List.take_succ_cons, List.take_zero, List.drop_succ_cons, List.drop_zero]
                refine calm_quiet calm_mono_final 8 (by kernel_rfl) ?_
                simp only [List.take_succ_cons, List.take_zero, List.drop_succ_cons, List.drop_zero]
                repeat (go_big_quiet_step (fail))
                refine wpQuiet_nil ?_
                refine calm_call calm_mono_final 74 #[.slice X1 m1 x1, .slice X2 m2 x2] rfl (fun w => ?_) (fun w he hF => ?_) ?_
                · go_simp
                · exact (Hap.out w he).mono fun e w'' ⟨r, I, ic, e', hx, hcl⟩ => ⟨_, e', hx, fun _ => ⟨r, I, ic, rfl, hcl⟩⟩
                rintro v _ _ h
                obtain ⟨⟨rc, rA, rB, rC, rE, ri⟩, I, ic, rfl, hcl⟩ := h rfl
                have hcl : rc = false := hcl
                subst hcl
                clear h
                simp only [Act.put, List.setIfInBounds_toArray, List.set_cons_succ, List.set_cons_zero]
                refine calm_quiet calm_mono_final 2 (by kernel_rfl) ?_
                simp only [List.take_succ_cons, List.take_zero, List.drop_succ_cons, List.drop_zero]
                repeat (go_big_quiet_step (fail))
                refine wpQuiet_nil ?_
                refine calm_nil fun w3 he3 _ => ?_
                have hown3 := Hown.out.later he3
                go_wp2_with (at_builtin; refine own_append (w1 := wo) pair_elem rfl _ _ 68 rfl Try.underlying68 _ N _ rfl hown3 #[.int .i64 k, .int .i64 i] 1 rfl rfl (by intro u hu; simp at hu; rcases hu with rfl | rfl <;> rfl) (by omega) (by unfold maxLen; omega) ?_; intro v' w' ho _)
                go_roundw
                case rel =>
                  refine ⟨k + 1, by omega, by go_num, ?_⟩
                  rw [Hrs'.out, ← List.append_assoc]
                  have e1 : (codeC f i ++ rowC f i k ++ [((k : Int), (i : Int))]).length = N + 1 := by rw [List.length_append, hN]; rfl
                  have e2 : ((codeC f i ++ rowC f i k ++ [((k : Int), (i : Int))]).map pcells).flatten = ((codeC f i ++ rowC f i k).map pcells).flatten ++ [.int .i64 k, .int .i64 i] := by simp [pcells]
                  rw [e1, e2]
                  exact ho
                case measure => simp [intOf]; omega
              · have hf : f k i = false := by simpa using hbb
                rw [hf] at hrs
                have hrs : rowC f i (k + 1) = rowC f i k := by rw [hrs]; simp
                have Hrs' := Lib.hid hrs
                clear hf hbb hrs
                generalize hN : (codeC f i ++ rowC f i k).length = N at *
                go_wp2
                refine wp_region_calm 11 (fun j _ v _ => j = 8 → ∃ (r : Apr) (I : Option Addr) (ic : Nat), v = r.val I ic ∧ r.clear = true) (fun _ _ _ _ _ _ h => h) (by kernel_rfl) (by kernel_rfl) ?_
                simp only [List.take_succ_cons, List.take_zero, List.drop_succ_cons, List.drop_zero]
                refine calm_quiet calm_mono_final 8 (by kernel_rfl) ?_
                simp only [List.take_succ_cons, List.take_zero, List.drop_succ_cons, List.drop_zero]
                repeat (go_big_quiet_step (fail))
                refine wpQuiet_nil ?_
                refine calm_call calm_mono_final 74 #[.slice X1 m1 x1, .slice X2 m2 x2] rfl (fun w => ?_) (fun w he hF => ?_) ?_
                · go_simp
                · exact (Hap.out w he).mono fun e w'' ⟨r, I, ic, e', hx, hcl⟩ => ⟨_, e', hx, fun _ => ⟨r, I, ic, rfl, hcl⟩⟩
                rintro v _ _ h
                obtain ⟨⟨rc, rA, rB, rC, rE, ri⟩, I, ic, rfl, hcl⟩ := h rfl
                have hcl : rc = true := hcl
                subst hcl
                clear h
                simp only [Act.put, List.setIfInBounds_toArray, List.set_cons_succ, List.set_cons_zero]
                refine calm_quiet calm_mono_final 2 (by kernel_rfl) ?_
                simp only [List.take_succ_cons, List.take_zero, List.drop_succ_cons, List.drop_zero]
                repeat (go_big_quiet_step (fail))
                refine wpQuiet_nil ?_
                refine calm_nil fun w3 he3 _ => ?_
                have Hown3 := Lib.hid (Hown.out.later he3)
                go_wp2
                go_roundw
                case rel => exact ⟨k + 1, by omega, by go_num, by rw [Hrs'.out, hN]; exact Hown3.out⟩
                case measure => simp [intOf]; omega
            · obtain rfl : i = k := by omega
              rw [← Hcs'.out] at hown
              have Hown := Lib.hid hown
              clear hown Hat Hap0
              go_wp2
              go_roundw
              case rel => exact ⟨i + 1, by omega, by go_num, by first | exact Hown.out | (rw [Hcs'.out]; rw [Hcs'.out] at Hown; exact Hown.out)⟩
              case measure => simp [intOf]; omega
        · obtain rfl : np = i := by omega
          have hnl : (codeC f np).length * 2 ≤ 16 := Nat.le_trans (Hlen.out np) (Nat.le_trans (Nat.mul_le_mul h4.2 h4.2) (by omega))
          have hs := sort_pairs wo (.slice Ao (codeC f np).length co) (codeC f np) wr hown (by omega)
          rw [Hsort.out] at hs
          have Hs := Lib.hid hs
          clear hs hown Hat Hap0 Hsort Hlen Hcs Hrs Hrl
          go_wp2_with (go_at_call 89; refine Hs.out.mono ?_; rintro e w9 ⟨rfl, ho9⟩)
          go_ret
          exact ⟨_, rfl, ho9.since Hxr.out⟩
end Go.Proofs.Yteilglljigjefaa

/- The pairs of panels that clash: by both. -/
namespace Go.Proofs.Yteilglljigjefaa
open Go.RowKit
def pairsR (ps : List (List Sp)) (hs : List Hg) : List (Int × Int) := if linkB ps hs = true then refC (clF ps hs) ps.length ps.length else []
set_option maxRecDepth 100000 in
set_option maxHeartbeats 8000000 in
theorem clashes_all (A : Option Addr) (c : Nat) (ps : List (List Sp)) (B : Option Addr) (d : Nat) (hs : List Hg) (w : World) (hL : Lk w A ps B hs) :
    Calls Try.prog 39 #[.agg #[.slice A ps.length c, .slice B hs.length d]] w fun e w' => ∃ v, e = .returned (.tuple #[v, .int .i64 (checkE ps hs)]) ∧ OwnQ w w' v (pairsR ps hs) := by
  have hck := fun w' (he : Ext w w') => (hL.ext he).check c d
  have hcs := fun (h : linkP ps hs) w' (he : Ext w w') => clashes_any A c ps B d hs w' (hL.ext he) h
  unfold pairsR
  rcases linkB_eq (ps := ps) (hs := hs) with ⟨h1, h2, h3⟩ | ⟨h1, h2, h3⟩
  · rw [h2, h3, if_pos rfl]
    rw [h3] at hck
    have hcs := hcs h1
    have Hck := Lib.hid hck
    have Hcs := Lib.hid hcs
    clear hck hcs hL h1 h2 h3
    generalize refC (clF ps hs) ps.length ps.length = R at *
    generalize ps.length = np at *
    generalize hs.length = nh at *
    have kb : Blk (w.alloc (.cells #[.slice A np c, .slice B nh d] 25)) w.heap.size [.slice A np c, .slice B nh d] := Blk.new _ _
    have b0 := kb.at_ 0 rfl
    have b1 := kb.at_ 1 rfl
    have hx0 : Ext w (w.alloc (.cells #[.slice A np c, .slice B nh d] 25)) := (Ext.refl _).alloc _
    have Hx0 := Lib.hid hx0
    clear kb hx0
    go_enter Try.func39, Try.ntmps39
    go_wp2_with (first
      | (go_at_call 30; refine (Hck.out _ Hx0.out).mono ?_; rintro e w1 ⟨rfl, hx1⟩; have hxx := Hx0.out.trans hx1; replace b0 : ∀ w', Ext w1 w' → _ := fun w' he => b0 w' (hx1.trans he); replace b1 : ∀ w', Ext w1 w' → _ := fun w' he => b1 w' (hx1.trans he))
      | (go_at_call 70; refine (Hcs.out _ hxx).mono ?_; rintro e w2 ⟨v, rfl, hown⟩))
    go_ret2
    exact ⟨_, rfl, hown.since hxx⟩
  · rw [h2, h3, if_neg (by simp)]
    rw [h3] at hck
    have Hck := Lib.hid hck
    clear hck hcs hL h1 h2 h3
    generalize ps.length = np at *
    generalize hs.length = nh at *
    have kb : Blk (w.alloc (.cells #[.slice A np c, .slice B nh d] 25)) w.heap.size [.slice A np c, .slice B nh d] := Blk.new _ _
    have b0 := kb.at_ 0 rfl
    have b1 := kb.at_ 1 rfl
    have hx0 : Ext w (w.alloc (.cells #[.slice A np c, .slice B nh d] 25)) := (Ext.refl _).alloc _
    have Hx0 := Lib.hid hx0
    clear kb hx0
    go_enter Try.func39, Try.ntmps39
    go_wp2_with (go_at_call 30; refine (Hck.out _ Hx0.out).mono ?_; rintro e w1 ⟨rfl, hx1⟩; have hxx := Hx0.out.trans hx1)
    go_ret2
    exact ⟨_, rfl, Own.nil' hxx _ _⟩
set_option maxRecDepth 100000 in
set_option maxHeartbeats 8000000 in
theorem clashes_ref (A : Option Addr) (c : Nat) (ps : List (List Sp)) (B : Option Addr) (d : Nat) (hs : List Hg) (w : World) (hL : Lk w A ps B hs) :
    Calls Try.prog 40 #[.agg #[.slice A ps.length c, .slice B hs.length d]] w fun e w' => ∃ v, e = .returned (.tuple #[v, .int .i64 (checkE ps hs)]) ∧ OwnQ w w' v (pairsR ps hs) := by
  have hck := fun w' (he : Ext w w') => (hL.ext he).valid c d
  unfold pairsR
  rcases linkB_eq (ps := ps) (hs := hs) with ⟨h1, h2, h3⟩ | ⟨h1, h2, h3⟩
  · rw [h2, h3, if_pos rfl]
    rw [h2] at hck
    have hcg := fun i k (hi : i < ps.length) (hk : k < ps.length) w' (he : Ext w w') => clashing_any A c ps B d hs i k w' (hL.ext he) h1 hi hk
    change ∀ i k (hi : i < ps.length) (hk : k < ps.length) w' (he : Ext w w'), Calls Try.prog 72 _ w' fun e w'' => e = .returned (.bool (clF ps hs i k)) ∧ Ext w' w'' at hcg
    have h4 := h1.1
    have Hck := Lib.hid hck
    have Hcg := Lib.hid hcg
    have Hlen := Lib.hid (refC_len (clF ps hs) ps.length)
    have Hrs := Lib.hid (refC_succ (clF ps hs) ps.length)
    have Hws := Lib.hid (rowR_succ (clF ps hs))
    have Hwl := Lib.hid (rowR_len (clF ps hs))
    clear hck hcg hL h1 h2 h3
    generalize clF ps hs = f at *
    generalize ps.length = np at *
    generalize hs.length = nh at *
    have kb : Blk (w.alloc (.cells #[.slice A np c, .slice B nh d] 25)) w.heap.size [.slice A np c, .slice B nh d] := Blk.new _ _
    have b0 := kb.at_ 0 rfl
    have b1 := kb.at_ 1 rfl
    have hx0 : Ext w (w.alloc (.cells #[.slice A np c, .slice B nh d] 25)) := (Ext.refl _).alloc _
    have Hx0 := Lib.hid hx0
    clear kb hx0
    go_enter Try.func40, Try.ntmps40
    go_wp2_with (go_at_call 65; refine (Hck.out _ Hx0.out).mono ?_; rintro e w1 ⟨rfl, hx1⟩; have hxx := Hx0.out.trans hx1; replace b0 : ∀ w', Ext w1 w' → _ := fun w' he => b0 w' (hx1.trans he); replace b1 : ∀ w', Ext w1 w' → _ := fun w' he => b1 w' (hx1.trans he))
    have B0 := Lib.hid b0
    have B1 := Lib.hid b1
    have Hxx := Lib.hid hxx
    clear b0 b1 hxx Hck hx1 Hx0
    go_loopw [5, 4] (fun i v wr => ∃ k : Nat, k ≤ np ∧ i = .int .i64 k ∧ Own w1 wr 91 2 v (refC f np k).length ((refC f np k).map pcells).flatten) (fun i _ _ => np - (intOf i).toNat)
    case atStart => exact ⟨0, by omega, rfl, Own.nil _ _ _⟩
    case round =>
      obtain ⟨i, hi, rfl, hown⟩ := hrel
      obtain ⟨Ao, co, rfl⟩ := hown.form
      have hex := hown.ext
      have b0 : ∀ w', Ext wr w' → _ := fun w' he => B0.out w' (hex.trans he)
      by_cases hlt : i < np
      · have hil : (refC f np i).length ≤ 16 := Nat.le_trans (Hlen.out i) (Nat.mul_le_mul (show np ≤ 4 by omega) (show i ≤ 4 by omega))
        have Hown := Lib.hid (show Own w1 wr 91 2 (.slice Ao (refC f np i).length co) (refC f np i ++ rowR f i (i + 1) 0).length ((refC f np i ++ rowR f i (i + 1) 0).map pcells).flatten by simpa [rowR] using hown)
        have Hrs' := Lib.hid (Hrs.out i)
        have hki : (i : Int) < (np : Int) := by omega
        clear hown
        go_wp2
        clear b0
        obtain ⟨wq, rfl⟩ : ∃ wq : World, wq = wr := ⟨_, rfl⟩
        go_loopw [6, 4] (fun j v wr => ∃ k : Nat, i + 1 + k ≤ np ∧ j = .int .i64 ((i + 1 + k : Nat) : Int) ∧ Own w1 wr 91 2 v (refC f np i ++ rowR f i (i + 1) k).length ((refC f np i ++ rowR f i (i + 1) k).map pcells).flatten) (fun j _ _ => np - (intOf j).toNat)
        case atStart => exact ⟨0, by omega, by go_num, Hown.out⟩
        case round =>
          clear Hown
          obtain ⟨k, hk, rfl, hown⟩ := hrel
          obtain ⟨A9, c9, rfl⟩ := hown.form
          have hex2 := hown.ext
          have b0 : ∀ w', Ext wr w' → _ := fun w' he => B0.out w' (hex2.trans he)
          have b1 : ∀ w', Ext wr w' → _ := fun w' he => B1.out w' (hex2.trans he)
          by_cases hlt2 : i + 1 + k < np
          · have hcg := fun w' (he : Ext wr w') => Hcg.out i (i + 1 + k) hlt hlt2 w' ((Hxx.out.trans hex2).trans he)
            have hws := Hws.out i (i + 1) k
            have hwl := Hwl.out i (i + 1) k
            have hll : (refC f np i ++ rowR f i (i + 1) k).length ≤ 30 := by rw [List.length_append]; omega
            have Hcg' := Lib.hid hcg
            have Hown := Lib.hid hown
            clear hcg hown Hcg Hws Hwl Hrs Hlen
            generalize hQ : i + 1 + k = q at *
            have hqn : (q : Int) < (np : Int) := by omega
            cases hf : f i q
            · rw [hf] at hws Hcg'
              have hws : rowR f i (i + 1) (k + 1) = rowR f i (i + 1) k := by rw [hws]; simp
              have Hws' := Lib.hid hws
              clear hf hws
              generalize hN : (refC f np i ++ rowR f i (i + 1) k).length = N at *
              go_wp2_with (go_at_call 72; refine (Hcg'.out _ (Ext.refl _)).mono ?_; rintro e w5 ⟨rfl, hx5⟩)
              go_roundw
              case rel => exact ⟨k + 1, by omega, by rw [← hQ]; go_num, by rw [Hws'.out, hN]; exact Hown.out.later hx5⟩
              case measure => simp [intOf]; omega
            · rw [hf] at hws Hcg'
              have hws : rowR f i (i + 1) (k + 1) = rowR f i (i + 1) k ++ [((i : Int), (q : Int))] := hws
              have Hws' := Lib.hid hws
              clear hf hws
              generalize hN : (refC f np i ++ rowR f i (i + 1) k).length = N at *
              go_wp2_with (first
                | (go_at_call 72; refine (Hcg'.out _ (Ext.refl _)).mono ?_; rintro e w5 ⟨rfl, hx5⟩; have hown3 := Hown.out.later hx5)
                | (at_builtin; refine own_append (w1 := w1) pair_elem rfl _ _ 68 rfl Try.underlying68 _ N _ rfl hown3 #[.int .i64 i, .int .i64 q] 1 rfl rfl (by intro u hu; simp at hu; rcases hu with rfl | rfl <;> rfl) (by omega) (by unfold maxLen; omega) ?_; intro v' w' ho _))
              go_roundw
              case rel =>
                refine ⟨k + 1, by omega, by rw [← hQ]; go_num, ?_⟩
                rw [Hws'.out, ← List.append_assoc]
                have e1 : (refC f np i ++ rowR f i (i + 1) k ++ [((i : Int), (q : Int))]).length = N + 1 := by rw [List.length_append, hN]; rfl
                have e2 : ((refC f np i ++ rowR f i (i + 1) k ++ [((i : Int), (q : Int))]).map pcells).flatten = ((refC f np i ++ rowR f i (i + 1) k).map pcells).flatten ++ [.int .i64 i, .int .i64 q] := by simp [pcells]
                rw [e1, e2]
                exact ho
              case measure => simp [intOf]; omega
          · have hkk : k = np - (i + 1) := by omega
            have hqe : i + 1 + k = np := by omega
            subst hkk
            rw [← Hrs'.out] at hown
            have Hown := Lib.hid hown
            rw [hqe]
            clear hown Hcg Hws Hwl Hrs Hlen
            go_wp2
            go_roundw
            case rel => exact ⟨i + 1, by omega, by go_num, by first | exact Hown.out | (rw [Hrs'.out]; rw [Hrs'.out] at Hown; exact Hown.out)⟩
            case measure => simp [intOf]; omega
      · obtain rfl : np = i := by omega
        have Hown := Lib.hid hown
        clear hown Hcg Hws Hwl Hrs Hlen
        go_wp2
        go_ret2
        exact ⟨_, rfl, Hown.out.since Hxx.out⟩
  · rw [h2, h3, if_neg (by simp)]
    rw [h2] at hck
    have Hck := Lib.hid hck
    clear hck hL h1 h2 h3
    generalize ps.length = np at *
    generalize hs.length = nh at *
    have kb : Blk (w.alloc (.cells #[.slice A np c, .slice B nh d] 25)) w.heap.size [.slice A np c, .slice B nh d] := Blk.new _ _
    have b0 := kb.at_ 0 rfl
    have b1 := kb.at_ 1 rfl
    have hx0 : Ext w (w.alloc (.cells #[.slice A np c, .slice B nh d] 25)) := (Ext.refl _).alloc _
    have Hx0 := Lib.hid hx0
    clear kb hx0
    go_enter Try.func40, Try.ntmps40
    go_wp2_with (go_at_call 65; refine (Hck.out _ Hx0.out).mono ?_; rintro e w1 ⟨rfl, hx1⟩; have hxx := Hx0.out.trans hx1)
    go_ret2
    exact ⟨_, rfl, Own.nil' hxx _ _⟩
end Go.Proofs.Yteilglljigjefaa

/- Clone of hinges; a linkage with one other angle: With, Bent. -/
namespace Go.Proofs.Yteilglljigjefaa
open Go.RowKit
/-- The hinges with another angle at one place. -/
def setAng (hs : List Hg) (k : Nat) (n : Int) : List Hg := hs.set k ⟨(hgA hs k).a, (hgA hs k).b, n⟩
theorem setAng_len (hs : List Hg) (k : Nat) (n : Int) : (setAng hs k n).length = hs.length := by simp [setAng]
theorem setAng_set {hs : List Hg} {k : Nat} (hk : k < hs.length) (m n : Int) : setAng (setAng hs k m) k n = setAng hs k n := by
  simp [setAng, hgA, List.getD, hk]
theorem setAng_cells : ∀ (hs : List Hg) (k : Nat) (n : Int), k < hs.length → (hs.map Hg.cells).flatten.set (k * 5 + 4) (vint n) = ((setAng hs k n).map Hg.cells).flatten
  | [], k, n, h => by simp at h
  | q :: t, 0, n, _ => by simp [Hg.cells, setAng, hgA]
  | q :: t, k + 1, n, h => by
    have ih := setAng_cells t k n (by simpa using h)
    have e1 : (k + 1) * 5 + 4 = k * 5 + 4 + 1 + 1 + 1 + 1 + 1 := by omega
    have e2 : setAng (q :: t) (k + 1) n = q :: setAng t k n := by simp [setAng, hgA]
    rw [e2]
    simp only [List.map_cons, List.flatten_cons, Hg.cells, List.cons_append, List.nil_append, List.set_cons_succ, e1] at ih ⊢
    rw [ih]
theorem setAng_link {ps : List (List Sp)} {hs : List Hg} {k : Nat} {n : Nat} (hl : linkP ps hs) (hk : k < hs.length) (hn : n < 36) : linkP ps (setAng hs k n) := by
  refine ⟨hl.1, by rw [setAng_len]; exact hl.2.1, hl.2.2.1, fun h hh => ?_⟩
  rcases List.mem_or_eq_of_mem_set hh with h1 | rfl
  · exact hl.2.2.2 h h1
  · have h1 := hl.2.2.2 (hgA hs k) (by rw [hgA_at hk]; exact List.getElem_mem hk)
    unfold hingeB at h1 ⊢
    simp only at h1 ⊢
    exact ⟨h1.1, h1.2.1, by omega, by omega⟩
abbrev OwnH (w1 w : World) (v : Value) (hs : List Hg) : Prop := Own w1 w 85 5 v hs.length (hs.map Hg.cells).flatten
theorem OwnH.row {w1 w : World} {A : Option Addr} {m c : Nat} {xs : List Hg} (h : OwnH w1 w (.slice A m c) xs) : HRow w A xs := Own.row h
theorem clone_hinges (A : Option Addr) (c : Nat) (hs : List Hg) (w : World) (hA : HRow w A hs) (hx : hs.length ≤ 1000) (hpos : 0 < hs.length) :
    Calls Try.prog 69 #[.slice A hs.length c] w fun e w' => ∃ v, e = .returned v ∧ OwnH w w' v hs := by
  have hA : Row w A (hs.map Hg.cells).flatten := hA
  have k1 : (hs.map Hg.cells).flatten.length = hs.length * 5 := Hg.cells_len hs
  obtain ⟨ad, rfl, _⟩ := hA 0 (by rw [k1]; omega)
  have k2 := Hg.cells_one hs
  have HA := Lib.hid hA
  obtain ⟨n, hn⟩ : ∃ n, n = hs.length := ⟨_, rfl⟩
  rw [← hn] at hx hpos k1 ⊢
  have Hn := Lib.hid hn
  have K1 := Lib.hid k1
  have K2 := Lib.hid k2
  clear hn hA k1 k2
  have hnil := fun W => Lib.run_eql_slice_nil (P := Try.prog) W 23 85 (some ad) n c 0 0 Try.underlying23
  go_enter Try.func69, Try.ntmps69
  have hown0 : Own w (w.alloc (.cells #[] 85)) 85 5 (.slice (some ⟨w.heap.size, 0, none⟩) 0 0) 0 [] := Own.lit (Ext.refl _) #[] 0 (Nat.zero_le _) rfl
  have hrow : Row (w.alloc (.cells #[] 85)) (some ad) (hs.map Hg.cells).flatten := Row.ext HA.out (by simp)
  go_wp2_with (at_builtin; refine own_append_src (w1 := w) hinge_elem rfl _ _ 23 rfl Try.underlying23 (.slice (some ⟨w.heap.size, 0, none⟩) 0 0) 0 [] rfl hown0 ad n c (hs.map Hg.cells).flatten rfl K1.out hrow K2.out (by omega) (by unfold maxLen; omega) ?_; intro v' w2 hown2 _)
  go_ret
  rw [Nat.zero_add, List.nil_append] at hown2
  refine ⟨_, rfl, ?_⟩
  show Own w w2 _ 5 v' hs.length _
  rw [← Hn.out]
  exact hown2
set_option maxRecDepth 100000 in
set_option maxHeartbeats 8000000 in
/-- The reference's With, of no angles: a linkage with hinges of its own. -/
theorem with_any (A : Option Addr) (c : Nat) (ps : List (List Sp)) (B : Option Addr) (d : Nat) (hs : List Hg) (w : World) (hL : Lk w A ps B hs) :
    Calls Try.prog 91 #[.agg #[.slice A ps.length c, .slice B hs.length d], .slice none 0 0] w fun e w' => ∃ B1 d1, e = .returned (.agg #[.slice A ps.length c, .slice B1 hs.length d1]) ∧ OwnH w w' (.slice B1 hs.length d1) hs := by
  have hcp := fun (w2 : World) (he : Ext w w2) (base b : Nat) (hb : w2.heap[b]? = some (.cells #[] 85)) (hbb : base ≤ b) => app_copy (w := w2) (base := base) (c := d) hinge_elem Try.underlying23 23 hb hbb (Hg.cells_len hs) (hL.hB.ext he) (Hg.cells_one hs) hL.nh (by omega)
  have Hcp := Lib.hid hcp
  clear hcp hL
  unfold OwnH
  generalize (hs.map Hg.cells).flatten = F at *
  generalize ps.length = np at *
  generalize hs.length = nh at *
  have kl : Blk ((w.alloc (.cells #[.slice A np c, .slice B nh d] 25)).alloc (.cells #[.slice none 0 0, .slice none 0 0] 25)) w.heap.size [.slice A np c, .slice B nh d] := (Blk.new _ _).ext ((Ext.refl _).alloc _)
  have kz : Whole ((w.alloc (.cells #[.slice A np c, .slice B nh d] 25)).alloc (.cells #[.slice none 0 0, .slice none 0 0] 25)) (w.heap.size + 1) #[.slice none 0 0, .slice none 0 0] 25 := Whole.new (by simp)
  have b0 := kl.at_ 0 rfl
  have b1 := kl.at_ 1 rfl
  have hx0 : Ext w ((w.alloc (.cells #[.slice A np c, .slice B nh d] 25)).alloc (.cells #[.slice none 0 0, .slice none 0 0] 25)) := ((Ext.refl _).alloc _).alloc _
  have Hx0 := Lib.hid hx0
  have Kz := Lib.hid kz
  clear kl kz hx0
  go_enter Try.func91, Try.ntmps91
  go_wp2
  generalize ((w.alloc (.cells #[.slice A np c, .slice B nh d] 25)).alloc (.cells #[.slice none 0 0, .slice none 0 0] 25)) = wr at *
  refine Cg.wp_region_calm (p := Cg.extPre) (fr := (fun _ => false)) 8 (fun _ _ _ _ => True) (fun _ _ _ _ _ _ h => h) (by kernel_rfl) (by kernel_rfl) ?_
  simp only [List.take_succ_cons, List.take_zero, List.drop_succ_cons, List.drop_zero]
  refine Cg.calm_quiet Cg.calm_mono_final wr (fun _ h => h) 2 (by kernel_rfl) ?_
  simp only [List.take_succ_cons, List.take_zero, List.drop_succ_cons, List.drop_zero]
  repeat (go_big_quiet_step (fail))
  refine wpQuiet_nil ?_
  refine Cg.calm_value Cg.calm_mono_final (fun v w => ∃ b, v = .slice (some ⟨b, 0, none⟩) 0 0 ∧ wr.heap.size ≤ b ∧ w.heap[b]? = some (.cells #[] 85)) (fun _ w' w'' hR ⟨b, e, hb, hh⟩ => ⟨b, e, hb, (show Ext w' w'' from hR).heap hh⟩) rfl (fun w' hR _ => ⟨.slice (some ⟨w'.heap.size, 0, none⟩) 0 0, w'.alloc (.cells #[] 85), by go_simp, (Ext.refl w').alloc _, ⟨_, rfl, (show Ext wr w' from hR).le, Go.heap_alloc_new _ _⟩, fun hf => by cases hf⟩) ?_
  rintro v2 _ _ ⟨b2, rfl, _, _⟩ _
  simp only [Act.put, List.setIfInBounds_toArray, List.set_cons_succ, List.set_cons_zero]
  refine Cg.calm_quiet Cg.calm_mono_final wr (fun _ h => h) 2 (by kernel_rfl) ?_
  simp only [List.take_succ_cons, List.take_zero, List.drop_succ_cons, List.drop_zero]
  repeat (go_big_quiet_step (fail))
  refine wpQuiet_nil ?_
  refine Cg.calm_value Cg.calm_mono_final (fun v w => w.ownsRow wr.heap.size 85 5 v nh F ∧ True) (fun _ w' w'' hR ⟨h1, h2⟩ => ⟨(show Ext w' w'' from hR).owns h1, h2⟩) rfl (fun w' hR hf => ?_) ?_
  · obtain ⟨b', eb, hbb, hb2⟩ := (hf 2 (by kernel_rfl)).2 rfl
    simp only [Value.slice.injEq, Option.some.injEq, Addr.mk.injEq, and_true] at eb
    subst eb
    obtain ⟨v', w'', hr, hx2, ho, _⟩ := Hcp.out w' (Hx0.out.trans hR) wr.heap.size _ hb2 hbb
    exact ⟨_, w'', exec_append _ _ 23 rfl rfl rfl hr, hx2, ⟨ho, trivial⟩, fun hf => by cases hf⟩
  rintro v4 wq hq ⟨ho4, _⟩ _
  obtain ⟨X4, c4, rfl⟩ : ∃ X4 c4, v4 = .slice X4 nh c4 := Own.form (w1 := wr) (w := wq) ⟨hq, ho4⟩
  clear ho4 hq
  simp only [Act.put, List.setIfInBounds_toArray, List.set_cons_succ, List.set_cons_zero]
  refine Cg.calm_value Cg.calm_mono_final (fun v _ => v = .agg #[.slice A np c, .slice X4 nh c4] ∧ True) (fun _ _ _ _ h => h) rfl (fun w' _ _ => ⟨.agg #[.slice A np c, .slice X4 nh c4], w', by go_simp, Ext.refl _, ⟨rfl, trivial⟩, fun hf => by cases hf⟩) ?_
  rintro _ _ _ ⟨rfl, _⟩ _
  simp only [Act.put, List.setIfInBounds_toArray, List.set_cons_succ, List.set_cons_zero]
  refine Cg.calm_value Cg.calm_mono_final (fun v w => ∃ b, v = .pointer (some ⟨b, 0, none⟩) ∧ wr.heap.size ≤ b ∧ w.heap[b]? = some (.cells #[.slice none 0 0, .slice none 0 0] 25)) (fun _ w' w'' hR ⟨b, e, hb, hh⟩ => ⟨b, e, hb, (show Ext w' w'' from hR).heap hh⟩) rfl (fun w' hR _ => ⟨.pointer (some ⟨w'.heap.size, 0, none⟩), w'.alloc (.cells #[.slice none 0 0, .slice none 0 0] 25), by go_simp, (Ext.refl _).alloc _, ⟨_, rfl, (show Ext wr w' from hR).le, heap_alloc_new _ _⟩, fun hf => by cases hf⟩) ?_
  rintro v5 _ _ ⟨b5, rfl, _, _⟩ _
  simp only [Act.put, List.setIfInBounds_toArray, List.set_cons_succ, List.set_cons_zero]
  refine Cg.calm_nil fun w3 he3 hF => ?_
  have he3 : Ext wr w3 := he3
  obtain ⟨_, e5, hg5, hh5⟩ := (hF.1 7).2 rfl
  simp only [Value.pointer.injEq, Option.some.injEq, Addr.mk.injEq, and_true] at e5
  subst e5
  obtain ⟨hx4, _⟩ := (hF.1 5).1.1.2 rfl
  clear hF
  have hS : Whole w3 b5 #[.slice none 0 0, .slice none 0 0] 25 := ⟨hh5⟩
  have hK := Whole.ext Kz.out he3
  have hh : Own w w3 85 5 (.slice X4 nh c4) nh F := (show Own wr w3 85 5 (.slice X4 nh c4) nh F from ⟨he3, hx4⟩).since Hx0.out
  have hge := Nat.le_trans Hx0.out.le hg5
  have hne : w.heap.size + 1 ≠ b5 := by
    have h1 := (Array.getElem?_eq_some_iff.1 Kz.out.h).1
    omega
  have hS5 := (hS.setCell 0 (.slice A np c)).setCell 1 (.slice X4 nh c4)
  have hK5 := (hK.farCell hne 0 (.slice A np c)).farCell hne 1 (.slice X4 nh c4)
  have hw5 := (hh.other (p := ⟨b5, 0, none⟩) hge (hh.ne_whole hS (by decide)) (.slice A np c)).other (p := ⟨b5, 1, none⟩) hge (hh.ne_whole hS (by decide)) (.slice X4 nh c4)
  have s0 := hS.cell 0 rfl
  have s1 := hS.cell 1 rfl
  have sf := hS.free
  have H5 := Lib.hid (And.intro hS5 (And.intro hK5 hw5))
  have Hne := Lib.hid hne
  clear hS5 hK5 hw5 hS hK hh hne hh5 hx4 b0 b1 Hcp Kz
  go_wp2
  obtain ⟨hS5, hK5, hh5⟩ := H5.out
  generalize ((w3.setCell ⟨b5, 0, none⟩ (.slice A np c)).setCell ⟨b5, 1, none⟩ (.slice X4 nh c4)) = w4 at *
  clear H5 s0 s1 sf
  go_loopw [6] (fun i wr => i = .int .i64 0 ∧ Whole wr b5 #[.slice A np c, .slice X4 nh c4] 25 ∧ Whole wr (w.heap.size + 1) #[.slice none 0 0, .slice none 0 0] 25 ∧ Own w wr 85 5 (.slice X4 nh c4) nh F) (fun _ _ => 0)
  case atStart => exact ⟨rfl, hS5, hK5, hh5⟩
  case round =>
    clear hS5 hK5 hh5
    obtain ⟨rfl, hS, hK, hh⟩ := hrel
    have s0 := hS.cell 0 rfl
    have s1 := hS.cell 1 rfl
    have z0 := hK.cell 0 rfl
    have z1 := hK.cell 1 rfl
    have zf := hK.free
    have hne := Hne.out
    have HH := Lib.hid (And.intro hS (And.intro hK hh))
    clear hS hK hh
    go_wp2
    obtain ⟨hS, hK, hh⟩ := HH.out
    have hge1 : w.heap.size ≤ w.heap.size + 1 := by omega
    have hh5 := (hh.other (p := ⟨w.heap.size + 1, 0, none⟩) hge1 (hh.ne_whole hK (by decide)) (.slice A np c)).other (p := ⟨w.heap.size + 1, 1, none⟩) hge1 (hh.ne_whole hK (by decide)) (.slice X4 nh c4)
    have hK5 := ((hK.setCell 0 (.slice A np c)).setCell 1 (.slice X4 nh c4)).blk
    refine bodyPost_ret (results_link rfl _ _ rfl hK5) rfl ?_
    exact ⟨_, _, rfl, hh5⟩
end Go.Proofs.Yteilglljigjefaa

/- The examples of the outright laws: a square, two squares with a hinge. -/
namespace Go.Proofs.Yteilglljigjefaa
open Go.RowKit
def sqL : List Sp := [⟨0, 0⟩, ⟨4, 0⟩, ⟨4, 4⟩, ⟨0, 4⟩]
def twL : List (List Sp) := [sqL, sqL]
def twH (n : Int) : List Hg := [⟨⟨4, 0⟩, ⟨0, 0⟩, n⟩]
set_option maxRecDepth 100000 in
theorem square_any (w : World) :
    Calls Try.prog 49 #[] w fun e w' => ∃ g, e = .returned (.slice (some ⟨g, 0, none⟩) 4 4) ∧ OwnS w w' (.slice (some ⟨g, 0, none⟩) 4 4) sqL := by
  have hrow : OwnS w (w.alloc (.cells #[.int .i64 0, .int .i64 0, .int .i64 4, .int .i64 0, .int .i64 4, .int .i64 4, .int .i64 0, .int .i64 4] 27)) (.slice (some ⟨w.heap.size, 0, none⟩) 4 4) sqL := Own.lit (e := 27) (size := 2) (Ext.refl _) #[.int .i64 0, .int .i64 0, .int .i64 4, .int .i64 0, .int .i64 4, .int .i64 4, .int .i64 0, .int .i64 4] 4 (by unfold maxLen; omega) rfl
  have H := Lib.hid hrow
  clear hrow
  go_enter Try.func49, Try.ntmps49
  go_wp2
  go_ret
  exact ⟨_, rfl, H.out⟩
theorem twL_ok {n : Nat} (hn : n < 36) : linkP twL (twH n) := by
  refine ⟨by decide, rfl, by decide, fun h hh => ?_⟩
  simp only [twH, List.mem_singleton] at hh
  subst hh
  exact ⟨(by decide : spotB ⟨4, 0⟩), (by decide : spotB ⟨0, 0⟩), by show (0 : Int) ≤ n; omega, by show (n : Int) ≤ 35; omega⟩
set_option maxRecDepth 100000 in
set_option maxHeartbeats 4000000 in
theorem two_link (n : Int) (w : World) :
    Calls Try.prog 48 #[.int .i64 n] w fun e w' => ∃ A B, e = .returned (.agg #[.slice A 2 2, .slice B 1 1]) ∧ Lk w' A twL B (twH n) ∧ Ext w w' := by
  have hz : Whole (w.alloc (.cells #[.slice none 0 0, .slice none 0 0] 25)) w.heap.size #[.slice none 0 0, .slice none 0 0] 25 := Whole.new rfl
  have hx0 : Ext w (w.alloc (.cells #[.slice none 0 0, .slice none 0 0] 25)) := (Ext.refl _).alloc _
  have hQ0 := Pans.nil w (w.alloc (.cells #[.slice none 0 0, .slice none 0 0] 25))
  have Hz := Lib.hid hz
  have HQ0 := Lib.hid hQ0
  have Hx0 := Lib.hid hx0
  clear hz hx0 hQ0
  go_enter Try.func48, Try.ntmps48
  go_wp2_with (first
    | (go_at_call 49; refine (square_any (w.alloc (.cells #[.slice none 0 0, .slice none 0 0] 25))).mono ?_; rintro e w1 ⟨g1, rfl, ho1⟩; have hQ1 := (HQ0.out.later ho1.ext).snoc HQ0.out Hx0.out ho1; have hZ1 := Whole.ext Hz.out ho1.ext; have hx1 := Hx0.out.trans ho1.ext; clear ho1)
    | (go_at_call 49; refine (square_any w1).mono ?_; rintro e w2 ⟨g2, rfl, ho2⟩; have hQ2 := (hQ1.later ho2.ext).snoc hQ1 hx1 ho2; have hZ2 := hZ1.ext ho2.ext; have hx2 := hx1.trans ho2.ext; clear ho2 hQ1 hZ1 hx1; have hZ3 := (hZ2.ext ((Ext.refl w2).alloc (.cells #[.slice (some ⟨g1, 0, none⟩) 4 4, .slice (some ⟨g2, 0, none⟩) 4 4] 40))).blk; have z0 := hZ3.at_ 0 rfl; have z1 := hZ3.at_ 1 rfl; have zf := hZ3.free; clear hZ3; have HH := Lib.hid (And.intro hQ2 (And.intro hZ2 hx2)); clear hQ2 hZ2 hx2))
  obtain ⟨hQ2, hZ2, hx2⟩ := HH.out
  have hx34 : Ext w2 ((w2.alloc (.cells #[.slice (some ⟨g1, 0, none⟩) 4 4, .slice (some ⟨g2, 0, none⟩) 4 4] 40)).alloc (.cells #[.int .i64 4, .int .i64 0, .int .i64 0, .int .i64 0, .int .i64 n] 85)) := ((Ext.refl _).alloc _).alloc _
  have hQ4 := hQ2.later hx34
  have hZ4 := hZ2.ext hx34
  have hP4 : Own w ((w2.alloc (.cells #[.slice (some ⟨g1, 0, none⟩) 4 4, .slice (some ⟨g2, 0, none⟩) 4 4] 40)).alloc (.cells #[.int .i64 4, .int .i64 0, .int .i64 0, .int .i64 0, .int .i64 n] 85)) 40 1 (.slice (some ⟨w2.heap.size, 0, none⟩) 2 2) 2 [.slice (some ⟨g1, 0, none⟩) 4 4, .slice (some ⟨g2, 0, none⟩) 4 4] := (Own.lit (e := 40) (size := 1) hx2 #[.slice (some ⟨g1, 0, none⟩) 4 4, .slice (some ⟨g2, 0, none⟩) 4 4] 2 (by unfold maxLen; omega) rfl).alloc _
  have hH4 : Own w ((w2.alloc (.cells #[.slice (some ⟨g1, 0, none⟩) 4 4, .slice (some ⟨g2, 0, none⟩) 4 4] 40)).alloc (.cells #[.int .i64 4, .int .i64 0, .int .i64 0, .int .i64 0, .int .i64 n] 85)) 85 5 (.slice (some ⟨w2.heap.size + 1, 0, none⟩) 1 1) 1 ((twH n).map Hg.cells).flatten := by
    have h := Own.lit (e := 85) (size := 5) (hx2.alloc (.cells #[.slice (some ⟨g1, 0, none⟩) 4 4, .slice (some ⟨g2, 0, none⟩) 4 4] 40)) #[.int .i64 4, .int .i64 0, .int .i64 0, .int .i64 0, .int .i64 n] 1 (by unfold maxLen; omega) rfl
    have e : (w2.alloc (.cells #[.slice (some ⟨g1, 0, none⟩) 4 4, .slice (some ⟨g2, 0, none⟩) 4 4] 40)).heap.size = w2.heap.size + 1 := by simp
    rw [e] at h
    exact h
  have hge : w.heap.size ≤ w.heap.size := Nat.le_refl _
  have hP5 := (hP4.other (p := ⟨w.heap.size, 0, none⟩) hge (hP4.ne_whole hZ4 (by decide)) (.slice (some ⟨w2.heap.size, 0, none⟩) 2 2)).other (p := ⟨w.heap.size, 1, none⟩) hge (hP4.ne_whole hZ4 (by decide)) (.slice (some ⟨w2.heap.size + 1, 0, none⟩) 1 1)
  have hH5 := (hH4.other (p := ⟨w.heap.size, 0, none⟩) hge (hH4.ne_whole hZ4 (by decide)) (.slice (some ⟨w2.heap.size, 0, none⟩) 2 2)).other (p := ⟨w.heap.size, 1, none⟩) hge (hH4.ne_whole hZ4 (by decide)) (.slice (some ⟨w2.heap.size + 1, 0, none⟩) 1 1)
  have hQ5 := (hQ4.other (p := ⟨w.heap.size, 0, none⟩) hge (fun j hj => (hQ4.own j hj).ne_whole hZ4 (by decide)) (.slice (some ⟨w2.heap.size, 0, none⟩) 2 2)).other (p := ⟨w.heap.size, 1, none⟩) hge (fun j hj => (hQ4.own j hj).ne_whole hZ4 (by decide)) (.slice (some ⟨w2.heap.size + 1, 0, none⟩) 1 1)
  have hK5 := ((hZ4.setCell 0 (.slice (some ⟨w2.heap.size, 0, none⟩) 2 2)).setCell 1 (.slice (some ⟨w2.heap.size + 1, 0, none⟩) 1 1)).blk
  have hL : Lk ((((w2.alloc (.cells #[.slice (some ⟨g1, 0, none⟩) 4 4, .slice (some ⟨g2, 0, none⟩) 4 4] 40)).alloc (.cells #[.int .i64 4, .int .i64 0, .int .i64 0, .int .i64 0, .int .i64 n] 85)).setCell ⟨w.heap.size, 0, none⟩ (.slice (some ⟨w2.heap.size, 0, none⟩) 2 2)).setCell ⟨w.heap.size, 1, none⟩ (.slice (some ⟨w2.heap.size + 1, 0, none⟩) 1 1)) (some ⟨w2.heap.size, 0, none⟩) twL (some ⟨w2.heap.size + 1, 0, none⟩) (twH n) :=
    ⟨hQ5.row hP5, OwnH.row hH5, by decide, by simp [twH], fun k hk => by
      rcases (by simp [twL] at hk; omega : k = 0 ∨ k = 1) with rfl | rfl <;> decide⟩
  refine bodyPost_ret (results_link rfl _ _ rfl hK5) rfl ?_
  exact ⟨_, _, rfl, hL, hP5.ext⟩
end Go.Proofs.Yteilglljigjefaa

/- The examples of the outright laws, in numbers. -/
namespace Go.Proofs.Yteilglljigjefaa
set_option maxRecDepth 100000
set_option maxHeartbeats 4000000
theorem ex_trn : trn 9 = (3, 4, 5) := by decide
theorem ex_poses : posesL (twH 9) = [⟨1, 0, 0, 0, 1⟩, ⟨3, 4, 20, 0, 5⟩] := by decide
theorem ex_crn : (crnS (posF (twH 9) 1) (pnA twL 1)) = [⟨20, 0⟩, ⟨32, 16⟩, ⟨16, 28⟩, ⟨4, 12⟩] := by decide
theorem ex_d : (posF (twH 9) 1).d = 5 := by decide
theorem ex_clash9 : clashB (pcrn twL (twH 9) 0) (pcrn twL (twH 9) 1) = true := by decide
theorem ex_clash3 : clashB (pcrn twL (twH 3) 0) (pcrn twL (twH 3) 1) = false := by decide
theorem ex_gap : gapS (lastP (twH 2)) ⟨4, 0⟩ ⟨4, 4⟩ = ⟨0, 0⟩ ∧ (lastP (twH 2)).d = 1 := by decide
theorem ex_clo : clo ⟨4, 0⟩ ⟨4, 4⟩ (twH 9) pose0 = some [2] := by decide
end Go.Proofs.Yteilglljigjefaa
