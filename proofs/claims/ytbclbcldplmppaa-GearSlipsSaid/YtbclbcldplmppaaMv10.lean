/- The sum of equations, by the reference. -/
import Derived.Test.YtbclbcldplmppaaMv09
namespace Go.Proofs.Ytbclbcldplmppaa
open Go.RowKit

set_option maxRecDepth 100000 in
set_option maxHeartbeats 4000000 in
theorem sums_ref (A : Option Addr) (c S : Nat) (ms : List Msh) (B : Option Addr) (d : Nat) (F : List Int) (w : World) (hA : MRow w A ms) (ht : trainP S ms) (hB : Ints w B F) (hF : sizedP F ms.length) :
    Calls Try.prog 101 #[.agg #[.int .i64 S, .slice A ms.length c], .slice B F.length d] w (SumRes w (outL S (sumT F (gearL ms S) ms.length))) := by
  have ha := fun k (hk : k < ms.length) => hA.at_ hk
  have ce := fun (k : Nat) (hk : k < ms.length) (w' : World) => factors_any ms[k] S w' (ht.2.2.2 k hk) (by have := ht.2.1; omega)
  have hl16 := ht.2.2.1
  have h8 : S ≤ 8 := by have := ht.2.1; omega
  have hfl := fun (k : Nat) (hk : k < ms.length) => facS_length ms[k] S
  have hFl : F.length = ms.length := hF.1
  have hb1 := fun (i k : Nat) (hi : i < ms.length) (hk : k < S) => mul_bound (hF.bound i) (gearL_bound ht i hi k hk)
  have hb2 := fun (i k : Nat) (hi : i ≤ ms.length) (hk : k < S) => sumT_bound hF.bound (gearL_bound ht) hk hi
  have hgl := fun (i k : Nat) (hi : i < ms.length) => (show gearL ms S i k = getI (facS ms[i] S) k by unfold gearL; rw [lineI_eq hi])
  have hb := fun (i : Nat) (hi : i < ms.length) => hB.some_ (by rw [hFl]; omega)
  rw [hFl] at hb
  have Ha := Lib.hid ha
  have Ce := Lib.hid ce
  have Hfl := Lib.hid hfl
  have Hb1 := Lib.hid hb1
  have Hb2 := Lib.hid hb2
  have Hgl := Lib.hid hgl
  have Hb := Lib.hid hb
  rw [hFl]
  clear ha ce hfl hb1 hb2 hgl hb hA ht hB hF hFl
  generalize gearL ms S = L at *
  obtain ⟨m, hm⟩ : ∃ m, m = ms.length := ⟨_, rfl⟩
  rw [← hm] at hl16 ⊢
  have Hm := Lib.hid hm
  clear hm
  go_enter Try.func101, Try.ntmps101
  have hexb : Ext w (w.alloc (.cells #[.int .i64 S, .slice A m c] 41)) := by simp
  have hp0 : ∀ w', Ext (w.alloc (.cells #[.int .i64 S, .slice A m c] 41)) w' → w'.cell? ⟨w.heap.size, 0, none⟩ = some (.int .i64 S) := fun w' he => he.cell (by simp)
  have hp1 : ∀ w', Ext (w.alloc (.cells #[.int .i64 S, .slice A m c] 41)) w' → w'.cell? ⟨w.heap.size, 1, none⟩ = some (.slice A m c) := fun w' he => he.cell (by simp)
  generalize hwb : w.alloc (.cells #[.int .i64 S, .slice A m c] 41) = wb at *
  go_wp2_with (first
    | (refine own_make (w1 := wb) int_elem rfl _ _ rfl Try.underlying22 _ S rfl rfl (by omega) (by unfold maxLen; omega) (Ext.refl _) ?_; intro w2 hown hx2; rw [made_ints] at hown; have hnew := NewInts.of_own hown))
  have Hexb := Lib.hid hexb
  have Hp0 := Lib.hid hp0
  have Hp1 := Lib.hid hp1
  have Hstart := Lib.hid hnew
  have hx2' := hx2
  clear hexb hp0 hp1 hown hnew hwb hx2 hx2'
  generalize wb.heap.size = g0 at *
  generalize w.heap.size = bx at *
  go_loopw [6] (fun i wr => ∃ k : Nat, k ≤ m ∧ i = .int .i64 k ∧ NewInts wb wr g0 (outL S (sumT F L k))) (fun i _ => m - (intOf i).toNat)
  case atStart => exact ⟨0, by omega, rfl, by have h := Hstart.out; rw [← outL_zero] at h; exact h⟩
  case round =>
    clear Hstart
    obtain ⟨wo, rfl⟩ : ∃ wo : World, wo = wr := ⟨_, rfl⟩
    obtain ⟨i, hi, rfl, hacc⟩ := hrel
    have hexw := Hexb.out.trans hacc.ext
    have hp0 : ∀ w', Ext wo w' → w'.cell? ⟨bx, 0, none⟩ = some (.int .i64 S) := fun w' he => Hp0.out w' (hacc.ext.trans he)
    have hp1 : ∀ w', Ext wo w' → w'.cell? ⟨bx, 1, none⟩ = some (.slice A m c) := fun w' he => Hp1.out w' (hacc.ext.trans he)
    by_cases hlt : i < m
    · have hip : i < ms.length := by rw [← Hm.out]; exact hlt
      obtain ⟨ad, rfl, q0, q1, q2, q3, q4, q5⟩ := Ha.out i hip
      obtain ⟨bd, rfl, hFc⟩ := Hb.out i hip
      have q0 : ∀ w', Ext wo w' → _ := fun w' he => q0 w' (hexw.trans he)
      have q1 : ∀ w', Ext wo w' → _ := fun w' he => q1 w' (hexw.trans he)
      have q2 : ∀ w', Ext wo w' → _ := fun w' he => q2 w' (hexw.trans he)
      have q3 : ∀ w', Ext wo w' → _ := fun w' he => q3 w' (hexw.trans he)
      have q4 : ∀ w', Ext wo w' → _ := fun w' he => q4 w' (hexw.trans he)
      have q5 : ∀ w', Ext wo w' → _ := fun w' he => q5 w' (hexw.trans he)
      have hFi := fun w' (he : Ext w w') => hFc i hip w' he
      have hce := Ce.out i hip
      have hfl := Hfl.out i hip
      have hb1 := fun k hk => Hb1.out i k hip hk
      have hb2 := fun k hk => Hb2.out i k (by omega) hk
      have hb3 := fun k hk => Hb2.out (i + 1) k (by omega) hk
      have hgl := fun k => Hgl.out i k hip
      have hki : (i : Int) < (m : Int) := by omega
      have HFi := Lib.hid hFi
      have Hce := Lib.hid hce
      have Hfl' := Lib.hid hfl
      have B1 := Lib.hid hb1
      have B2 := Lib.hid hb2
      have B3 := Lib.hid hb3
      have Hgl' := Lib.hid hgl
      have Hacc := Lib.hid hacc
      clear hce hfl hb1 hb2 hb3 hgl hFi hFc hacc Ha Ce Hfl Hb1 Hb2 Hgl Hb
      generalize facS ms[i] S = l at *
      generalize ms[i] = x at *
      obtain ⟨kind, xa, xb, xc, xn, xm⟩ := x
      simp only [Msh.val] at *
      go_wp2
      refine Cf.wp_region_calm (p := Cf.extPre) (fr := fun _ => false) 8 (fun _ _ v w => ∃ g, v = sl g l.length ∧ NewInts wo w g l) (fun _ _ _ _ _ he ⟨g, hg, hn⟩ => ⟨g, hg, hn.later he⟩) (by kernel_rfl) (by kernel_rfl) ?_
      simp only [List.take_succ_cons, List.take_zero, List.drop_succ_cons, List.drop_zero]
      refine Cf.calm_quiet Cf.calm_mono_final wo (fun _ h => h) 7 (by kernel_rfl) ?_
      simp only [List.take_succ_cons, List.take_zero, List.drop_succ_cons, List.drop_zero]
      repeat (go_big_quiet_step (fail))
      refine wpQuiet_nil ?_
      refine Cf.calm_call Cf.calm_mono_final 63 #[.agg #[.int .u8 kind, .int .i64 xa, .int .i64 xb, .int .i64 xc, .int .i64 xn, .int .i64 xm], .int .i64 S] rfl (fun w => ?_) (fun w he _ => ?_) ?_
      · go_simp
      · refine (Hce.out w).mono fun e w'' h => ?_
        obtain ⟨g, rfl, ho⟩ := h
        have hn := NewInts.of_own ho
        exact ⟨_, rfl, hn.ext, ⟨g, rfl, hn.since he⟩, fun hf => by cases hf⟩
      rintro v3 _ _ ⟨gf, rfl, _⟩ _
      simp only [Act.put, List.setIfInBounds_toArray, List.set_cons_succ, List.set_cons_zero]
      refine Cf.calm_nil fun w3 he3 hF => ?_
      have he3 : Ext wo w3 := he3
      obtain ⟨gf', eg, hnf⟩ := (hF.1 7).2 rfl
      simp only [sl, Value.slice.injEq, Option.some.injEq, Addr.mk.injEq, and_true] at eg
      subst eg
      clear hF
      have hp0' : ∀ w', Ext w3 w' → w'.cell? ⟨bx, 0, none⟩ = some (.int .i64 S) := fun w' he => hp0 w' (he3.trans he)
      have HP0 := Lib.hid hp0'
      go_wp2
      have hll : l.length = S := Hfl'.out
      have hxo3 : Ext wo w3 := he3
      have hgf : g0 < gf := by
        have h1 := Hacc.out.lt
        have h3 := hnf.2.1
        omega
      have hacc3 := Hacc.out.later hxo3
      have hf3 := hnf.2.2
      have Hacc3 := Lib.hid hacc3
      have Hf3 := Lib.hid hf3
      have Hll := Lib.hid hll
      clear hnf hxo3 hacc3 hf3 Hacc q0 q1 q2 q3 q4 q5 hp0 hp1 hp0' Hce he3
      (first | simp only [hll] | skip)
      clear hll
      go_loopw [8] (fun k wr => ∃ j : Nat, j ≤ S ∧ k = .int .i64 j ∧ NewInts wb wr g0 (outL S (accT F L i j)) ∧ wr.heap[gf]? = some (.cells (l.map vint).toArray 3)) (fun k _ => S - (intOf k).toNat)
      case atStart => exact ⟨0, by omega, rfl, by rw [accT_zero]; exact Hacc3.out, Hf3.out⟩
      case round =>
        clear Hacc3 Hf3
        obtain ⟨k, hk, rfl, hacc, hf⟩ := hrel
        have hp0 : ∀ w', Ext wr w' → w'.cell? ⟨bx, 0, none⟩ = some (.int .i64 S) := fun w' he => Hp0.out w' (hacc.ext.trans he)
        by_cases hlk : k < S
        · have hcf : ∀ w', Ext wr w' → w'.cell? ⟨gf, k, none⟩ = some (vint (getI l k)) := fun w' he => by
            rw [cell_heap (he.heap hf), List.getElem?_toArray, List.getElem?_map]
            have hkl : k < l.length := by rw [Hll.out]; exact hlk
            rw [getI_eq hkl]
            simp [hkl]
          have hca : ∀ w', Ext wr w' → w'.cell? ⟨g0, k, none⟩ = some (vint (sumT F L i k)) := fun w' he => by
            have := hacc.cell (k := k) (by rw [outL_len]; exact hlk)
            rw [outL_get hlk, accT_at] at this
            exact he.cell this
          have hfa : ∀ w', Ext wr w' → w'.frozen? ⟨g0, k, none⟩ = false := fun w' he => (hacc.later he).frz k
          have hcF : ∀ w', Ext wr w' → w'.cell? (bd.add i) = some (vint (getI F i)) := fun w' he => HFi.out w' (Hexb.out.trans (hacc.ext.trans he))
          have c1 := B1.out k hlk
          have c2 := B2.out k hlk
          have c3 := B3.out k hlk
          have hst := accT_step (F := F) (L := L) (i := i) (k := k) (n := S)
          have hsum : sumT F L (i + 1) k = sumT F L i k + getI F i * L i k := rfl
          have hL := Hgl'.out k
          simp only [← hL] at hcf
          rw [hsum] at c3
          have em : IntKind.i64.wrap (getI F i * L i k) = getI F i * L i k := by rw [IntKind.wrap_i64]; omega
          have ea : IntKind.i64.wrap (sumT F L i k + getI F i * L i k) = sumT F L i k + getI F i * L i k := by rw [IntKind.wrap_i64]; omega
          have Hst := Lib.hid hst
          have Hac := Lib.hid hacc
          have Hhf := Lib.hid hf
          have Hlt := Lib.hid hgf
          clear c1 c2 c3 hst hsum hL hacc hf hgf
          generalize getI F i = y at *
          generalize L i k = z at *
          generalize sumT F L i k = a at *
          have hki2 : (k : Int) < (S : Int) := by omega
          go_wp2
          refine Cf.wp_region_calm (p := Cf.extPre) (fr := fun _ => false) 15 (fun _ _ _ _ => True) (fun _ _ _ _ _ _ h => h) (by kernel_rfl) (by kernel_rfl) ?_
          simp only [List.take_succ_cons, List.take_zero, List.drop_succ_cons, List.drop_zero]
          refine Cf.calm_quiet Cf.calm_mono_final wr (fun _ h => h) 15 (by kernel_rfl) ?_
          simp only [List.take_succ_cons, List.take_zero, List.drop_succ_cons, List.drop_zero]
          repeat (go_big_quiet_step (fail))
          refine wpQuiet_nil ?_
          refine Cf.calm_nil fun w4 he4 hF => ?_
          clear hF
          have hca4 := hca w4 he4
          have hfa4 := hfa w4 he4
          go_wp2
          go_roundw
          case rel => exact ⟨k + 1, by omega, by go_num, by rw [← Hst.out]; exact (Hac.out.later he4).put k _, by rw [heap_other (by simp; have := Hlt.out; omega)]; exact he4.heap Hhf.out⟩
          case measure => simp [intOf]; omega
        · obtain rfl : k = S := by omega
          have hacc' := hacc
          rw [accT_full] at hacc'
          have Hac := Lib.hid hacc'
          clear hacc hacc' hf
          go_wp2
          go_roundw
          case rel => exact ⟨i + 1, by omega, by go_num, Hac.out⟩
          case measure => simp [intOf]; omega
    · obtain rfl : i = m := by omega
      have Hac := Lib.hid hacc
      clear hacc Ha Ce Hfl Hb1 Hb2 Hgl Hb
      go_wp2
      go_ret
      exact ⟨g0, by rw [outL_len]; rfl, (Hac.out.since Hexb.out)⟩
end Go.Proofs.Ytbclbcldplmppaa

/- Whether a list's numbers fit, and whether it is a motion: by the reference. -/
namespace Go.Proofs.Ytbclbcldplmppaa
open Go.RowKit

theorem fit_within (x : Int) : withinB x (-9007199254740992) 9007199254740992 = fitB x := by
  rw [Bool.eq_iff_iff, withinB_true]
  unfold fitB
  simp

set_option maxRecDepth 100000 in
set_option maxHeartbeats 1000000 in
theorem sized_ref (B : Option Addr) (d : Nat) (l : List Int) (n : Nat) (w : World) (hB : Ints w B l) (hl : l.length ≤ 1000000) :
    Calls Try.prog 98 #[.slice B l.length d, .int .i64 n] w fun e w' => e = .returned (.bool (decide (sizedP l n))) ∧ w = w' := by
  have hb := fun (i : Nat) (hi : i < l.length) => hB.some_ (by omega)
  have hgood : (∀ k, k < l.length → fitB (getI l k) = true) → ((l.length : Int) == (n : Int)) = decide (sizedP l n) := fun h => by
    rw [Bool.eq_iff_iff, beq_iff_eq, decide_eq_true_iff, sizedP_iff]
    exact ⟨fun e => ⟨by omega, h⟩, fun e => by have := e.1; omega⟩
  have hbad : ∀ k : Nat, k < l.length → fitB (getI l k) = false → false = decide (sizedP l n) := fun k hk h => (decide_eq_false fun h' => by
    have := (sizedP_iff.1 h').2 k hk
    rw [h] at this
    cases this).symm
  have Hb := Lib.hid hb
  have Hgood := Lib.hid hgood
  have Hbad := Lib.hid hbad
  clear hb hgood hbad hB
  generalize decide (sizedP l n) = res at *
  generalize l.length = q at *
  go_enter Try.func98, Try.ntmps98
  go_wp2
  go_loop [5] (fun i => ∃ k : Nat, k ≤ q ∧ i = .int .i64 k ∧ ∀ j, j < k → fitB (getI l j) = true) (fun i => q - (intOf i).toNat)
  case atStart => exact ⟨0, by omega, rfl, fun j hj => by omega⟩
  case round =>
    obtain ⟨k, hk, rfl, hall⟩ := hrel
    have Hall := Lib.hid hall
    clear hall
    by_cases hlt : k < q
    · obtain ⟨bd, rfl, hc0⟩ := Hb.out k hlt
      have hc := hc0 k hlt w (Ext.refl w)
      clear hc0
      have hbad := Hbad.out k hlt
      have hst : fitB (getI l k) = true → ∀ j, j < k + 1 → fitB (getI l j) = true := fun h j hj => by
        by_cases e : j = k
        · subst e; exact h
        · exact Hall.out j (by omega)
      have Hst := Lib.hid hst
      have Hbad' := Lib.hid hbad
      have hw := within_any (getI l k) (-9007199254740992) 9007199254740992 w
      rw [fit_within] at hw
      have CF := Lib.hid hw
      clear hst hbad Hb Hgood Hbad hw
      generalize getI l k = y at *
      generalize fitB y = b at *
      have hki : (k : Int) < (q : Int) := by omega
      cases b
      · go_wp2_with (first
          | (go_at_call 54; (with_reducible refine CF.out.mono ?_); rintro e w1 ⟨rfl, rfl⟩))
        go_ret
        exact ⟨ret_b (Hbad'.out (by trivial)), rfl⟩
      · go_wp2_with (first
          | (go_at_call 54; (with_reducible refine CF.out.mono ?_); rintro e w1 ⟨rfl, rfl⟩))
        go_round
        case rel => exact ⟨k + 1, by omega, by go_num, Hst.out (by trivial)⟩
        case measure => simp [intOf]; omega
    · obtain rfl : k = q := by omega
      have Hg := Lib.hid (Hgood.out Hall.out)
      clear Hb
      go_wp2
      go_ret
      exact ⟨by rw [← Hg.out]; rfl, rfl⟩

set_option maxRecDepth 100000 in
set_option maxHeartbeats 4000000 in
theorem moves_ref (A : Option Addr) (c S : Nat) (ms : List Msh) (B : Option Addr) (d : Nat) (x : List Int) (w : World) (hA : MRow w A ms) (ht : trainP S ms) (hB : Ints w B x) (hxl : x.length ≤ 1000000) :
    Calls Try.prog 99 #[.agg #[.int .i64 S, .slice A ms.length c], .slice B x.length d] w fun e w' => e = .returned (.bool (decide (movesP (gearL ms S) ms.length S x))) ∧ Ext w w' := by
  have cs := fun (w' : World) (he : Ext w w') => sized_ref B d x S w' (hB.ext he) hxl
  by_cases hsz : sizedP x S
  · have e1 : decide (sizedP x S) = true := decide_eq_true hsz
    rw [e1] at cs
    have ha := fun k (hk : k < ms.length) => hA.at_ hk
    have ce := fun (k : Nat) (hk : k < ms.length) (w' : World) => factors_any ms[k] S w' (ht.2.2.2 k hk) (by have := ht.2.1; omega)
    have hl16 := ht.2.2.1
    have h8 : S ≤ 8 := by have := ht.2.1; omega
    have hfl := fun (k : Nat) (hk : k < ms.length) => facS_length ms[k] S
    have hgl := fun (i k : Nat) (hi : i < ms.length) => (show gearL ms S i k = getI (facS ms[i] S) k by unfold gearL; rw [lineI_eq hi])
    have hb1 := fun (i k : Nat) (hi : i < ms.length) (hk : k < S) => mul_bound (hsz.bound k) (gearL_bound ht i hi k hk)
    have hb2 := fun (i k : Nat) (hi : i < ms.length) (hk : k ≤ S) => dotT_bound (c := gearL ms S i) hsz.bound (k := k) fun j hj => gearL_bound ht i hi j (by omega)
    have hb := fun (k : Nat) (hk : k < S) => hB.some_ (by rw [hsz.1]; omega)
    have hxS : x.length = S := hsz.1
    have hbad : ∀ i, i < ms.length → dotT x (gearL ms S i) S ≠ 0 → false = decide (movesP (gearL ms S) ms.length S x) := fun i hi h => (decide_eq_false fun h' => h (h'.2 i hi)).symm
    have hgood : (∀ i, i < ms.length → dotT x (gearL ms S i) S = 0) → true = decide (movesP (gearL ms S) ms.length S x) := fun h => (decide_eq_true ⟨hsz, h⟩).symm
    rw [hxS] at hb cs ⊢
    have Ha := Lib.hid ha
    have Ce := Lib.hid ce
    have Hfl := Lib.hid hfl
    have Hgl := Lib.hid hgl
    have Hb1 := Lib.hid hb1
    have Hb2 := Lib.hid hb2
    have Hb := Lib.hid hb
    have Hbad := Lib.hid hbad
    have Hgood := Lib.hid hgood
    have Cs := Lib.hid cs
    clear ha ce hfl hgl hb1 hb2 hb hbad hgood cs e1 hA ht hB hsz hxS hxl
    generalize decide (movesP (gearL ms S) ms.length S x) = res at *
    generalize gearL ms S = L at *
    obtain ⟨m, hm⟩ : ∃ m, m = ms.length := ⟨_, rfl⟩
    rw [← hm] at hl16 ⊢
    have Hm := Lib.hid hm
    clear hm
    go_enter Try.func99, Try.ntmps99
    have hexb : Ext w (w.alloc (.cells #[.int .i64 S, .slice A m c] 41)) := by simp
    have hp0 : ∀ w', Ext (w.alloc (.cells #[.int .i64 S, .slice A m c] 41)) w' → w'.cell? ⟨w.heap.size, 0, none⟩ = some (.int .i64 S) := fun w' he => he.cell (by simp)
    have hp1 : ∀ w', Ext (w.alloc (.cells #[.int .i64 S, .slice A m c] 41)) w' → w'.cell? ⟨w.heap.size, 1, none⟩ = some (.slice A m c) := fun w' he => he.cell (by simp)
    go_wp2_with (first
      | (go_at_call 98; refine (Cs.out _ (by simp)).mono ?_; rintro e w1 ⟨rfl, rfl⟩))
    generalize w.alloc (.cells #[.int .i64 S, .slice A m c] 41) = wb at *
    generalize w.heap.size = bx at *
    have Hexb := Lib.hid hexb
    have Hp0 := Lib.hid hp0
    have Hp1 := Lib.hid hp1
    clear hexb hp0 hp1 Cs
    go_loopw [5] (fun i wr => ∃ k : Nat, k ≤ m ∧ i = .int .i64 k ∧ Ext wb wr ∧ ∀ j, j < k → dotT x (L j) S = 0) (fun i _ => m - (intOf i).toNat)
    case atStart => exact ⟨0, by omega, rfl, Ext.refl _, fun j hj => by omega⟩
    case round =>
      obtain ⟨wo, rfl⟩ : ∃ wo : World, wo = wr := ⟨_, rfl⟩
      obtain ⟨i, hi, rfl, hex, hall⟩ := hrel
      have Hall := Lib.hid hall
      clear hall
      have hexw := Hexb.out.trans hex
      have hp0 : ∀ w', Ext wo w' → w'.cell? ⟨bx, 0, none⟩ = some (.int .i64 S) := fun w' he => Hp0.out w' (hex.trans he)
      have hp1 : ∀ w', Ext wo w' → w'.cell? ⟨bx, 1, none⟩ = some (.slice A m c) := fun w' he => Hp1.out w' (hex.trans he)
      by_cases hlt : i < m
      · have hip : i < ms.length := by rw [← Hm.out]; exact hlt
        obtain ⟨ad, rfl, q0, q1, q2, q3, q4, q5⟩ := Ha.out i hip
        have q0 : ∀ w', Ext wo w' → _ := fun w' he => q0 w' (hexw.trans he)
        have q1 : ∀ w', Ext wo w' → _ := fun w' he => q1 w' (hexw.trans he)
        have q2 : ∀ w', Ext wo w' → _ := fun w' he => q2 w' (hexw.trans he)
        have q3 : ∀ w', Ext wo w' → _ := fun w' he => q3 w' (hexw.trans he)
        have q4 : ∀ w', Ext wo w' → _ := fun w' he => q4 w' (hexw.trans he)
        have q5 : ∀ w', Ext wo w' → _ := fun w' he => q5 w' (hexw.trans he)
        have hce := Ce.out i hip
        have hfl := Hfl.out i hip
        have hb1 := fun k hk => Hb1.out i k hip hk
        have hb2 := fun k hk => Hb2.out i k hip hk
        have hgl := fun k => Hgl.out i k hip
        have hbad := Hbad.out i hip
        have hst : dotT x (L i) S = 0 → ∀ j, j < i + 1 → dotT x (L j) S = 0 := fun h j hj => by
          by_cases e : j = i
          · subst e; exact h
          · exact Hall.out j (by omega)
        have hki : (i : Int) < (m : Int) := by omega
        have Hce := Lib.hid hce
        have Hfl' := Lib.hid hfl
        have B1 := Lib.hid hb1
        have B2 := Lib.hid hb2
        have Hgl' := Lib.hid hgl
        have Hbad' := Lib.hid hbad
        have Hst := Lib.hid hst
        clear hce hfl hb1 hb2 hgl hbad hst Ha Ce Hfl Hb1 Hb2 Hgl Hbad Hgood
        generalize facS ms[i] S = l at *
        generalize ms[i] = y at *
        obtain ⟨kind, xa, xb, xc, xn, xm⟩ := y
        simp only [Msh.val] at *
        go_wp2
        refine Cf.wp_region_calm (p := Cf.extPre) (fr := fun _ => false) 8 (fun _ _ v w => ∃ g, v = sl g l.length ∧ NewInts wo w g l) (fun _ _ _ _ _ he ⟨g, hg, hn⟩ => ⟨g, hg, hn.later he⟩) (by kernel_rfl) (by kernel_rfl) ?_
        simp only [List.take_succ_cons, List.take_zero, List.drop_succ_cons, List.drop_zero]
        refine Cf.calm_quiet Cf.calm_mono_final wo (fun _ h => h) 7 (by kernel_rfl) ?_
        simp only [List.take_succ_cons, List.take_zero, List.drop_succ_cons, List.drop_zero]
        repeat (go_big_quiet_step (fail))
        refine wpQuiet_nil ?_
        refine Cf.calm_call Cf.calm_mono_final 63 #[.agg #[.int .u8 kind, .int .i64 xa, .int .i64 xb, .int .i64 xc, .int .i64 xn, .int .i64 xm], .int .i64 S] rfl (fun w => ?_) (fun w he _ => ?_) ?_
        · go_simp
        · refine (Hce.out w).mono fun e w'' h => ?_
          obtain ⟨g, rfl, ho⟩ := h
          have hn := NewInts.of_own ho
          exact ⟨_, rfl, hn.ext, ⟨g, rfl, hn.since he⟩, fun hf => by cases hf⟩
        rintro v3 _ _ ⟨gf, rfl, _⟩ _
        simp only [Act.put, List.setIfInBounds_toArray, List.set_cons_succ, List.set_cons_zero]
        refine Cf.calm_nil fun w3 he3 hF => ?_
        have he3 : Ext wo w3 := he3
        obtain ⟨gf', eg, hnf⟩ := (hF.1 7).2 rfl
        simp only [sl, Value.slice.injEq, Option.some.injEq, Addr.mk.injEq, and_true] at eg
        subst eg
        clear hF
        have hp0' : ∀ w', Ext w3 w' → w'.cell? ⟨bx, 0, none⟩ = some (.int .i64 S) := fun w' he => hp0 w' (he3.trans he)
        have HP03 := Lib.hid hp0'
        have hp03 := hp0 w3 he3
        go_wp2
        have hll : l.length = S := Hfl'.out
        have hxo3 : Ext wo w3 := he3
        have Hf3 := Lib.hid hnf.2.2
        have Hx3 := Lib.hid (hex.trans hxo3)
        have Hxw3 := Lib.hid (hexw.trans hxo3)
        have Hll := Lib.hid hll
        clear hnf hxo3 q0 q1 q2 q3 q4 q5 hp0 hp1 hp0' Hce hex hexw he3
        (first | simp only [hll] | skip)
        clear hll
        go_loopw [8, 7] (fun k n wr => ∃ j : Nat, j ≤ S ∧ k = .int .i64 j ∧ n = .int .i64 (dotT x (L i) j) ∧ Ext w3 wr) (fun k _ _ => S - (intOf k).toNat)
        case atStart => exact ⟨0, by omega, rfl, rfl, Ext.refl _⟩
        case round =>
          obtain ⟨k, hk, rfl, rfl, hxr⟩ := hrel
          have hp03 : ∀ w', Ext wr w' → w'.cell? ⟨bx, 0, none⟩ = some (.int .i64 S) := fun w' he => HP03.out w' (hxr.trans he)
          by_cases hlk : k < S
          · obtain ⟨bd, rfl, hxc⟩ := Hb.out k hlk
            have hcf : ∀ w', Ext wr w' → w'.cell? ⟨gf, k, none⟩ = some (vint (getI l k)) := fun w' he => by
              rw [cell_heap ((hxr.trans he).heap Hf3.out), List.getElem?_toArray, List.getElem?_map]
              have hkl : k < l.length := by rw [Hll.out]; exact hlk
              rw [getI_eq hkl]
              simp [hkl]
            have hcx : ∀ w', Ext wr w' → w'.cell? (bd.add k) = some (vint (getI x k)) := fun w' he => hxc k hlk w' (Hxw3.out.trans (hxr.trans he))
            have c1 := B1.out k hlk
            have c2 := B2.out k (by omega)
            have c3 := B2.out (k + 1) (by omega)
            have hsum : dotT x (L i) (k + 1) = dotT x (L i) k + getI x k * L i k := rfl
            have hL := Hgl'.out k
            simp only [← hL] at hcf
            have Hsum := Lib.hid hsum
            rw [hsum] at c3
            have em : IntKind.i64.wrap (getI x k * L i k) = getI x k * L i k := by rw [IntKind.wrap_i64]; omega
            have ea : IntKind.i64.wrap (dotT x (L i) k + getI x k * L i k) = dotT x (L i) k + getI x k * L i k := by rw [IntKind.wrap_i64]; omega
            have hki2 : (k : Int) < (S : Int) := by omega
            clear c1 c2 c3 hsum hL hxc Hb
            generalize getI x k = y at *
            generalize L i k = z at *
            generalize dotT x (L i) k = a at *
            go_wp2
            refine Cf.wp_region_calm (p := Cf.extPre) (fr := fun _ => false) 12 (fun _ _ _ _ => True) (fun _ _ _ _ _ _ h => h) (by kernel_rfl) (by kernel_rfl) ?_
            simp only [List.take_succ_cons, List.take_zero, List.drop_succ_cons, List.drop_zero]
            refine Cf.calm_quiet Cf.calm_mono_final wr (fun _ h => h) 12 (by kernel_rfl) ?_
            simp only [List.take_succ_cons, List.take_zero, List.drop_succ_cons, List.drop_zero]
            repeat (go_big_quiet_step (fail))
            refine wpQuiet_nil ?_
            refine Cf.calm_nil fun w4 he4 hF => ?_
            clear hF
            have he4 : Ext wr w4 := he4
            go_wp2
            go_roundw
            case rel => exact ⟨k + 1, by omega, by go_num, by rw [Hsum.out], hxr.trans he4⟩
            case measure => simp [intOf]; omega
          · obtain rfl : k = S := by omega
            clear Hb
            generalize dotT x (L i) k = v at *
            by_cases hv : v = 0
            · subst hv
              go_wp2
              go_roundw
              case rel => exact ⟨i + 1, by omega, by go_num, Hx3.out.trans hxr, Hst.out rfl⟩
              case measure => simp [intOf]; omega
            · have hv' : (v == 0) = false := by simpa using hv
              go_wp2
              go_ret
              exact ⟨ret_b (Hbad'.out hv), Hxw3.out.trans hxr⟩
      · obtain rfl : i = m := by omega
        have Hg := Lib.hid (Hgood.out fun j hj => Hall.out j (by rw [Hm.out]; exact hj))
        clear Ha Ce Hfl Hb1 Hb2 Hgl Hb Hbad Hgood
        go_wp2
        go_ret
        exact ⟨ret_b Hg.out, hexw⟩
  · have e1 : decide (sizedP x S) = false := decide_eq_false hsz
    have e2 : decide (movesP (gearL ms S) ms.length S x) = false := decide_eq_false fun h => hsz h.1
    rw [e1] at cs
    rw [e2]
    have Cs := Lib.hid cs
    clear cs e1 e2 hsz hA hB ht
    generalize ms.length = m at *
    generalize x.length = q at *
    go_enter Try.func99, Try.ntmps99
    go_wp2_with (first
      | (go_at_call 98; refine (Cs.out _ (by simp)).mono ?_; rintro e w1 ⟨rfl, rfl⟩))
    go_ret
    exact ⟨rfl, by simp⟩
end Go.Proofs.Ytbclbcldplmppaa

/- Which shafts a line names; lowest terms. -/
namespace Go.Proofs.Ytbclbcldplmppaa
open Go.RowKit

def onlyP (l all : List Int) : Prop := ∀ k, k < l.length → getI l k ≠ 0 → memB all (k : Int) = true
instance (l all : List Int) : Decidable (onlyP l all) := by unfold onlyP; infer_instance

set_option maxRecDepth 100000 in
set_option maxHeartbeats 1000000 in
theorem only_any (A : Option Addr) (c : Nat) (l : List Int) (B : Option Addr) (d : Nat) (all : List Int) (w : World) (hA : Ints w A l) (hB : Ints w B all) (hl : l.length ≤ 1000000) (hl2 : all.length ≤ 1000000) :
    Calls Try.prog 86 #[.slice A l.length c, .slice B all.length d] w fun e w' => e = .returned (.bool (decide (onlyP l all))) ∧ w = w' := by
  have ha := fun (i : Nat) (hi : i < l.length) => hA.some_ (by omega)
  have hcon := fun (k : Nat) => contains_any B d all (k : Int) w hB hl2
  have hgood : onlyP l all → true = decide (onlyP l all) := fun h => (decide_eq_true h).symm
  have hgood : (∀ k, k < l.length → getI l k ≠ 0 → memB all (k : Int) = true) → true = decide (onlyP l all) := hgood
  have hbad : ∀ k : Nat, k < l.length → getI l k ≠ 0 → memB all (k : Int) = false → false = decide (onlyP l all) := fun k hk h1 h2 => (decide_eq_false fun h => by rw [h k hk h1] at h2; cases h2).symm
  have Ha := Lib.hid ha
  have Hcon := Lib.hid hcon
  have Hgood := Lib.hid hgood
  have Hbad := Lib.hid hbad
  clear ha hcon hgood hbad hA hB
  generalize decide (onlyP l all) = res at *
  generalize l.length = q at *
  generalize all.length = q2 at *
  go_enter Try.func86, Try.ntmps86
  go_wp2
  go_loop [9] (fun i => ∃ k : Nat, k ≤ q ∧ i = .int .i64 k ∧ ∀ j, j < k → getI l j ≠ 0 → memB all (j : Int) = true) (fun i => q - (intOf i).toNat)
  case atStart => exact ⟨0, by omega, rfl, fun j hj => by omega⟩
  case round =>
    obtain ⟨k, hk, rfl, hall⟩ := hrel
    have Hall := Lib.hid hall
    clear hall
    by_cases hlt : k < q
    · obtain ⟨bd, rfl, hc0⟩ := Ha.out k hlt
      have hc := hc0 k hlt w (Ext.refl w)
      clear hc0
      have hbad := Hbad.out k hlt
      have hst : (getI l k ≠ 0 → memB all (k : Int) = true) → ∀ j, j < k + 1 → getI l j ≠ 0 → memB all (j : Int) = true := fun h j hj => by
        by_cases e : j = k
        · subst e; exact h
        · exact Hall.out j (by omega)
      have hcon := Hcon.out k
      have Hst := Lib.hid hst
      have Hbad' := Lib.hid hbad
      have Hc := Lib.hid hcon
      clear hst hbad hcon Ha Hgood Hbad Hcon
      generalize getI l k = y at *
      generalize memB all (k : Int) = b at *
      have hki : (k : Int) < (q : Int) := by omega
      by_cases hy : y = 0
      · subst hy
        go_wp2
        go_round
        case rel => exact ⟨k + 1, by omega, by go_num, Hst.out (fun h => absurd rfl h)⟩
        case measure => simp [intOf]; omega
      · cases b
        · go_wp2_with (first
            | (go_at_call 93; (with_reducible refine Hc.out.mono ?_); rintro e w1 ⟨rfl, rfl⟩))
          go_ret
          exact ⟨ret_b (Hbad'.out hy (by trivial)), rfl⟩
        · go_wp2_with (first
            | (go_at_call 93; (with_reducible refine Hc.out.mono ?_); rintro e w1 ⟨rfl, rfl⟩))
          go_round
          case rel => exact ⟨k + 1, by omega, by go_num, Hst.out (fun _ => by trivial)⟩
          case measure => simp [intOf]; omega
    · obtain rfl : k = q := by omega
      have Hg := Lib.hid (Hgood.out Hall.out)
      clear Ha
      go_wp2
      go_ret
      exact ⟨ret_b Hg.out, rfl⟩

set_option maxRecDepth 100000 in
set_option maxHeartbeats 1000000 in
theorem lowest_ref (a b : Int) (w : World) (hb1 : 1 ≤ b) (hb2 : b ≤ 9223372036854775807) :
    Calls Try.prog 100 #[.int .i64 a, .int .i64 b] w fun e w' => e = .returned (.bool (decide (Int.gcd a b = 1))) ∧ Ext w w' := by
  have hy1 : ∀ x : Int, Int.gcd x 0 = Int.gcd a b → x = 1 → true = decide (Int.gcd a b = 1) := fun x h e => (decide_eq_true (by rw [← h, e]; rfl)).symm
  have hy2 : ∀ x : Int, Int.gcd x 0 = Int.gcd a b → x = -1 → true = decide (Int.gcd a b = 1) := fun x h e => (decide_eq_true (by rw [← h, e]; rfl)).symm
  have hno : ∀ x : Int, Int.gcd x 0 = Int.gcd a b → ¬ x = 1 → ¬ x = -1 → false = decide (Int.gcd a b = 1) := fun x h e1 e2 => (decide_eq_false (fun h' => by
    rw [← h] at h'
    have : x.natAbs = 1 := by simpa [Int.gcd] using h'
    omega)).symm
  have Hy1 := Lib.hid hy1
  have Hy2 := Lib.hid hy2
  have Hno := Lib.hid hno
  clear hy1 hy2 hno
  go_enter Try.func100, Try.ntmps100
  go_wp2
  go_loopw [0, 1] (fun u v wr => ∃ x y : Int, u = .int .i64 x ∧ v = .int .i64 y ∧ Ext w wr ∧ Int.gcd x y = Int.gcd a b ∧ -9223372036854775807 ≤ y ∧ y ≤ 9223372036854775807) (fun _ v _ => (intOf v).natAbs)
  case atStart => exact ⟨a, b, rfl, rfl, Ext.refl _, rfl, by omega, hb2⟩
  case round =>
    obtain ⟨x, y, rfl, rfl, hex, hg, h1, h2⟩ := hrel
    have Hg := Lib.hid hg
    clear hg
    by_cases hy : y = 0
    · subst hy
      by_cases e1 : x = 1
      · have Hf := Lib.hid (Hy1.out x Hg.out e1)
        subst e1
        go_wp2
        go_ret
        exact ⟨ret_b Hf.out, hex⟩
      · by_cases e2 : x = -1
        · have Hf := Lib.hid (Hy2.out x Hg.out e2)
          subst e2
          go_wp2
          go_ret
          exact ⟨ret_b Hf.out, hex⟩
        · have Hf := Lib.hid (Hno.out x Hg.out e1 e2)
          have e1' : (x == 1) = false := beq_eq_false_iff_ne.2 e1
          have e2' : (x == -1) = false := beq_eq_false_iff_ne.2 e2
          go_wp2
          go_ret
          exact ⟨ret_b Hf.out, hex⟩
    · have hy' : (y == 0) = false := beq_eq_false_iff_ne.2 hy
      have hy2 : (y != 0) = true := by rw [bne_iff_ne]; exact hy
      have hab : (x.tmod y).natAbs < y.natAbs := by rw [Int.natAbs_tmod]; exact Nat.mod_lt _ (by omega)
      have hg2 := gcd_tmod x y
      have Hg2 := Lib.hid hg2
      clear hg2
      go_wp2
      go_quiet (fail)
      go_wp2
      go_roundw
      case rel => exact ⟨y, x.tmod y, rfl, rfl, hex.trans (by simp), Hg2.out.trans Hg.out, by omega, by omega⟩
      case measure => simp [intOf]; exact Nat.mod_lt _ (by omega)
end Go.Proofs.Ytbclbcldplmppaa

/- What proves a jam: by both sides. -/
namespace Go.Proofs.Ytbclbcldplmppaa
open Go.RowKit

theorem jam_no1 {L : Nat → Nat → Int} {m n i : Nat} {F M T : List Int} (h : ¬ sizedP F m) : decide (jamPr L m n i F M T) = false := decide_eq_false fun h' => h h'.1
theorem jam_no2 {L : Nat → Nat → Int} {m n i : Nat} {F M T : List Int} (h : ¬ M.length = 0) : decide (jamPr L m n i F M T) = false := decide_eq_false fun h' => h h'.2.1
theorem jam_no3 {L : Nat → Nat → Int} {m n i : Nat} {F M T : List Int} (h : ¬ T.length = 0) : decide (jamPr L m n i F M T) = false := decide_eq_false fun h' => h h'.2.2.1
/-- What the reference asks of the sum at a shaft. -/
def jamAt (L : Nat → Nat → Int) (F : List Int) (m i k : Nat) : Prop := if k = i then 0 < sumT F L m k else sumT F L m k = 0
theorem jam_yes {L : Nat → Nat → Int} {m n i : Nat} {F M T : List Int} (h1 : sizedP F m) (h2 : M.length = 0) (h3 : T.length = 0) (hi : i < n) (h : ∀ k, k < n → jamAt L F m i k) : true = decide (jamPr L m n i F M T) :=
  (decide_eq_true ⟨h1, h2, h3, fun k hk hki => by have := h k hk; unfold jamAt at this; rwa [if_neg hki] at this, by have := h i hi; unfold jamAt at this; rwa [if_pos rfl] at this⟩).symm
theorem jam_no4 {L : Nat → Nat → Int} {m n i k : Nat} {F M T : List Int} (hk : k < n) (h : ¬ jamAt L F m i k) : false = decide (jamPr L m n i F M T) :=
  (decide_eq_false fun h' => h (by
    unfold jamAt
    split
    · rename_i e; rw [e]; exact h'.2.2.2.2
    · rename_i e; exact h'.2.2.2.1 k hk e)).symm

set_option maxRecDepth 100000 in
set_option maxHeartbeats 4000000 in
theorem provesJam_ref (A : Option Addr) (c S i : Nat) (ms : List Msh) (A1 A2 A3 : Option Addr) (c1 c2 c3 : Nat) (F M T : List Int) (w : World) (hA : MRow w A ms) (ht : trainP S ms) (hi : i < S) (h1 : Ints w A1 F) (hl1 : F.length ≤ 1000000) :
    Calls Try.prog 87 #[.agg #[.int .i64 S, .slice A ms.length c], .int .i64 i, .agg #[.slice A1 F.length c1, .slice A2 M.length c2, .slice A3 T.length c3]] w fun e w' => e = .returned (.bool (decide (jamPr (gearL ms S) ms.length S i F M T))) ∧ Ext w w' := by
  have cs := fun (w' : World) (he : Ext w w') => sized_ref A1 c1 F ms.length w' (h1.ext he) hl1
  have h8 : S ≤ 8 := by have := ht.2.1; omega
  have hx : Ext w ((w.alloc (.cells #[.int .i64 S, .slice A ms.length c] 41)).alloc (.cells #[.slice A1 F.length c1, .slice A2 M.length c2, .slice A3 T.length c3] 60)) := ((Ext.refl w).alloc _).alloc _
  have a0 : ∀ w', Ext ((w.alloc (.cells #[.int .i64 S, .slice A ms.length c] 41)).alloc (.cells #[.slice A1 F.length c1, .slice A2 M.length c2, .slice A3 T.length c3] 60)) w' → w'.cell? ⟨w.heap.size, 0, none⟩ = some (.int .i64 S) := fun w' he => cells_one rfl w' (Ext.trans ((Ext.refl _).alloc _) he)
  have a1 : ∀ w', Ext ((w.alloc (.cells #[.int .i64 S, .slice A ms.length c] 41)).alloc (.cells #[.slice A1 F.length c1, .slice A2 M.length c2, .slice A3 T.length c3] 60)) w' → w'.cell? ⟨w.heap.size, 1, none⟩ = some (.slice A ms.length c) := fun w' he => cells_one rfl w' (Ext.trans ((Ext.refl _).alloc _) he)
  have b0 : ∀ w', Ext ((w.alloc (.cells #[.int .i64 S, .slice A ms.length c] 41)).alloc (.cells #[.slice A1 F.length c1, .slice A2 M.length c2, .slice A3 T.length c3] 60)) w' → w'.cell? ⟨w.heap.size + 1, 0, none⟩ = some (.slice A1 F.length c1) := fun w' he => cells_two rfl w' he
  have b1 : ∀ w', Ext ((w.alloc (.cells #[.int .i64 S, .slice A ms.length c] 41)).alloc (.cells #[.slice A1 F.length c1, .slice A2 M.length c2, .slice A3 T.length c3] 60)) w' → w'.cell? ⟨w.heap.size + 1, 1, none⟩ = some (.slice A2 M.length c2) := fun w' he => cells_two rfl w' he
  have b2 : ∀ w', Ext ((w.alloc (.cells #[.int .i64 S, .slice A ms.length c] 41)).alloc (.cells #[.slice A1 F.length c1, .slice A2 M.length c2, .slice A3 T.length c3] 60)) w' → w'.cell? ⟨w.heap.size + 1, 2, none⟩ = some (.slice A3 T.length c3) := fun w' he => cells_two rfl w' he
  by_cases g1 : sizedP F ms.length
  · have e1 : decide (sizedP F ms.length) = true := decide_eq_true g1
    rw [e1] at cs
    by_cases g2 : M.length = 0
    · by_cases g3 : T.length = 0
      · have cu := fun (w' : World) (he : Ext w w') => sums_ref A c S ms A1 c1 F w' (hA.ext he) ht (h1.ext he) g1
        have hyes := jam_yes (L := gearL ms S) (n := S) (i := i) g1 g2 g3 hi
        have hno := fun (k : Nat) (hk : k < S) => jam_no4 (L := gearL ms S) (m := ms.length) (i := i) (F := F) (M := M) (T := T) hk
        have hdef := fun (k : Nat) => (show jamAt (gearL ms S) F ms.length i k ↔ (if k = i then 0 < sumT F (gearL ms S) ms.length k else sumT F (gearL ms S) ms.length k = 0) from Iff.rfl)
        have Cs := Lib.hid cs
        have Cu := Lib.hid cu
        have Hyes := Lib.hid hyes
        have Hno := Lib.hid hno
        have Hdef := Lib.hid hdef
        clear cs cu hyes hno hdef hA ht h1 e1 g1
        generalize decide (jamPr (gearL ms S) ms.length S i F M T) = res at *
        generalize jamAt (gearL ms S) F ms.length i = J at *
        generalize sumT F (gearL ms S) ms.length = U at *
        generalize F.length = q at *
        generalize ms.length = m at *
        generalize M.length = q2 at *
        generalize T.length = q3 at *
        subst g2 g3
        go_enter Try.func87, Try.ntmps87
        go_wp2_with (first
          | (go_at_call 98; refine (Cs.out _ hx).mono ?_; rintro e w1 ⟨rfl, rfl⟩)
          | (go_at_call 101; refine (Cu.out _ hx).mono ?_; rintro e w2 ⟨g, rfl, hn⟩; have hx2 := hn.ext))
        generalize (w.alloc (.cells #[.int .i64 S, .slice A m c] 41)).alloc (.cells #[.slice A1 q c1, .slice A2 0 c2, .slice A3 0 c3] 60) = wb at *
        have a0 : ∀ w', Ext w2 w' → _ := fun w' he => a0 w' (hx2.trans he)
        have hul : (outL S U).length = S := outL_len _ _
        have a00 := a0 w2 (Ext.refl _)
        have Hw2 := Lib.hid (hx.trans hx2)
        have Hn := Lib.hid hn
        clear a0 a1 b0 b1 b2 hx2 hn hx Cs Cu
        simp only [hul]
        go_loop [8] (fun v => ∃ k : Nat, k ≤ S ∧ v = .int .i64 k ∧ ∀ j, j < k → J j) (fun v => S - (intOf v).toNat)
        case atStart => exact ⟨0, by omega, rfl, fun j hj => by omega⟩
        case round =>
          obtain ⟨k, hk, rfl, hall⟩ := hrel
          have Hall := Lib.hid hall
          clear hall
          by_cases hlt : k < S
          · have hc : w2.cell? ⟨g, k, none⟩ = some (vint (U k)) := by
              have := Hn.out.cell (k := k) (by rw [outL_len]; exact hlt)
              rwa [outL_get hlt] at this
            have hno := Hno.out k hlt
            have hdef := Hdef.out k
            have hst : J k → ∀ j, j < k + 1 → J j := fun h j hj => by
              by_cases e : j = k
              · subst e; exact h
              · exact Hall.out j (by omega)
            have Hst := Lib.hid hst
            have Hno' := Lib.hid hno
            have Hdef' := Lib.hid hdef
            clear hst hno hdef Hno Hdef Hyes
            generalize U k = y at *
            generalize J k = Q at *
            have hki : (k : Int) < (S : Int) := by omega
            by_cases e : k = i
            · have e' : (k : Int) = (i : Int) := by omega
              by_cases hy : 0 < y
              · have hq : Q := Hdef'.out.2 (by rw [if_pos e]; exact hy)
                have Hq := Lib.hid hq
                clear hq
                subst e
                go_wp2
                go_round
                case rel => exact ⟨k + 1, by omega, by go_num, Hst.out Hq.out⟩
                case measure => simp [intOf]; omega
              · have hq : ¬ Q := fun h => hy (by have := Hdef'.out.1 h; rwa [if_pos e] at this)
                have hy' : y ≤ 0 := by omega
                have Hq := Lib.hid hq
                clear hq
                subst e
                go_wp2
                go_ret
                exact ⟨ret_b (Hno'.out Hq.out), Hw2.out⟩
            · have e' : ¬ (k : Int) = (i : Int) := by omega
              have e2 : ((k : Int) == (i : Int)) = false := beq_eq_false_iff_ne.2 e'
              have e3 : ((k : Int) != (i : Int)) = true := by rw [bne_iff_ne]; exact e'
              by_cases hy : y = 0
              · have hq : Q := Hdef'.out.2 (by rw [if_neg e]; exact hy)
                have Hq := Lib.hid hq
                clear hq
                subst hy
                go_wp2
                go_round
                case rel => exact ⟨k + 1, by omega, by go_num, Hst.out Hq.out⟩
                case measure => simp [intOf]; omega
              · have hq : ¬ Q := fun h => hy (by have := Hdef'.out.1 h; rwa [if_neg e] at this)
                have hy2 : (y == 0) = false := beq_eq_false_iff_ne.2 hy
                have hy3 : (y != 0) = true := by rw [bne_iff_ne]; exact hy
                have Hq := Lib.hid hq
                clear hq
                go_wp2
                go_ret
                exact ⟨ret_b (Hno'.out Hq.out), Hw2.out⟩
          · obtain rfl : k = S := by omega
            have Hy := Lib.hid (Hyes.out Hall.out)
            clear Hno Hdef
            go_wp2
            go_ret
            exact ⟨ret_b Hy.out, Hw2.out⟩
      · rw [jam_no3 g3]
        have Cs := Lib.hid cs
        have g4 : (0 : Int) < (T.length : Int) := by omega
        clear cs hA ht h1 e1 g1 g3
        generalize F.length = q at *
        generalize ms.length = m at *
        generalize M.length = q2 at *
        generalize T.length = q3 at *
        subst g2
        go_enter Try.func87, Try.ntmps87
        go_wp2_with (first
          | (go_at_call 98; refine (Cs.out _ hx).mono ?_; rintro e w1 ⟨rfl, rfl⟩))
        go_ret
        exact ⟨rfl, hx⟩
    · rw [jam_no2 g2]
      have Cs := Lib.hid cs
      have g4 : (0 : Int) < (M.length : Int) := by omega
      clear cs hA ht h1 e1 g1 g2
      generalize F.length = q at *
      generalize ms.length = m at *
      generalize M.length = q2 at *
      generalize T.length = q3 at *
      go_enter Try.func87, Try.ntmps87
      go_wp2_with (first
        | (go_at_call 98; refine (Cs.out _ hx).mono ?_; rintro e w1 ⟨rfl, rfl⟩))
      go_ret
      exact ⟨rfl, hx⟩
  · rw [jam_no1 g1]
    have e1 : decide (sizedP F ms.length) = false := decide_eq_false g1
    rw [e1] at cs
    have Cs := Lib.hid cs
    clear cs hA ht h1 e1 g1
    generalize F.length = q at *
    generalize ms.length = m at *
    generalize M.length = q2 at *
    generalize T.length = q3 at *
    go_enter Try.func87, Try.ntmps87
    go_wp2_with (first
      | (go_at_call 98; refine (Cs.out _ hx).mono ?_; rintro e w1 ⟨rfl, rfl⟩))
    go_ret
    exact ⟨rfl, hx⟩
end Go.Proofs.Ytbclbcldplmppaa

/- What proves a shaft loose: by the reference. -/
namespace Go.Proofs.Ytbclbcldplmppaa
open Go.RowKit

theorem loose_is {L : Nat → Nat → Int} {m n i o : Nat} {F M T : List Int} (h1 : F.length = 0) (h2 : movesP L m n M) (h3 : movesP L m n T) : decide (loosePr L m n i o F M T) = (decide (0 < getI M i) && decide (getI T i = 0) && decide (0 < getI T o)) := by
  rw [Bool.eq_iff_iff, decide_eq_true_iff]
  simp only [Bool.and_eq_true, decide_eq_true_iff]
  exact ⟨fun h => ⟨⟨h.2.2.2.1, h.2.2.2.2.1⟩, h.2.2.2.2.2⟩, fun h => ⟨h1, h2, h3, h.1.1, h.1.2, h.2⟩⟩
theorem loose_no1 {L : Nat → Nat → Int} {m n i o : Nat} {F M T : List Int} (h : ¬ F.length = 0) : decide (loosePr L m n i o F M T) = false := decide_eq_false fun h' => h h'.1
theorem loose_no2 {L : Nat → Nat → Int} {m n i o : Nat} {F M T : List Int} (h : ¬ movesP L m n M) : decide (loosePr L m n i o F M T) = false := decide_eq_false fun h' => h h'.2.1
theorem loose_no3 {L : Nat → Nat → Int} {m n i o : Nat} {F M T : List Int} (h : ¬ movesP L m n T) : decide (loosePr L m n i o F M T) = false := decide_eq_false fun h' => h h'.2.2.1

set_option maxRecDepth 100000 in
set_option maxHeartbeats 4000000 in
theorem provesLoose_ref (A : Option Addr) (c S i o : Nat) (ms : List Msh) (A1 A2 A3 : Option Addr) (c1 c2 c3 : Nat) (F M T : List Int) (w : World) (hA : MRow w A ms) (ht : trainP S ms) (hi : i < S) (ho : o < S) (h2 : Ints w A2 M) (h3 : Ints w A3 T) (hl2 : M.length ≤ 1000000) (hl3 : T.length ≤ 1000000) :
    Calls Try.prog 89 #[.agg #[.int .i64 S, .slice A ms.length c], .int .i64 i, .int .i64 o, .agg #[.slice A1 F.length c1, .slice A2 M.length c2, .slice A3 T.length c3]] w fun e w' => e = .returned (.bool (decide (loosePr (gearL ms S) ms.length S i o F M T))) ∧ Ext w w' := by
  have cm := fun (w' : World) (he : Ext w w') => moves_ref A c S ms A2 c2 M w' (hA.ext he) ht (h2.ext he) hl2
  have ct := fun (w' : World) (he : Ext w w') => moves_ref A c S ms A3 c3 T w' (hA.ext he) ht (h3.ext he) hl3
  have hx : Ext w ((w.alloc (.cells #[.int .i64 S, .slice A ms.length c] 41)).alloc (.cells #[.slice A1 F.length c1, .slice A2 M.length c2, .slice A3 T.length c3] 60)) := ((Ext.refl w).alloc _).alloc _
  have a0 : ∀ w', Ext ((w.alloc (.cells #[.int .i64 S, .slice A ms.length c] 41)).alloc (.cells #[.slice A1 F.length c1, .slice A2 M.length c2, .slice A3 T.length c3] 60)) w' → w'.cell? ⟨w.heap.size, 0, none⟩ = some (.int .i64 S) := fun w' he => cells_one rfl w' (Ext.trans ((Ext.refl _).alloc _) he)
  have a1 : ∀ w', Ext ((w.alloc (.cells #[.int .i64 S, .slice A ms.length c] 41)).alloc (.cells #[.slice A1 F.length c1, .slice A2 M.length c2, .slice A3 T.length c3] 60)) w' → w'.cell? ⟨w.heap.size, 1, none⟩ = some (.slice A ms.length c) := fun w' he => cells_one rfl w' (Ext.trans ((Ext.refl _).alloc _) he)
  have b0 : ∀ w', Ext ((w.alloc (.cells #[.int .i64 S, .slice A ms.length c] 41)).alloc (.cells #[.slice A1 F.length c1, .slice A2 M.length c2, .slice A3 T.length c3] 60)) w' → w'.cell? ⟨w.heap.size + 1, 0, none⟩ = some (.slice A1 F.length c1) := fun w' he => cells_two rfl w' he
  have b1 : ∀ w', Ext ((w.alloc (.cells #[.int .i64 S, .slice A ms.length c] 41)).alloc (.cells #[.slice A1 F.length c1, .slice A2 M.length c2, .slice A3 T.length c3] 60)) w' → w'.cell? ⟨w.heap.size + 1, 1, none⟩ = some (.slice A2 M.length c2) := fun w' he => cells_two rfl w' he
  have b2 : ∀ w', Ext ((w.alloc (.cells #[.int .i64 S, .slice A ms.length c] 41)).alloc (.cells #[.slice A1 F.length c1, .slice A2 M.length c2, .slice A3 T.length c3] 60)) w' → w'.cell? ⟨w.heap.size + 1, 2, none⟩ = some (.slice A3 T.length c3) := fun w' he => cells_two rfl w' he
  by_cases g1 : F.length = 0
  · by_cases g2 : movesP (gearL ms S) ms.length S M
    · rw [decide_eq_true g2] at cm
      by_cases g3 : movesP (gearL ms S) ms.length S T
      · rw [decide_eq_true g3] at ct
        rw [loose_is g1 g2 g3]
        have hM : M.length = S := g2.1.1
        have hT : T.length = S := g3.1.1
        obtain ⟨d2, rfl, e2⟩ := h2.some_ (by omega)
        obtain ⟨d3, rfl, e3⟩ := h3.some_ (by omega)
        have m1 : ∀ w', Ext w w' → w'.cell? (d2.add i) = some (vint (getI M i)) := fun w' he => e2 i (by omega) w' he
        have t1 : ∀ w', Ext w w' → w'.cell? (d3.add i) = some (vint (getI T i)) := fun w' he => e3 i (by omega) w' he
        have t2 : ∀ w', Ext w w' → w'.cell? (d3.add o) = some (vint (getI T o)) := fun w' he => e3 o (by omega) w' he
        have Cm := Lib.hid cm
        have Ct := Lib.hid ct
        have hii : (i : Int) < (S : Int) := by omega
        have hoo : (o : Int) < (S : Int) := by omega
        rw [hM] at Cm hx a0 a1 b0 b1 b2 ⊢
        rw [hT] at Ct hx a0 a1 b0 b1 b2 ⊢
        clear cm ct hA ht h2 h3 g2 g3 hM hT e2 e3 hl2 hl3
        generalize getI M i = y1 at *
        generalize getI T i = y2 at *
        generalize getI T o = y3 at *
        generalize F.length = q1 at *
        generalize ms.length = m at *
        subst g1
        have M1 := Lib.hid m1
        have T1 := Lib.hid t1
        have T2 := Lib.hid t2
        clear m1 t1 t2
        cases z1 : decide (0 < y1)
        all_goals cases z2 : decide (y2 = 0)
        all_goals cases z3 : decide (0 < y3)
        all_goals
          have z2' : (y2 == 0) = decide (y2 = 0) := by rw [Bool.eq_iff_iff]; simp
          rw [z2] at z2'
          clear z2
          go_enter Try.func89, Try.ntmps89
          go_wp2_with (first
            | (go_at_call 99; with_reducible first | (refine (Cm.out _ hx).mono ?_; rintro e w1 ⟨rfl, hx1⟩; have hxw1 := hx.trans hx1; have k1 := M1.out w1 hxw1) | (refine (Ct.out _ hxw1).mono ?_; rintro e w2 ⟨rfl, hx2⟩; have hxw2 := hxw1.trans hx2; have hxb2 := hx1.trans hx2; have k2 := M1.out w2 hxw2; have k3 := T1.out w2 hxw2; have k4 := T2.out w2 hxw2)))
          go_ret
          exact ⟨rfl, hxw2⟩
      · rw [loose_no3 g3]
        rw [decide_eq_false g3] at ct
        have Cm := Lib.hid cm
        have Ct := Lib.hid ct
        clear cm ct hA ht h2 h3 g2 g3 hl2 hl3
        generalize F.length = q1 at *
        generalize M.length = q2 at *
        generalize T.length = q3 at *
        generalize ms.length = m at *
        subst g1
        go_enter Try.func89, Try.ntmps89
        go_wp2_with (first
          | (go_at_call 99; with_reducible first | (refine (Cm.out _ hx).mono ?_; rintro e w1 ⟨rfl, hx1⟩; have hxw1 := hx.trans hx1) | (refine (Ct.out _ hxw1).mono ?_; rintro e w2 ⟨rfl, hx2⟩; have hxw2 := hxw1.trans hx2)))
        go_ret
        exact ⟨rfl, hxw2⟩
    · rw [loose_no2 g2]
      rw [decide_eq_false g2] at cm
      have Cm := Lib.hid cm
      clear cm ct hA ht h2 h3 g2 hl2 hl3
      generalize F.length = q1 at *
      generalize M.length = q2 at *
      generalize T.length = q3 at *
      generalize ms.length = m at *
      subst g1
      go_enter Try.func89, Try.ntmps89
      go_wp2_with (first
        | (go_at_call 99; (with_reducible refine (Cm.out _ hx).mono ?_); rintro e w1 ⟨rfl, hx1⟩; have hxw1 := hx.trans hx1))
      go_ret
      exact ⟨rfl, hxw1⟩
  · rw [loose_no1 g1]
    have g4 : ¬ (F.length : Int) = 0 := by omega
    have g5 : ((F.length : Int) == 0) = false := beq_eq_false_iff_ne.2 g4
    clear cm ct hA ht h2 h3 g1 hl2 hl3
    generalize F.length = q1 at *
    generalize M.length = q2 at *
    generalize T.length = q3 at *
    generalize ms.length = m at *
    go_enter Try.func89, Try.ntmps89
    go_wp2
    go_ret
    exact ⟨rfl, hx⟩
end Go.Proofs.Ytbclbcldplmppaa

/- What proves a ratio: by the reference. -/
namespace Go.Proofs.Ytbclbcldplmppaa
open Go.RowKit

section
variable {L : Nat → Nat → Int} {m n i o : Nat} {num den : Int} {F M T : List Int}
theorem rat_no1 (h : ¬ sizedP F m) : decide (ratPr L m n i o num den F M T) = false := decide_eq_false fun h' => h h'.1
theorem rat_no2 (h : ¬ T.length = 0) : decide (ratPr L m n i o num den F M T) = false := decide_eq_false fun h' => h h'.2.1
theorem rat_no3 (h : ¬ movesP L m n M) : decide (ratPr L m n i o num den F M T) = false := decide_eq_false fun h' => h h'.2.2.1
theorem rat_no4 (h : ¬ 0 < getI M i) : decide (ratPr L m n i o num den F M T) = false := decide_eq_false fun h' => h h'.2.2.2.1
theorem rat_no5 (h : ¬ 1 ≤ den) : decide (ratPr L m n i o num den F M T) = false := decide_eq_false fun h' => h h'.2.2.2.2.1
theorem rat_no6 (h : ¬ num.gcd den = 1) : decide (ratPr L m n i o num den F M T) = false := decide_eq_false fun h' => h h'.2.2.2.2.2.1
/-- What is asked of the sum at a shaft. -/
def ratAt (L : Nat → Nat → Int) (F : List Int) (m i o k : Nat) : Prop := (k ≠ i ∧ k ≠ o ∨ i = o) → sumT F L m k = 0
/-- What is asked of the two shafts. -/
def ratEnd (u v : Int) (num den : Int) : Prop := v.tmod den = 0 ∧ 1 ≤ v.tdiv den ∧ u.tmod (v.tdiv den) = 0 ∧ -u.tdiv (v.tdiv den) = num
instance (u v num den : Int) : Decidable (ratEnd u v num den) := by unfold ratEnd; infer_instance
theorem rat_same (h1 : sizedP F m) (h2 : T.length = 0) (h3 : movesP L m n M) (h4 : 0 < getI M i) (h5 : 1 ≤ den) (h6 : num.gcd den = 1) (h7 : ∀ k, k < n → ratAt L F m i i k) : decide (ratPr L m n i i num den F M T) = (decide (num = 1) && decide (den = 1)) := by
  rw [Bool.eq_iff_iff, decide_eq_true_iff, Bool.and_eq_true, decide_eq_true_iff, decide_eq_true_iff]
  constructor
  · intro h
    have := h.2.2.2.2.2.2
    rw [if_pos rfl] at this
    exact this.2
  · intro h
    refine ⟨h1, h2, h3, h4, h5, h6, ?_⟩
    rw [if_pos rfl]
    exact ⟨fun k hk => h7 k hk (.inr rfl), h⟩
theorem rat_two (hio : i ≠ o) (h1 : sizedP F m) (h2 : T.length = 0) (h3 : movesP L m n M) (h4 : 0 < getI M i) (h5 : 1 ≤ den) (h6 : num.gcd den = 1) (h7 : ∀ k, k < n → ratAt L F m i o k) : decide (ratPr L m n i o num den F M T) = decide (ratEnd (sumT F L m i) (sumT F L m o) num den) := by
  rw [decide_eq_decide]
  constructor
  · intro h
    have := h.2.2.2.2.2.2
    rw [if_neg hio] at this
    exact this.2
  · intro h
    refine ⟨h1, h2, h3, h4, h5, h6, ?_⟩
    rw [if_neg hio]
    exact ⟨fun k hk e1 e2 => h7 k hk (.inl ⟨e1, e2⟩), h⟩
theorem rat_no7 {k : Nat} (hk : k < n) (h : ¬ ratAt L F m i o k) : false = decide (ratPr L m n i o num den F M T) :=
  (decide_eq_false fun h' => h fun hc => by
    have := h'.2.2.2.2.2.2
    by_cases e : i = o
    · rw [if_pos e] at this; exact this.1 k hk
    · rw [if_neg e] at this
      rcases hc with ⟨e1, e2⟩ | hc
      · exact this.1 k hk e1 e2
      · exact absurd hc e).symm
end

set_option maxRecDepth 100000 in
set_option maxHeartbeats 4000000 in
theorem provesRatio_bad (A : Option Addr) (c S i o : Nat) (num den : Int) (ms : List Msh) (A1 A2 A3 : Option Addr) (c1 c2 c3 : Nat) (F M T : List Int) (w : World) (hA : MRow w A ms) (ht : trainP S ms) (hi : i < S) (_ho : o < S) (h1 : Ints w A1 F) (h2 : Ints w A2 M) (hl1 : F.length ≤ 1000000) (hl2 : M.length ≤ 1000000) (hden : den ≤ 9223372036854775807) (hbad : ¬ (sizedP F ms.length ∧ T.length = 0 ∧ movesP (gearL ms S) ms.length S M ∧ 0 < getI M i ∧ 1 ≤ den ∧ num.gcd den = 1)) :
    Calls Try.prog 83 #[.agg #[.int .i64 S, .slice A ms.length c], .int .i64 i, .int .i64 o, .int .i64 num, .int .i64 den, .agg #[.slice A1 F.length c1, .slice A2 M.length c2, .slice A3 T.length c3]] w fun e w' => e = .returned (.bool (decide (ratPr (gearL ms S) ms.length S i o num den F M T))) ∧ Ext w w' := by
  have cs := fun (w' : World) (he : Ext w w') => sized_ref A1 c1 F ms.length w' (h1.ext he) hl1
  have cm := fun (w' : World) (he : Ext w w') => moves_ref A c S ms A2 c2 M w' (hA.ext he) ht (h2.ext he) hl2
  have hx : Ext w ((w.alloc (.cells #[.int .i64 S, .slice A ms.length c] 41)).alloc (.cells #[.slice A1 F.length c1, .slice A2 M.length c2, .slice A3 T.length c3] 60)) := ((Ext.refl w).alloc _).alloc _
  have a0 : ∀ w', Ext ((w.alloc (.cells #[.int .i64 S, .slice A ms.length c] 41)).alloc (.cells #[.slice A1 F.length c1, .slice A2 M.length c2, .slice A3 T.length c3] 60)) w' → w'.cell? ⟨w.heap.size, 0, none⟩ = some (.int .i64 S) := fun w' he => cells_one rfl w' (Ext.trans ((Ext.refl _).alloc _) he)
  have a1 : ∀ w', Ext ((w.alloc (.cells #[.int .i64 S, .slice A ms.length c] 41)).alloc (.cells #[.slice A1 F.length c1, .slice A2 M.length c2, .slice A3 T.length c3] 60)) w' → w'.cell? ⟨w.heap.size, 1, none⟩ = some (.slice A ms.length c) := fun w' he => cells_one rfl w' (Ext.trans ((Ext.refl _).alloc _) he)
  have b0 : ∀ w', Ext ((w.alloc (.cells #[.int .i64 S, .slice A ms.length c] 41)).alloc (.cells #[.slice A1 F.length c1, .slice A2 M.length c2, .slice A3 T.length c3] 60)) w' → w'.cell? ⟨w.heap.size + 1, 0, none⟩ = some (.slice A1 F.length c1) := fun w' he => cells_two rfl w' he
  have b1 : ∀ w', Ext ((w.alloc (.cells #[.int .i64 S, .slice A ms.length c] 41)).alloc (.cells #[.slice A1 F.length c1, .slice A2 M.length c2, .slice A3 T.length c3] 60)) w' → w'.cell? ⟨w.heap.size + 1, 1, none⟩ = some (.slice A2 M.length c2) := fun w' he => cells_two rfl w' he
  have b2 : ∀ w', Ext ((w.alloc (.cells #[.int .i64 S, .slice A ms.length c] 41)).alloc (.cells #[.slice A1 F.length c1, .slice A2 M.length c2, .slice A3 T.length c3] 60)) w' → w'.cell? ⟨w.heap.size + 1, 2, none⟩ = some (.slice A3 T.length c3) := fun w' he => cells_two rfl w' he
  by_cases g1 : sizedP F ms.length
  · rw [decide_eq_true g1] at cs
    by_cases g2 : T.length = 0
    · by_cases g3 : movesP (gearL ms S) ms.length S M
      · rw [decide_eq_true g3] at cm
        have hM : M.length = S := g3.1.1
        obtain ⟨d2, rfl, e2⟩ := h2.some_ (by omega)
        have m1 : ∀ w', Ext w w' → w'.cell? (d2.add i) = some (vint (getI M i)) := fun w' he => e2 i (by omega) w' he
        have hii : (i : Int) < (S : Int) := by omega
        have Cs := Lib.hid cs
        have Cm := Lib.hid cm
        have M1 := Lib.hid m1
        rw [hM] at Cm hx a0 a1 b0 b1 b2 ⊢
        by_cases g4 : 0 < getI M i
        · by_cases g5 : 1 ≤ den
          · have g6 : ¬ num.gcd den = 1 := fun h => hbad ⟨g1, g2, g3, g4, g5, h⟩
            have cl := fun (w' : World) => lowest_ref num den w' g5 hden
            rw [decide_eq_false g6] at cl
            have Cl := Lib.hid cl
            rw [rat_no6 g6]
            clear cl cs cm m1 hbad g1 g3 g6 hA ht h1 h2 hM e2 hl1 hl2
            generalize getI M i = y1 at *
            generalize F.length = q1 at *
            generalize T.length = q3 at *
            generalize ms.length = m at *
            subst g2
            go_enter Try.func83, Try.ntmps83
            go_wp2_with (first
              | (go_at_call 98; (with_reducible refine (Cs.out _ hx).mono ?_); rintro e w1 ⟨rfl, rfl⟩)
              | (go_at_call 99; (with_reducible refine (Cm.out _ hx).mono ?_); rintro e w2 ⟨rfl, hx2⟩; have hxw2 := hx.trans hx2; have k1 := M1.out w2 hxw2)
              | (go_at_call 100; (with_reducible refine (Cl.out _).mono ?_); rintro e w3 ⟨rfl, hx3⟩; have hxw3 := hxw2.trans hx3))
            go_ret
            exact ⟨rfl, hxw3⟩
          · rw [rat_no5 g5]
            have g5' : den < 1 := by omega
            clear cs cm m1 hbad g1 g3 hA ht h1 h2 hM e2 hl1 hl2
            generalize getI M i = y1 at *
            generalize F.length = q1 at *
            generalize T.length = q3 at *
            generalize ms.length = m at *
            subst g2
            go_enter Try.func83, Try.ntmps83
            go_wp2_with (first
              | (go_at_call 98; (with_reducible refine (Cs.out _ hx).mono ?_); rintro e w1 ⟨rfl, rfl⟩)
              | (go_at_call 99; (with_reducible refine (Cm.out _ hx).mono ?_); rintro e w2 ⟨rfl, hx2⟩; have hxw2 := hx.trans hx2; have k1 := M1.out w2 hxw2))
            go_ret
            exact ⟨rfl, hxw2⟩
        · rw [rat_no4 g4]
          have g4' : getI M i ≤ 0 := by omega
          clear cs cm m1 hbad g1 g3 hA ht h1 h2 hM e2 hl1 hl2
          generalize getI M i = y1 at *
          generalize F.length = q1 at *
          generalize T.length = q3 at *
          generalize ms.length = m at *
          subst g2
          go_enter Try.func83, Try.ntmps83
          go_wp2_with (first
            | (go_at_call 98; (with_reducible refine (Cs.out _ hx).mono ?_); rintro e w1 ⟨rfl, rfl⟩)
            | (go_at_call 99; (with_reducible refine (Cm.out _ hx).mono ?_); rintro e w2 ⟨rfl, hx2⟩; have hxw2 := hx.trans hx2; have k1 := M1.out w2 hxw2))
          go_ret
          exact ⟨rfl, hxw2⟩
      · rw [rat_no3 g3]
        rw [decide_eq_false g3] at cm
        have Cs := Lib.hid cs
        have Cm := Lib.hid cm
        clear cs cm hbad g1 g3 hA ht h1 h2 hl1 hl2
        generalize F.length = q1 at *
        generalize M.length = q2 at *
        generalize T.length = q3 at *
        generalize ms.length = m at *
        subst g2
        go_enter Try.func83, Try.ntmps83
        go_wp2_with (first
          | (go_at_call 98; (with_reducible refine (Cs.out _ hx).mono ?_); rintro e w1 ⟨rfl, rfl⟩)
          | (go_at_call 99; (with_reducible refine (Cm.out _ hx).mono ?_); rintro e w2 ⟨rfl, hx2⟩; have hxw2 := hx.trans hx2; skip))
        go_ret
        exact ⟨rfl, hxw2⟩
    · rw [rat_no2 g2]
      have Cs := Lib.hid cs
      have g4 : (0 : Int) < (T.length : Int) := by omega
      clear cs cm hbad g1 g2 hA ht h1 h2 hl1 hl2
      generalize F.length = q1 at *
      generalize M.length = q2 at *
      generalize T.length = q3 at *
      generalize ms.length = m at *
      go_enter Try.func83, Try.ntmps83
      go_wp2_with (first
        | (go_at_call 98; (with_reducible refine (Cs.out _ hx).mono ?_); rintro e w1 ⟨rfl, rfl⟩))
      go_ret
      exact ⟨rfl, hx⟩
  · rw [rat_no1 g1]
    rw [decide_eq_false g1] at cs
    have Cs := Lib.hid cs
    clear cs cm hbad g1 hA ht h1 h2 hl1 hl2
    generalize F.length = q1 at *
    generalize M.length = q2 at *
    generalize T.length = q3 at *
    generalize ms.length = m at *
    go_enter Try.func83, Try.ntmps83
    go_wp2_with (first
      | (go_at_call 98; (with_reducible refine (Cs.out _ hx).mono ?_); rintro e w1 ⟨rfl, rfl⟩))
    go_ret
    exact ⟨rfl, hx⟩
end Go.Proofs.Ytbclbcldplmppaa

/- What proves a ratio: by the reference, where all but the sum is right. -/
namespace Go.Proofs.Ytbclbcldplmppaa
open Go.RowKit

/-- A number of the sum, divided. -/
theorem wrap_fit {u : Int} (h : u.natAbs < 9223372036854775807) : IntKind.i64.wrap u = u := by rw [IntKind.wrap_i64]; omega
theorem tdiv_fit {u s : Int} (h : u.natAbs < 9223372036854775807) : (u.tdiv s).natAbs < 9223372036854775807 := by
  rw [Int.natAbs_tdiv]
  exact Nat.lt_of_le_of_lt (Nat.div_le_self _ _) h

set_option maxRecDepth 100000 in
set_option maxHeartbeats 4000000 in
theorem provesRatio_good (A : Option Addr) (c S i o : Nat) (num den : Int) (ms : List Msh) (A1 A2 A3 : Option Addr) (c1 c2 c3 : Nat) (F M T : List Int) (w : World) (hA : MRow w A ms) (ht : trainP S ms) (hi : i < S) (ho : o < S) (h1 : Ints w A1 F) (h2 : Ints w A2 M) (hl1 : F.length ≤ 1000000) (hl2 : M.length ≤ 1000000) (hden : den ≤ 9223372036854775807) (hgood : (sizedP F ms.length ∧ T.length = 0 ∧ movesP (gearL ms S) ms.length S M ∧ 0 < getI M i ∧ 1 ≤ den ∧ num.gcd den = 1)) :
    Calls Try.prog 83 #[.agg #[.int .i64 S, .slice A ms.length c], .int .i64 i, .int .i64 o, .int .i64 num, .int .i64 den, .agg #[.slice A1 F.length c1, .slice A2 M.length c2, .slice A3 T.length c3]] w fun e w' => e = .returned (.bool (decide (ratPr (gearL ms S) ms.length S i o num den F M T))) ∧ Ext w w' := by
  have cs := fun (w' : World) (he : Ext w w') => sized_ref A1 c1 F ms.length w' (h1.ext he) hl1
  have cm := fun (w' : World) (he : Ext w w') => moves_ref A c S ms A2 c2 M w' (hA.ext he) ht (h2.ext he) hl2
  have hx : Ext w ((w.alloc (.cells #[.int .i64 S, .slice A ms.length c] 41)).alloc (.cells #[.slice A1 F.length c1, .slice A2 M.length c2, .slice A3 T.length c3] 60)) := ((Ext.refl w).alloc _).alloc _
  have a0 : ∀ w', Ext ((w.alloc (.cells #[.int .i64 S, .slice A ms.length c] 41)).alloc (.cells #[.slice A1 F.length c1, .slice A2 M.length c2, .slice A3 T.length c3] 60)) w' → w'.cell? ⟨w.heap.size, 0, none⟩ = some (.int .i64 S) := fun w' he => cells_one rfl w' (Ext.trans ((Ext.refl _).alloc _) he)
  have a1 : ∀ w', Ext ((w.alloc (.cells #[.int .i64 S, .slice A ms.length c] 41)).alloc (.cells #[.slice A1 F.length c1, .slice A2 M.length c2, .slice A3 T.length c3] 60)) w' → w'.cell? ⟨w.heap.size, 1, none⟩ = some (.slice A ms.length c) := fun w' he => cells_one rfl w' (Ext.trans ((Ext.refl _).alloc _) he)
  have b0 : ∀ w', Ext ((w.alloc (.cells #[.int .i64 S, .slice A ms.length c] 41)).alloc (.cells #[.slice A1 F.length c1, .slice A2 M.length c2, .slice A3 T.length c3] 60)) w' → w'.cell? ⟨w.heap.size + 1, 0, none⟩ = some (.slice A1 F.length c1) := fun w' he => cells_two rfl w' he
  have b1 : ∀ w', Ext ((w.alloc (.cells #[.int .i64 S, .slice A ms.length c] 41)).alloc (.cells #[.slice A1 F.length c1, .slice A2 M.length c2, .slice A3 T.length c3] 60)) w' → w'.cell? ⟨w.heap.size + 1, 1, none⟩ = some (.slice A2 M.length c2) := fun w' he => cells_two rfl w' he
  have b2 : ∀ w', Ext ((w.alloc (.cells #[.int .i64 S, .slice A ms.length c] 41)).alloc (.cells #[.slice A1 F.length c1, .slice A2 M.length c2, .slice A3 T.length c3] 60)) w' → w'.cell? ⟨w.heap.size + 1, 2, none⟩ = some (.slice A3 T.length c3) := fun w' he => cells_two rfl w' he
  obtain ⟨g1, g2, g3, g4, g5, g6⟩ := hgood
  have h8 : S ≤ 8 := by have := ht.2.1; omega
  rw [decide_eq_true g1] at cs
  rw [decide_eq_true g3] at cm
  have cl := fun (w' : World) => lowest_ref num den w' g5 hden
  rw [decide_eq_true g6] at cl
  have cu := fun (w' : World) (he : Ext w w') => sums_ref A c S ms A1 c1 F w' (hA.ext he) ht (h1.ext he) g1
  have hM : M.length = S := g3.1.1
  obtain ⟨d2, rfl, e2⟩ := h2.some_ (by omega)
  have m1 : ∀ w', Ext w w' → w'.cell? (d2.add i) = some (vint (getI M i)) := fun w' he => e2 i (by omega) w' he
  have hii : (i : Int) < (S : Int) := by omega
  have hoo : (o : Int) < (S : Int) := by omega
  have hl16 := ht.2.2.1
  have hno := fun (k : Nat) (hk : k < S) => rat_no7 (L := gearL ms S) (m := ms.length) (i := i) (o := o) (num := num) (den := den) (F := F) (M := M) (T := T) hk
  have hdef := fun (k : Nat) => (show ratAt (gearL ms S) F ms.length i o k ↔ ((k ≠ i ∧ k ≠ o ∨ i = o) → sumT F (gearL ms S) ms.length k = 0) from Iff.rfl)
  have hsm := fun (k : Nat) (hk : k < S) => sumT_bound (m := ms.length) g1.bound (gearL_bound ht) hk (Nat.le_refl _)
  have hsame : i = o → (∀ k, k < S → ratAt (gearL ms S) F ms.length i o k) → decide (ratPr (gearL ms S) ms.length S i o num den F M T) = (decide (num = 1) && decide (den = 1)) := fun e h7 => by subst e; exact rat_same g1 g2 g3 g4 g5 g6 h7
  have htwo : i ≠ o → (∀ k, k < S → ratAt (gearL ms S) F ms.length i o k) → decide (ratPr (gearL ms S) ms.length S i o num den F M T) = decide (ratEnd (sumT F (gearL ms S) ms.length i) (sumT F (gearL ms S) ms.length o) num den) := fun e h7 => rat_two e g1 g2 g3 g4 g5 g6 h7
  have Cs := Lib.hid cs
  have Cm := Lib.hid cm
  have Cl := Lib.hid cl
  have Cu := Lib.hid cu
  have M1 := Lib.hid m1
  have Hno := Lib.hid hno
  have Hdef := Lib.hid hdef
  have Hsm := Lib.hid hsm
  have Hsame := Lib.hid hsame
  have Htwo := Lib.hid htwo
  rw [hM] at Cm hx a0 a1 b0 b1 b2 ⊢
  clear cs cm cl cu m1 hno hdef hsm hsame htwo g1 g3 g6 hA ht h1 h2 hM e2 hl1 hl2
  generalize decide (ratPr (gearL ms S) ms.length S i o num den F M T) = res at *
  generalize ratAt (gearL ms S) F ms.length i o = J at *
  generalize sumT F (gearL ms S) ms.length = U at *
  generalize getI M i = y1 at *
  generalize F.length = q1 at *
  generalize T.length = q3 at *
  generalize ms.length = m at *
  subst g2
  have g4' : ¬ y1 ≤ 0 := by omega
  have g5' : ¬ den < 1 := by omega
  go_enter Try.func83, Try.ntmps83
  go_wp2_with (first
    | (go_at_call 98; (with_reducible refine (Cs.out _ hx).mono ?_); rintro e w1 ⟨rfl, rfl⟩)
    | (go_at_call 99; (with_reducible refine (Cm.out _ hx).mono ?_); rintro e w2 ⟨rfl, hx2⟩; have hxw2 := hx.trans hx2; have k1 := M1.out w2 hxw2)
    | (go_at_call 100; (with_reducible refine (Cl.out _).mono ?_); rintro e w3 ⟨rfl, hx3⟩; have hxw3 := hxw2.trans hx3; have hxb3 := hx2.trans hx3)
    | (go_at_call 101; (with_reducible refine (Cu.out _ hxw3).mono ?_); rintro e w4 ⟨g, rfl, hn⟩; have hxb4 := hxb3.trans hn.ext))
  have hul : (outL S U).length = S := outL_len _ _
  have a00 := a0 w4 hxb4
  have Hw4 := Lib.hid (hxw3.trans hn.ext)
  have Hn := Lib.hid hn
  clear a0 a1 b0 b1 b2 hx hx2 hxw2 k1 hx3 hxw3 hxb3 hxb4 hn Cs Cm Cl Cu M1
  simp only [hul]
  go_loop [14] (fun v => ∃ k : Nat, k ≤ S ∧ v = .int .i64 k ∧ ∀ j, j < k → J j) (fun v => S - (intOf v).toNat)
  case atStart => exact ⟨0, by omega, rfl, fun j hj => by omega⟩
  case round =>
    obtain ⟨k, hk, rfl, hall⟩ := hrel
    have Hall := Lib.hid hall
    clear hall
    by_cases hlt : k < S
    · have hc : w4.cell? ⟨g, k, none⟩ = some (vint (U k)) := by
        have := Hn.out.cell (k := k) (by rw [outL_len]; exact hlt)
        rwa [outL_get hlt] at this
      have hno := Hno.out k hlt
      have hdef := Hdef.out k
      have hst : J k → ∀ j, j < k + 1 → J j := fun h j hj => by
        by_cases e : j = k
        · subst e; exact h
        · exact Hall.out j (by omega)
      have Hst := Lib.hid hst
      have Hno' := Lib.hid hno
      have Hdef' := Lib.hid hdef
      clear hst hno hdef Hno Hdef Hsame Htwo Hsm
      generalize U k = y at *
      generalize J k = Q at *
      have hki : (k : Int) < (S : Int) := by omega
      by_cases eio : i = o
      · subst eio
        by_cases ek : k = i
        · subst ek
          by_cases hy : y = 0
          · have Hq := Lib.hid (Hdef'.out.2 fun _ => hy)
            subst hy
            go_wp2
            go_round
            case rel => exact ⟨k + 1, by omega, by go_num, Hst.out Hq.out⟩
            case measure => simp [intOf]; omega
          · have Hq := Lib.hid (show ¬ Q from fun h => hy (Hdef'.out.1 h (.inr rfl)))
            have hy2 : (y == 0) = false := beq_eq_false_iff_ne.2 hy
            have hy3 : (y != 0) = true := by rw [bne_iff_ne]; exact hy
            go_wp2
            go_ret
            exact ⟨ret_b (Hno'.out Hq.out), Hw4.out⟩
        · have x1 : ((k : Int) == (i : Int)) = false := beq_eq_false_iff_ne.2 (by omega)
          have x2 : ((k : Int) != (i : Int)) = true := by rw [bne_iff_ne]; omega
          by_cases hy : y = 0
          · have Hq := Lib.hid (Hdef'.out.2 fun _ => hy)
            subst hy
            go_wp2
            go_round
            case rel => exact ⟨k + 1, by omega, by go_num, Hst.out Hq.out⟩
            case measure => simp [intOf]; omega
          · have Hq := Lib.hid (show ¬ Q from fun h => hy (Hdef'.out.1 h (.inr rfl)))
            have hy2 : (y == 0) = false := beq_eq_false_iff_ne.2 hy
            have hy3 : (y != 0) = true := by rw [bne_iff_ne]; exact hy
            go_wp2
            go_ret
            exact ⟨ret_b (Hno'.out Hq.out), Hw4.out⟩
      · have x0 : ((i : Int) == (o : Int)) = false := beq_eq_false_iff_ne.2 (by omega)
        by_cases ek : k = i
        · subst ek
          have Hq := Lib.hid (Hdef'.out.2 fun h => absurd h (by omega))
          go_wp2
          go_round
          case rel => exact ⟨k + 1, by omega, by go_num, Hst.out Hq.out⟩
          case measure => simp [intOf]; omega
        · have x1 : ((k : Int) == (i : Int)) = false := beq_eq_false_iff_ne.2 (by omega)
          have x2 : ((k : Int) != (i : Int)) = true := by rw [bne_iff_ne]; omega
          by_cases ek2 : k = o
          · subst ek2
            have Hq := Lib.hid (Hdef'.out.2 fun h => absurd h (by omega))
            go_wp2
            go_round
            case rel => exact ⟨k + 1, by omega, by go_num, Hst.out Hq.out⟩
            case measure => simp [intOf]; omega
          · have x3 : ((k : Int) == (o : Int)) = false := beq_eq_false_iff_ne.2 (by omega)
            have x4 : ((k : Int) != (o : Int)) = true := by rw [bne_iff_ne]; omega
            by_cases hy : y = 0
            · have Hq := Lib.hid (Hdef'.out.2 fun _ => hy)
              subst hy
              go_wp2
              go_round
              case rel => exact ⟨k + 1, by omega, by go_num, Hst.out Hq.out⟩
              case measure => simp [intOf]; omega
            · have Hq := Lib.hid (show ¬ Q from fun h => hy (Hdef'.out.1 h (.inl ⟨ek, ek2⟩)))
              have hy2 : (y == 0) = false := beq_eq_false_iff_ne.2 hy
              have hy3 : (y != 0) = true := by rw [bne_iff_ne]; exact hy
              go_wp2
              go_ret
              exact ⟨ret_b (Hno'.out Hq.out), Hw4.out⟩
    · obtain rfl : k = S := by omega
      clear Hno Hdef
      by_cases eio : i = o
      · have Hr := Lib.hid (Hsame.out eio Hall.out)
        subst eio
        clear Hsame Htwo Hsm
        by_cases z1 : num = 1
        · by_cases z2 : den = 1
          · have Hr2 := Lib.hid (show true = res by rw [Hr.out, z1, z2]; rfl)
            subst z1 z2
            go_wp2
            go_ret
            exact ⟨ret_b Hr2.out, Hw4.out⟩
          · have Hr2 := Lib.hid (show false = res by rw [Hr.out, decide_eq_false z2, Bool.and_false])
            have z2' : (den == 1) = false := beq_eq_false_iff_ne.2 z2
            subst z1
            go_wp2
            go_ret
            exact ⟨ret_b Hr2.out, Hw4.out⟩
        · have Hr2 := Lib.hid (show false = res by rw [Hr.out, decide_eq_false z1, Bool.false_and])
          have z1' : (num == 1) = false := beq_eq_false_iff_ne.2 z1
          go_wp2
          go_ret
          exact ⟨ret_b Hr2.out, Hw4.out⟩
      · have x0 : ((i : Int) == (o : Int)) = false := beq_eq_false_iff_ne.2 (by omega)
        have Hr := Lib.hid (Htwo.out eio Hall.out)
        have hbu := Hsm.out i hi
        have hbv := Hsm.out o ho
        have hcu : w4.cell? ⟨g, i, none⟩ = some (vint (U i)) := by
          have := Hn.out.cell (k := i) (by rw [outL_len]; exact hi)
          rwa [outL_get hi] at this
        have hcv : w4.cell? ⟨g, o, none⟩ = some (vint (U o)) := by
          have := Hn.out.cell (k := o) (by rw [outL_len]; exact ho)
          rwa [outL_get ho] at this
        clear Hsame Htwo Hsm
        generalize U i = u at *
        generalize U o = v at *
        have hbu' : u.natAbs < 9223372036854775807 := by omega
        have hbv' : v.natAbs < 9223372036854775807 := by omega
        have hd0 : ¬ den = 0 := by omega
        have hd1 : (den == 0) = false := beq_eq_false_iff_ne.2 hd0
        obtain ⟨s, hs⟩ : ∃ s, v.tdiv den = s := ⟨_, rfl⟩
        have q1e : IntKind.i64.wrap (v.tdiv den) = s := by rw [wrap_fit (tdiv_fit hbv')]; exact hs
        have q2e := wrap_fit (tdiv_fit (s := s) hbu')
        have q3e : IntKind.i64.wrap (-u.tdiv s) = -u.tdiv s := wrap_fit (by rw [Int.natAbs_neg]; exact tdiv_fit hbu')
        have hend : ratEnd u v num den ↔ v.tmod den = 0 ∧ 1 ≤ s ∧ u.tmod s = 0 ∧ -u.tdiv s = num := by rw [← hs]; exact Iff.rfl
        have Hend := Lib.hid hend
        clear hend hbu hbv hbu' hbv' hs
        have hrr : ∀ b : Bool, (decide (ratEnd u v num den) = b) → b = res := fun b h => by rw [Hr.out, h]
        have Hrr := Lib.hid hrr
        clear hrr
        by_cases z1 : v.tmod den = 0
        · by_cases z2 : 1 ≤ s
          · have hs0 : ¬ s = 0 := by omega
            have hs1 : (s == 0) = false := beq_eq_false_iff_ne.2 hs0
            by_cases z3 : u.tmod s = 0
            · by_cases z4 : -u.tdiv s = num
              · have Hr2 := Lib.hid (Hrr.out true (decide_eq_true (Hend.out.2 ⟨z1, z2, z3, z4⟩)))
                have z4' : (-u.tdiv s == num) = true := beq_iff_eq.2 z4
                have z5 : IntKind.i64.wrap num = num := by rw [← z4]; exact q3e
                go_wp2
                go_ret
                exact ⟨ret_b Hr2.out, Hw4.out⟩
              · have Hr2 := Lib.hid (Hrr.out false (decide_eq_false fun h => z4 (Hend.out.1 h).2.2.2))
                have z4' : (-u.tdiv s == num) = false := beq_eq_false_iff_ne.2 z4
                go_wp2
                go_ret
                exact ⟨ret_b Hr2.out, Hw4.out⟩
            · have Hr2 := Lib.hid (Hrr.out false (decide_eq_false fun h => z3 (Hend.out.1 h).2.2.1))
              have z3' : (u.tmod s == 0) = false := beq_eq_false_iff_ne.2 z3
              go_wp2
              go_ret
              exact ⟨ret_b Hr2.out, Hw4.out⟩
          · have Hr2 := Lib.hid (Hrr.out false (decide_eq_false fun h => z2 (Hend.out.1 h).2.1))
            go_wp2
            go_ret
            exact ⟨ret_b Hr2.out, Hw4.out⟩
        · have Hr2 := Lib.hid (Hrr.out false (decide_eq_false fun h => z1 (Hend.out.1 h).1))
          have z1' : (v.tmod den == 0) = false := beq_eq_false_iff_ne.2 z1
          go_wp2
          go_ret
          exact ⟨ret_b Hr2.out, Hw4.out⟩
end Go.Proofs.Ytbclbcldplmppaa

/- Proofs checked, by the reference. -/
namespace Go.Proofs.Ytbclbcldplmppaa
open Go.RowKit

/-- The errors of the checks. -/
def jamE (s : Int) (ms : List Msh) (i : Int) (F M T : List Int) : Int := if askE s ms [i] = 0 then (if decide (jamPr (gearL ms s.toNat) ms.length s.toNat i.toNat F M T) = true then 0 else 31) else askE s ms [i]
def looseE (s : Int) (ms : List Msh) (i o : Int) (F M T : List Int) : Int := if askE s ms [i, o] = 0 then (if decide (loosePr (gearL ms s.toNat) ms.length s.toNat i.toNat o.toNat F M T) = true then 0 else 31) else askE s ms [i, o]
def ratE (s : Int) (ms : List Msh) (i o num den : Int) (F M T : List Int) : Int := if askE s ms [i, o] = 0 then (if decide (ratPr (gearL ms s.toNat) ms.length s.toNat i.toNat o.toNat num den F M T) = true then 0 else 31) else askE s ms [i, o]

theorem ask_one {s : Int} {ms : List Msh} {i : Int} (h : askE s ms [i] = 0) : ∃ S I : Nat, s = S ∧ i = I ∧ I < S ∧ trainP S ms := by
  obtain ⟨hT, hin⟩ := askE_zero h
  have ht : trainP s ms := of_decide_eq_true hT
  obtain ⟨S, rfl⟩ : ∃ S : Nat, s = S := ⟨s.toNat, by have := ht.1; omega⟩
  have hi := hin i (by simp)
  obtain ⟨I, rfl⟩ : ∃ I : Nat, i = I := ⟨i.toNat, by omega⟩
  exact ⟨S, I, rfl, rfl, by omega, ht⟩
theorem ask_two {s : Int} {ms : List Msh} {i o : Int} (h : askE s ms [i, o] = 0) : ∃ S I O : Nat, s = S ∧ i = I ∧ o = O ∧ I < S ∧ O < S ∧ trainP S ms := by
  obtain ⟨hT, hin⟩ := askE_zero h
  have ht : trainP s ms := of_decide_eq_true hT
  obtain ⟨S, rfl⟩ : ∃ S : Nat, s = S := ⟨s.toNat, by have := ht.1; omega⟩
  have hi := hin i (by simp)
  have ho := hin o (by simp)
  obtain ⟨I, rfl⟩ : ∃ I : Nat, i = I := ⟨i.toNat, by omega⟩
  obtain ⟨O, rfl⟩ : ∃ O : Nat, o = O := ⟨o.toNat, by omega⟩
  exact ⟨S, I, O, rfl, rfl, rfl, by omega, by omega, ht⟩

set_option maxRecDepth 100000 in
set_option maxHeartbeats 4000000 in
theorem checkJam_ref (A : Option Addr) (c : Nat) (s : Int) (ms : List Msh) (i : Int) (A1 A2 A3 : Option Addr) (c1 c2 c3 : Nat) (F M T : List Int) (w : World) (hA : MRow w A ms) (hl : ms.length ≤ 1000000) (h1 : Ints w A1 F) (_h2 : Ints w A2 M) (_h3 : Ints w A3 T) (hl1 : F.length ≤ 1000000) (_hl2 : M.length ≤ 1000000) (_hl3 : T.length ≤ 1000000) :
    Calls Try.prog 40 #[.agg #[.int .i64 s, .slice A ms.length c], .int .i64 i, .agg #[.slice A1 F.length c1, .slice A2 M.length c2, .slice A3 T.length c3]] w fun e w' => e = .returned (.int .i64 (jamE s ms i F M T)) ∧ Ext w w' := by
  have c0 := fun (w' : World) (he : Ext w w') => asked_ref A c s ms i i w' (hA.ext he) hl
  simp only [askE_twice] at c0
  have C0 := Lib.hid c0
  clear c0
  by_cases hz : askE s ms [i] = 0
  · obtain ⟨S, I, rfl, rfl, hi, ht⟩ := ask_one hz
    have e1 : jamE (S : Int) ms (I : Int) F M T = if decide (jamPr (gearL ms S) ms.length S I F M T) = true then 0 else 31 := by unfold jamE; rw [if_pos hz]; rfl
    rw [e1]
    rw [hz] at C0
    have c1' := fun (w' : World) (he : Ext w w') => provesJam_ref A c S I ms A1 A2 A3 c1 c2 c3 F M T w' (hA.ext he) ht hi (h1.ext he) hl1
    have C1 := Lib.hid c1'
    clear c1' e1 hz hA h1 _h2 _h3 hl ht
    have hx : Ext w ((w.alloc (.cells #[.int .i64 S, .slice A ms.length c] 41)).alloc (.cells #[.slice A1 F.length c1, .slice A2 M.length c2, .slice A3 T.length c3] 60)) := ((Ext.refl w).alloc _).alloc _
    have a0 : ∀ w', Ext ((w.alloc (.cells #[.int .i64 S, .slice A ms.length c] 41)).alloc (.cells #[.slice A1 F.length c1, .slice A2 M.length c2, .slice A3 T.length c3] 60)) w' → w'.cell? ⟨w.heap.size, 0, none⟩ = some (.int .i64 S) := fun w' he => cells_one rfl w' (Ext.trans ((Ext.refl _).alloc _) he)
    have a1 : ∀ w', Ext ((w.alloc (.cells #[.int .i64 S, .slice A ms.length c] 41)).alloc (.cells #[.slice A1 F.length c1, .slice A2 M.length c2, .slice A3 T.length c3] 60)) w' → w'.cell? ⟨w.heap.size, 1, none⟩ = some (.slice A ms.length c) := fun w' he => cells_one rfl w' (Ext.trans ((Ext.refl _).alloc _) he)
    have b0 : ∀ w', Ext ((w.alloc (.cells #[.int .i64 S, .slice A ms.length c] 41)).alloc (.cells #[.slice A1 F.length c1, .slice A2 M.length c2, .slice A3 T.length c3] 60)) w' → w'.cell? ⟨w.heap.size + 1, 0, none⟩ = some (.slice A1 F.length c1) := fun w' he => cells_two rfl w' he
    have b1 : ∀ w', Ext ((w.alloc (.cells #[.int .i64 S, .slice A ms.length c] 41)).alloc (.cells #[.slice A1 F.length c1, .slice A2 M.length c2, .slice A3 T.length c3] 60)) w' → w'.cell? ⟨w.heap.size + 1, 1, none⟩ = some (.slice A2 M.length c2) := fun w' he => cells_two rfl w' he
    have b2 : ∀ w', Ext ((w.alloc (.cells #[.int .i64 S, .slice A ms.length c] 41)).alloc (.cells #[.slice A1 F.length c1, .slice A2 M.length c2, .slice A3 T.length c3] 60)) w' → w'.cell? ⟨w.heap.size + 1, 2, none⟩ = some (.slice A3 T.length c3) := fun w' he => cells_two rfl w' he
    generalize decide (jamPr (gearL ms S) ms.length S I F M T) = b at *
    generalize F.length = q1 at *
    generalize M.length = q2 at *
    generalize T.length = q3 at *
    generalize ms.length = m at *
    cases b
    all_goals
      go_enter Try.func40, Try.ntmps40
      go_wp2_with (first
        | (go_at_call 35; (with_reducible refine (C0.out _ hx).mono ?_); rintro e w1 ⟨rfl, hx1⟩; have hxw1 := hx.trans hx1)
        | (go_at_call 87; (with_reducible refine (C1.out _ hxw1).mono ?_); rintro e w2 ⟨rfl, hx2⟩))
      go_ret
      exact ⟨rfl, hxw1.trans hx2⟩
  · have e1 : jamE s ms i F M T = askE s ms [i] := by unfold jamE; exact if_neg hz
    rw [e1]
    generalize askE s ms [i] = X at *
    clear hA h1 _h2 _h3 hl e1
    have hx : Ext w ((w.alloc (.cells #[.int .i64 s, .slice A ms.length c] 41)).alloc (.cells #[.slice A1 F.length c1, .slice A2 M.length c2, .slice A3 T.length c3] 60)) := ((Ext.refl w).alloc _).alloc _
    have a0 : ∀ w', Ext ((w.alloc (.cells #[.int .i64 s, .slice A ms.length c] 41)).alloc (.cells #[.slice A1 F.length c1, .slice A2 M.length c2, .slice A3 T.length c3] 60)) w' → w'.cell? ⟨w.heap.size, 0, none⟩ = some (.int .i64 s) := fun w' he => cells_one rfl w' (Ext.trans ((Ext.refl _).alloc _) he)
    have a1 : ∀ w', Ext ((w.alloc (.cells #[.int .i64 s, .slice A ms.length c] 41)).alloc (.cells #[.slice A1 F.length c1, .slice A2 M.length c2, .slice A3 T.length c3] 60)) w' → w'.cell? ⟨w.heap.size, 1, none⟩ = some (.slice A ms.length c) := fun w' he => cells_one rfl w' (Ext.trans ((Ext.refl _).alloc _) he)
    have b0 : ∀ w', Ext ((w.alloc (.cells #[.int .i64 s, .slice A ms.length c] 41)).alloc (.cells #[.slice A1 F.length c1, .slice A2 M.length c2, .slice A3 T.length c3] 60)) w' → w'.cell? ⟨w.heap.size + 1, 0, none⟩ = some (.slice A1 F.length c1) := fun w' he => cells_two rfl w' he
    have b1 : ∀ w', Ext ((w.alloc (.cells #[.int .i64 s, .slice A ms.length c] 41)).alloc (.cells #[.slice A1 F.length c1, .slice A2 M.length c2, .slice A3 T.length c3] 60)) w' → w'.cell? ⟨w.heap.size + 1, 1, none⟩ = some (.slice A2 M.length c2) := fun w' he => cells_two rfl w' he
    have b2 : ∀ w', Ext ((w.alloc (.cells #[.int .i64 s, .slice A ms.length c] 41)).alloc (.cells #[.slice A1 F.length c1, .slice A2 M.length c2, .slice A3 T.length c3] 60)) w' → w'.cell? ⟨w.heap.size + 1, 2, none⟩ = some (.slice A3 T.length c3) := fun w' he => cells_two rfl w' he
    generalize F.length = q1 at *
    generalize M.length = q2 at *
    generalize T.length = q3 at *
    generalize ms.length = m at *
    go_enter Try.func40, Try.ntmps40
    go_wp2_with (first
      | (go_at_call 35; (with_reducible refine (C0.out _ hx).mono ?_); rintro e w1 ⟨rfl, hx1⟩))
    go_ret
    exact ⟨rfl, hx.trans hx1⟩

set_option maxRecDepth 100000 in
set_option maxHeartbeats 4000000 in
theorem checkLoose_ref (A : Option Addr) (c : Nat) (s : Int) (ms : List Msh) (i : Int) (o : Int) (A1 A2 A3 : Option Addr) (c1 c2 c3 : Nat) (F M T : List Int) (w : World) (hA : MRow w A ms) (hl : ms.length ≤ 1000000) (_h1 : Ints w A1 F) (h2 : Ints w A2 M) (h3 : Ints w A3 T) (_hl1 : F.length ≤ 1000000) (hl2 : M.length ≤ 1000000) (hl3 : T.length ≤ 1000000) :
    Calls Try.prog 42 #[.agg #[.int .i64 s, .slice A ms.length c], .int .i64 i, .int .i64 o, .agg #[.slice A1 F.length c1, .slice A2 M.length c2, .slice A3 T.length c3]] w fun e w' => e = .returned (.int .i64 (looseE s ms i o F M T)) ∧ Ext w w' := by
  have c0 := fun (w' : World) (he : Ext w w') => asked_ref A c s ms i o w' (hA.ext he) hl
  have C0 := Lib.hid c0
  clear c0
  by_cases hz : askE s ms [i, o] = 0
  · obtain ⟨S, I, O, rfl, rfl, rfl, hi, ho, ht⟩ := ask_two hz
    have e1 : looseE (S : Int) ms (I : Int) (O : Int) F M T = if decide (loosePr (gearL ms S) ms.length S I O F M T) = true then 0 else 31 := by unfold looseE; rw [if_pos hz]; rfl
    rw [e1]
    rw [hz] at C0
    have c1' := fun (w' : World) (he : Ext w w') => provesLoose_ref A c S I O ms A1 A2 A3 c1 c2 c3 F M T w' (hA.ext he) ht hi ho (h2.ext he) (h3.ext he) hl2 hl3
    have C1 := Lib.hid c1'
    clear c1' e1 hz hA _h1 h2 h3 hl ht
    have hx : Ext w ((w.alloc (.cells #[.int .i64 S, .slice A ms.length c] 41)).alloc (.cells #[.slice A1 F.length c1, .slice A2 M.length c2, .slice A3 T.length c3] 60)) := ((Ext.refl w).alloc _).alloc _
    have a0 : ∀ w', Ext ((w.alloc (.cells #[.int .i64 S, .slice A ms.length c] 41)).alloc (.cells #[.slice A1 F.length c1, .slice A2 M.length c2, .slice A3 T.length c3] 60)) w' → w'.cell? ⟨w.heap.size, 0, none⟩ = some (.int .i64 S) := fun w' he => cells_one rfl w' (Ext.trans ((Ext.refl _).alloc _) he)
    have a1 : ∀ w', Ext ((w.alloc (.cells #[.int .i64 S, .slice A ms.length c] 41)).alloc (.cells #[.slice A1 F.length c1, .slice A2 M.length c2, .slice A3 T.length c3] 60)) w' → w'.cell? ⟨w.heap.size, 1, none⟩ = some (.slice A ms.length c) := fun w' he => cells_one rfl w' (Ext.trans ((Ext.refl _).alloc _) he)
    have b0 : ∀ w', Ext ((w.alloc (.cells #[.int .i64 S, .slice A ms.length c] 41)).alloc (.cells #[.slice A1 F.length c1, .slice A2 M.length c2, .slice A3 T.length c3] 60)) w' → w'.cell? ⟨w.heap.size + 1, 0, none⟩ = some (.slice A1 F.length c1) := fun w' he => cells_two rfl w' he
    have b1 : ∀ w', Ext ((w.alloc (.cells #[.int .i64 S, .slice A ms.length c] 41)).alloc (.cells #[.slice A1 F.length c1, .slice A2 M.length c2, .slice A3 T.length c3] 60)) w' → w'.cell? ⟨w.heap.size + 1, 1, none⟩ = some (.slice A2 M.length c2) := fun w' he => cells_two rfl w' he
    have b2 : ∀ w', Ext ((w.alloc (.cells #[.int .i64 S, .slice A ms.length c] 41)).alloc (.cells #[.slice A1 F.length c1, .slice A2 M.length c2, .slice A3 T.length c3] 60)) w' → w'.cell? ⟨w.heap.size + 1, 2, none⟩ = some (.slice A3 T.length c3) := fun w' he => cells_two rfl w' he
    generalize decide (loosePr (gearL ms S) ms.length S I O F M T) = b at *
    generalize F.length = q1 at *
    generalize M.length = q2 at *
    generalize T.length = q3 at *
    generalize ms.length = m at *
    cases b
    all_goals
      go_enter Try.func42, Try.ntmps42
      go_wp2_with (first
        | (go_at_call 35; (with_reducible refine (C0.out _ hx).mono ?_); rintro e w1 ⟨rfl, hx1⟩; have hxw1 := hx.trans hx1)
        | (go_at_call 89; (with_reducible refine (C1.out _ hxw1).mono ?_); rintro e w2 ⟨rfl, hx2⟩))
      go_ret
      exact ⟨rfl, hxw1.trans hx2⟩
  · have e1 : looseE s ms i o F M T = askE s ms [i, o] := by unfold looseE; exact if_neg hz
    rw [e1]
    generalize askE s ms [i, o] = X at *
    clear hA _h1 h2 h3 hl e1
    have hx : Ext w ((w.alloc (.cells #[.int .i64 s, .slice A ms.length c] 41)).alloc (.cells #[.slice A1 F.length c1, .slice A2 M.length c2, .slice A3 T.length c3] 60)) := ((Ext.refl w).alloc _).alloc _
    have a0 : ∀ w', Ext ((w.alloc (.cells #[.int .i64 s, .slice A ms.length c] 41)).alloc (.cells #[.slice A1 F.length c1, .slice A2 M.length c2, .slice A3 T.length c3] 60)) w' → w'.cell? ⟨w.heap.size, 0, none⟩ = some (.int .i64 s) := fun w' he => cells_one rfl w' (Ext.trans ((Ext.refl _).alloc _) he)
    have a1 : ∀ w', Ext ((w.alloc (.cells #[.int .i64 s, .slice A ms.length c] 41)).alloc (.cells #[.slice A1 F.length c1, .slice A2 M.length c2, .slice A3 T.length c3] 60)) w' → w'.cell? ⟨w.heap.size, 1, none⟩ = some (.slice A ms.length c) := fun w' he => cells_one rfl w' (Ext.trans ((Ext.refl _).alloc _) he)
    have b0 : ∀ w', Ext ((w.alloc (.cells #[.int .i64 s, .slice A ms.length c] 41)).alloc (.cells #[.slice A1 F.length c1, .slice A2 M.length c2, .slice A3 T.length c3] 60)) w' → w'.cell? ⟨w.heap.size + 1, 0, none⟩ = some (.slice A1 F.length c1) := fun w' he => cells_two rfl w' he
    have b1 : ∀ w', Ext ((w.alloc (.cells #[.int .i64 s, .slice A ms.length c] 41)).alloc (.cells #[.slice A1 F.length c1, .slice A2 M.length c2, .slice A3 T.length c3] 60)) w' → w'.cell? ⟨w.heap.size + 1, 1, none⟩ = some (.slice A2 M.length c2) := fun w' he => cells_two rfl w' he
    have b2 : ∀ w', Ext ((w.alloc (.cells #[.int .i64 s, .slice A ms.length c] 41)).alloc (.cells #[.slice A1 F.length c1, .slice A2 M.length c2, .slice A3 T.length c3] 60)) w' → w'.cell? ⟨w.heap.size + 1, 2, none⟩ = some (.slice A3 T.length c3) := fun w' he => cells_two rfl w' he
    generalize F.length = q1 at *
    generalize M.length = q2 at *
    generalize T.length = q3 at *
    generalize ms.length = m at *
    go_enter Try.func42, Try.ntmps42
    go_wp2_with (first
      | (go_at_call 35; (with_reducible refine (C0.out _ hx).mono ?_); rintro e w1 ⟨rfl, hx1⟩))
    go_ret
    exact ⟨rfl, hx.trans hx1⟩

theorem provesRatio_ref (A : Option Addr) (c S i o : Nat) (num den : Int) (ms : List Msh) (A1 A2 A3 : Option Addr) (c1 c2 c3 : Nat) (F M T : List Int) (w : World) (hA : MRow w A ms) (ht : trainP S ms) (hi : i < S) (ho : o < S) (h1 : Ints w A1 F) (h2 : Ints w A2 M) (hl1 : F.length ≤ 1000000) (hl2 : M.length ≤ 1000000) (hden : den ≤ 9223372036854775807) :
    Calls Try.prog 83 #[.agg #[.int .i64 S, .slice A ms.length c], .int .i64 i, .int .i64 o, .int .i64 num, .int .i64 den, .agg #[.slice A1 F.length c1, .slice A2 M.length c2, .slice A3 T.length c3]] w fun e w' => e = .returned (.bool (decide (ratPr (gearL ms S) ms.length S i o num den F M T))) ∧ Ext w w' := by
  by_cases h : sizedP F ms.length ∧ T.length = 0 ∧ movesP (gearL ms S) ms.length S M ∧ 0 < getI M i ∧ 1 ≤ den ∧ num.gcd den = 1
  · exact provesRatio_good A c S i o num den ms A1 A2 A3 c1 c2 c3 F M T w hA ht hi ho h1 h2 hl1 hl2 hden h
  · exact provesRatio_bad A c S i o num den ms A1 A2 A3 c1 c2 c3 F M T w hA ht hi ho h1 h2 hl1 hl2 hden h

set_option maxRecDepth 100000 in
set_option maxHeartbeats 4000000 in
theorem checkRatio_ref (A : Option Addr) (c : Nat) (s : Int) (ms : List Msh) (i : Int) (o : Int) (num den : Int) (A1 A2 A3 : Option Addr) (c1 c2 c3 : Nat) (F M T : List Int) (w : World) (hA : MRow w A ms) (hl : ms.length ≤ 1000000) (h1 : Ints w A1 F) (h2 : Ints w A2 M) (_h3 : Ints w A3 T) (hl1 : F.length ≤ 1000000) (hl2 : M.length ≤ 1000000) (_hl3 : T.length ≤ 1000000) (hden : den ≤ 9223372036854775807) :
    Calls Try.prog 38 #[.agg #[.int .i64 s, .slice A ms.length c], .int .i64 i, .int .i64 o, .int .i64 num, .int .i64 den, .agg #[.slice A1 F.length c1, .slice A2 M.length c2, .slice A3 T.length c3]] w fun e w' => e = .returned (.int .i64 (ratE s ms i o num den F M T)) ∧ Ext w w' := by
  have c0 := fun (w' : World) (he : Ext w w') => asked_ref A c s ms i o w' (hA.ext he) hl
  have C0 := Lib.hid c0
  clear c0
  by_cases hz : askE s ms [i, o] = 0
  · obtain ⟨S, I, O, rfl, rfl, rfl, hi, ho, ht⟩ := ask_two hz
    have e1 : ratE (S : Int) ms (I : Int) (O : Int) num den F M T = if decide (ratPr (gearL ms S) ms.length S I O num den F M T) = true then 0 else 31 := by unfold ratE; rw [if_pos hz]; rfl
    rw [e1]
    rw [hz] at C0
    have c1' := fun (w' : World) (he : Ext w w') => provesRatio_ref A c S I O num den ms A1 A2 A3 c1 c2 c3 F M T w' (hA.ext he) ht hi ho (h1.ext he) (h2.ext he) hl1 hl2 hden
    have C1 := Lib.hid c1'
    clear c1' e1 hz hA h1 h2 _h3 hl ht
    have hx : Ext w ((w.alloc (.cells #[.int .i64 S, .slice A ms.length c] 41)).alloc (.cells #[.slice A1 F.length c1, .slice A2 M.length c2, .slice A3 T.length c3] 60)) := ((Ext.refl w).alloc _).alloc _
    have a0 : ∀ w', Ext ((w.alloc (.cells #[.int .i64 S, .slice A ms.length c] 41)).alloc (.cells #[.slice A1 F.length c1, .slice A2 M.length c2, .slice A3 T.length c3] 60)) w' → w'.cell? ⟨w.heap.size, 0, none⟩ = some (.int .i64 S) := fun w' he => cells_one rfl w' (Ext.trans ((Ext.refl _).alloc _) he)
    have a1 : ∀ w', Ext ((w.alloc (.cells #[.int .i64 S, .slice A ms.length c] 41)).alloc (.cells #[.slice A1 F.length c1, .slice A2 M.length c2, .slice A3 T.length c3] 60)) w' → w'.cell? ⟨w.heap.size, 1, none⟩ = some (.slice A ms.length c) := fun w' he => cells_one rfl w' (Ext.trans ((Ext.refl _).alloc _) he)
    have b0 : ∀ w', Ext ((w.alloc (.cells #[.int .i64 S, .slice A ms.length c] 41)).alloc (.cells #[.slice A1 F.length c1, .slice A2 M.length c2, .slice A3 T.length c3] 60)) w' → w'.cell? ⟨w.heap.size + 1, 0, none⟩ = some (.slice A1 F.length c1) := fun w' he => cells_two rfl w' he
    have b1 : ∀ w', Ext ((w.alloc (.cells #[.int .i64 S, .slice A ms.length c] 41)).alloc (.cells #[.slice A1 F.length c1, .slice A2 M.length c2, .slice A3 T.length c3] 60)) w' → w'.cell? ⟨w.heap.size + 1, 1, none⟩ = some (.slice A2 M.length c2) := fun w' he => cells_two rfl w' he
    have b2 : ∀ w', Ext ((w.alloc (.cells #[.int .i64 S, .slice A ms.length c] 41)).alloc (.cells #[.slice A1 F.length c1, .slice A2 M.length c2, .slice A3 T.length c3] 60)) w' → w'.cell? ⟨w.heap.size + 1, 2, none⟩ = some (.slice A3 T.length c3) := fun w' he => cells_two rfl w' he
    generalize decide (ratPr (gearL ms S) ms.length S I O num den F M T) = b at *
    generalize F.length = q1 at *
    generalize M.length = q2 at *
    generalize T.length = q3 at *
    generalize ms.length = m at *
    cases b
    all_goals
      go_enter Try.func38, Try.ntmps38
      go_wp2_with (first
        | (go_at_call 35; (with_reducible refine (C0.out _ hx).mono ?_); rintro e w1 ⟨rfl, hx1⟩; have hxw1 := hx.trans hx1)
        | (go_at_call 83; (with_reducible refine (C1.out _ hxw1).mono ?_); rintro e w2 ⟨rfl, hx2⟩))
      go_ret
      exact ⟨rfl, hxw1.trans hx2⟩
  · have e1 : ratE s ms i o num den F M T = askE s ms [i, o] := by unfold ratE; exact if_neg hz
    rw [e1]
    generalize askE s ms [i, o] = X at *
    clear hA h1 h2 _h3 hl e1
    have hx : Ext w ((w.alloc (.cells #[.int .i64 s, .slice A ms.length c] 41)).alloc (.cells #[.slice A1 F.length c1, .slice A2 M.length c2, .slice A3 T.length c3] 60)) := ((Ext.refl w).alloc _).alloc _
    have a0 : ∀ w', Ext ((w.alloc (.cells #[.int .i64 s, .slice A ms.length c] 41)).alloc (.cells #[.slice A1 F.length c1, .slice A2 M.length c2, .slice A3 T.length c3] 60)) w' → w'.cell? ⟨w.heap.size, 0, none⟩ = some (.int .i64 s) := fun w' he => cells_one rfl w' (Ext.trans ((Ext.refl _).alloc _) he)
    have a1 : ∀ w', Ext ((w.alloc (.cells #[.int .i64 s, .slice A ms.length c] 41)).alloc (.cells #[.slice A1 F.length c1, .slice A2 M.length c2, .slice A3 T.length c3] 60)) w' → w'.cell? ⟨w.heap.size, 1, none⟩ = some (.slice A ms.length c) := fun w' he => cells_one rfl w' (Ext.trans ((Ext.refl _).alloc _) he)
    have b0 : ∀ w', Ext ((w.alloc (.cells #[.int .i64 s, .slice A ms.length c] 41)).alloc (.cells #[.slice A1 F.length c1, .slice A2 M.length c2, .slice A3 T.length c3] 60)) w' → w'.cell? ⟨w.heap.size + 1, 0, none⟩ = some (.slice A1 F.length c1) := fun w' he => cells_two rfl w' he
    have b1 : ∀ w', Ext ((w.alloc (.cells #[.int .i64 s, .slice A ms.length c] 41)).alloc (.cells #[.slice A1 F.length c1, .slice A2 M.length c2, .slice A3 T.length c3] 60)) w' → w'.cell? ⟨w.heap.size + 1, 1, none⟩ = some (.slice A2 M.length c2) := fun w' he => cells_two rfl w' he
    have b2 : ∀ w', Ext ((w.alloc (.cells #[.int .i64 s, .slice A ms.length c] 41)).alloc (.cells #[.slice A1 F.length c1, .slice A2 M.length c2, .slice A3 T.length c3] 60)) w' → w'.cell? ⟨w.heap.size + 1, 2, none⟩ = some (.slice A3 T.length c3) := fun w' he => cells_two rfl w' he
    generalize F.length = q1 at *
    generalize M.length = q2 at *
    generalize T.length = q3 at *
    generalize ms.length = m at *
    go_enter Try.func38, Try.ntmps38
    go_wp2_with (first
      | (go_at_call 35; (with_reducible refine (C0.out _ hx).mono ?_); rintro e w1 ⟨rfl, hx1⟩))
    go_ret
    exact ⟨rfl, hx.trans hx1⟩
end Go.Proofs.Ytbclbcldplmppaa

/- A jam's proof checked, by the code. -/
namespace Go.Proofs.Ytbclbcldplmppaa
open Go.RowKit

theorem jam_only {L : Nat → Nat → Int} {m n i : Nat} {F M T : List Int} (h1 : sizedP F m) (h2 : M.length = 0) (h3 : T.length = 0) (hi : i < n) : decide (jamPr L m n i F M T) = (decide (onlyP (outL n (sumT F L m)) [(i : Int)]) && decide (0 < sumT F L m i)) := by
  rw [Bool.eq_iff_iff, Bool.and_eq_true, decide_eq_true_iff, decide_eq_true_iff, decide_eq_true_iff]
  constructor
  · intro h
    refine ⟨fun k hk hne => ?_, h.2.2.2.2⟩
    rw [outL_len] at hk
    rw [outL_get hk] at hne
    by_cases e : k = i
    · subst e; simp [memB]
    · exact absurd (h.2.2.2.1 k hk e) hne
  · rintro ⟨h, hp⟩
    refine ⟨h1, h2, h3, fun k hk hki => Classical.byContradiction fun hne => ?_, hp⟩
    have := h k (by rw [outL_len]; exact hk) (by rw [outL_get hk]; exact hne)
    simp only [memB, List.mem_singleton, decide_eq_true_eq] at this
    omega

theorem verdict_code (b : Bool) (w : World) : Calls Try.prog 81 #[.bool b] w fun e w' => e = .returned (.int .i64 (if b = true then 0 else 31)) ∧ w = w' := by
  cases b
  all_goals
    go_enter Try.func81, Try.ntmps81
    go_wp2
    go_ret
    exact ⟨rfl, rfl⟩

/-- The fourth of the new blocks. -/
theorem cells_last {w : World} {cs : Array Value} {t : TypeId} {j : Nat} {v : Value} {g : Nat} (hg : w.heap.size = g) (hv : cs[j]? = some v) : (w.alloc (.cells cs t)).cell? ⟨g, j, none⟩ = some v := by
  subst hg
  rw [cell_heap (heap_alloc_new w _), hv]

set_option maxRecDepth 100000 in
set_option maxHeartbeats 4000000 in
theorem checkJam_any (A : Option Addr) (c : Nat) (s : Int) (ms : List Msh) (i : Int) (A1 A2 A3 : Option Addr) (c1 c2 c3 : Nat) (F M T : List Int) (w : World) (hA : MRow w A ms) (hl : ms.length ≤ 1000000) (h1 : Ints w A1 F) (hl1 : F.length ≤ 1000000) :
    Calls Try.prog 39 #[.agg #[.int .i64 s, .slice A ms.length c], .int .i64 i, .agg #[.slice A1 F.length c1, .slice A2 M.length c2, .slice A3 T.length c3]] w fun e w' => e = .returned (.int .i64 (jamE s ms i F M T)) ∧ Ext w w' := by
  have c0 : ∀ (g : Nat) (w' : World) (_ : Ext w w') (_ : w'.cell? ⟨g, 0, none⟩ = some (vint i)), Calls Try.prog 73 #[.agg #[.int .i64 s, .slice A ms.length c], .slice (some ⟨g, 0, none⟩) 1 1] w' fun e w'' => e = .returned (.int .i64 (askE s ms [i])) ∧ Ext w' w'' :=
    fun g w' he hc => asked_any A c s ms (some ⟨g, 0, none⟩) 1 [i] w' (hA.ext he) hl (ints_one hc) (by simp)
  have cA := c0 (w.heap.size + 1 + 1) (((w.alloc (.cells #[.int .i64 s, .slice A ms.length c] 41)).alloc (.cells #[.slice A1 F.length c1, .slice A2 M.length c2, .slice A3 T.length c3] 60)).alloc (.cells #[.int .i64 i] 3)) (((((Ext.refl w).alloc _).alloc _).alloc _)) (cells_three rfl _ (Ext.refl _))
  have C0 := Lib.hid cA
  clear c0 cA
  have hx : Ext w ((w.alloc (.cells #[.int .i64 s, .slice A ms.length c] 41)).alloc (.cells #[.slice A1 F.length c1, .slice A2 M.length c2, .slice A3 T.length c3] 60)) := ((Ext.refl w).alloc _).alloc _
  have a0 : ∀ w', Ext ((w.alloc (.cells #[.int .i64 s, .slice A ms.length c] 41)).alloc (.cells #[.slice A1 F.length c1, .slice A2 M.length c2, .slice A3 T.length c3] 60)) w' → w'.cell? ⟨w.heap.size, 0, none⟩ = some (.int .i64 s) := fun w' he => cells_one rfl w' (Ext.trans ((Ext.refl _).alloc _) he)
  have a1 : ∀ w', Ext ((w.alloc (.cells #[.int .i64 s, .slice A ms.length c] 41)).alloc (.cells #[.slice A1 F.length c1, .slice A2 M.length c2, .slice A3 T.length c3] 60)) w' → w'.cell? ⟨w.heap.size, 1, none⟩ = some (.slice A ms.length c) := fun w' he => cells_one rfl w' (Ext.trans ((Ext.refl _).alloc _) he)
  have b0 : ∀ w', Ext ((w.alloc (.cells #[.int .i64 s, .slice A ms.length c] 41)).alloc (.cells #[.slice A1 F.length c1, .slice A2 M.length c2, .slice A3 T.length c3] 60)) w' → w'.cell? ⟨w.heap.size + 1, 0, none⟩ = some (.slice A1 F.length c1) := fun w' he => cells_two rfl w' he
  have b1 : ∀ w', Ext ((w.alloc (.cells #[.int .i64 s, .slice A ms.length c] 41)).alloc (.cells #[.slice A1 F.length c1, .slice A2 M.length c2, .slice A3 T.length c3] 60)) w' → w'.cell? ⟨w.heap.size + 1, 1, none⟩ = some (.slice A2 M.length c2) := fun w' he => cells_two rfl w' he
  have b2 : ∀ w', Ext ((w.alloc (.cells #[.int .i64 s, .slice A ms.length c] 41)).alloc (.cells #[.slice A1 F.length c1, .slice A2 M.length c2, .slice A3 T.length c3] 60)) w' → w'.cell? ⟨w.heap.size + 1, 2, none⟩ = some (.slice A3 T.length c3) := fun w' he => cells_two rfl w' he
  by_cases hz : askE s ms [i] = 0
  · obtain ⟨S, I, rfl, rfl, hi, ht⟩ := ask_one hz
    have h8 : S ≤ 8 := by have := ht.2.1; omega
    have e1 : jamE (S : Int) ms (I : Int) F M T = if decide (jamPr (gearL ms S) ms.length S I F M T) = true then 0 else 31 := by unfold jamE; rw [if_pos hz]; rfl
    rw [e1]
    rw [hz] at C0
    have cs := fun (w' : World) (he : Ext w w') => sized_any A1 c1 F ms.length w' (h1.ext he) hl1
    by_cases g1 : sizedP F ms.length
    · rw [decide_eq_true g1] at cs
      by_cases g2 : M.length = 0
      · by_cases g3 : T.length = 0
        · rw [jam_only g1 g2 g3 hi]
          have cu := fun (w' : World) (he : Ext w w') => sum_any A c S ms A1 c1 F w' (hA.ext he) ht (h1.ext he) g1
          have Cs := Lib.hid cs
          have Cu := Lib.hid cu
          clear cs cu hA ht h1 e1 g1 hz hl hl1
          generalize sumT F (gearL ms S) ms.length = U at *
          generalize F.length = q1 at *
          generalize M.length = q2 at *
          generalize T.length = q3 at *
          generalize ms.length = m at *
          subst g2 g3
          have hul : (outL S U).length = S := outL_len _ _
          have con := fun (g gl : Nat) (w' : World) (h : Ints w' (some ⟨g, 0, none⟩) (outL S U)) (hc : w'.cell? ⟨gl, 0, none⟩ = some (vint I)) => only_any (some ⟨g, 0, none⟩) S (outL S U) (some ⟨gl, 0, none⟩) 1 [(I : Int)] w' h (ints_one hc) (by rw [hul]; omega) (by simp)
          have cat := fun (g : Nat) (w' : World) (h : Ints w' (some ⟨g, 0, none⟩) (outL S U)) => at_any (some ⟨g, 0, none⟩) S I (outL S U) w' h (by rw [hul]; exact hi)
          rw [hul, outL_get hi] at cat
          rw [hul] at con
          have Con := Lib.hid con
          have Cat := Lib.hid cat
          have Hul := Lib.hid hul
          clear con cat hul
          cases z1 : decide (onlyP (outL S U) [(I : Int)])
          all_goals cases z2 : decide (0 < U I)
          all_goals
            rw [z1] at Con
            go_enter Try.func39, Try.ntmps39
            go_wp2_with (first
              | (go_at_call 73; (with_reducible refine C0.out.mono ?_); rintro e w1 ⟨rfl, hx1⟩; have hxb1 := Ext.trans ((Ext.refl _).alloc _) hx1; have hxw1 := hx.trans hxb1)
              | (go_at_call 84; (with_reducible refine (Cs.out _ hxw1).mono ?_); rintro e w2 ⟨rfl, rfl⟩)
              | (go_at_call 85; (with_reducible refine (Cu.out _ hxw1).mono ?_); rintro e w2 ⟨g, rfl, hn⟩; rw [Hul.out]; have hxw2 := hxw1.trans hn.ext; have hn2 := hn.later ((Ext.refl _).alloc (.cells #[.int .i64 I] 3)))
              | (go_at_call 86; refine (Con.out g _ _ hn2.ints (cells_last rfl rfl)).mono ?_; rintro e w3 ⟨rfl, rfl⟩)
              | (go_at_call 78; (with_reducible refine (Cat.out g _ hn2.ints).mono ?_); rintro e w4 ⟨rfl, rfl⟩)
              | (go_at_call 81; refine (verdict_code _ _).mono ?_; rintro e w5 ⟨rfl, rfl⟩))
            go_ret
            exact ⟨rfl, hxw2.trans ((Ext.refl _).alloc _)⟩
        · rw [jam_no3 g3]
          have g4 : (0 : Int) < (T.length : Int) := by omega
          have Cs := Lib.hid cs
          clear cs hA ht h1 e1 g1 g3 hz hl hl1
          generalize F.length = q1 at *
          generalize M.length = q2 at *
          generalize T.length = q3 at *
          generalize ms.length = m at *
          subst g2
          go_enter Try.func39, Try.ntmps39
          go_wp2_with (first
            | (go_at_call 73; (with_reducible refine C0.out.mono ?_); rintro e w1 ⟨rfl, hx1⟩; have hxb1 := Ext.trans ((Ext.refl _).alloc _) hx1; have hxw1 := hx.trans hxb1)
            | (go_at_call 84; (with_reducible refine (Cs.out _ hxw1).mono ?_); rintro e w2 ⟨rfl, rfl⟩))
          go_ret
          exact ⟨rfl, hxw1⟩
      · rw [jam_no2 g2]
        have g4 : (0 : Int) < (M.length : Int) := by omega
        have Cs := Lib.hid cs
        clear cs hA ht h1 e1 g1 g2 hz hl hl1
        generalize F.length = q1 at *
        generalize M.length = q2 at *
        generalize T.length = q3 at *
        generalize ms.length = m at *
        go_enter Try.func39, Try.ntmps39
        go_wp2_with (first
          | (go_at_call 73; (with_reducible refine C0.out.mono ?_); rintro e w1 ⟨rfl, hx1⟩; have hxb1 := Ext.trans ((Ext.refl _).alloc _) hx1; have hxw1 := hx.trans hxb1)
          | (go_at_call 84; (with_reducible refine (Cs.out _ hxw1).mono ?_); rintro e w2 ⟨rfl, rfl⟩))
        go_ret
        exact ⟨rfl, hxw1⟩
    · rw [jam_no1 g1]
      rw [decide_eq_false g1] at cs
      have Cs := Lib.hid cs
      clear cs hA ht h1 e1 g1 hz hl hl1
      generalize F.length = q1 at *
      generalize M.length = q2 at *
      generalize T.length = q3 at *
      generalize ms.length = m at *
      go_enter Try.func39, Try.ntmps39
      go_wp2_with (first
        | (go_at_call 73; (with_reducible refine C0.out.mono ?_); rintro e w1 ⟨rfl, hx1⟩; have hxb1 := Ext.trans ((Ext.refl _).alloc _) hx1; have hxw1 := hx.trans hxb1)
        | (go_at_call 84; (with_reducible refine (Cs.out _ hxw1).mono ?_); rintro e w2 ⟨rfl, rfl⟩))
      go_ret
      exact ⟨rfl, hxw1⟩
  · have e1 : jamE s ms i F M T = askE s ms [i] := by unfold jamE; exact if_neg hz
    rw [e1]
    generalize askE s ms [i] = X at *
    clear hA h1 hl e1 hl1
    generalize F.length = q1 at *
    generalize M.length = q2 at *
    generalize T.length = q3 at *
    generalize ms.length = m at *
    go_enter Try.func39, Try.ntmps39
    go_wp2_with (first
      | (go_at_call 73; (with_reducible refine C0.out.mono ?_); rintro e w1 ⟨rfl, hx1⟩; have hxb1 := Ext.trans ((Ext.refl _).alloc _) hx1; have hxw1 := hx.trans hxb1))
    go_ret
    exact ⟨rfl, hxw1⟩
end Go.Proofs.Ytbclbcldplmppaa

/- A loose shaft's proof checked, by the code. -/
namespace Go.Proofs.Ytbclbcldplmppaa
open Go.RowKit

set_option maxRecDepth 100000 in
set_option maxHeartbeats 4000000 in
theorem checkLoose_any (A : Option Addr) (c : Nat) (s : Int) (ms : List Msh) (i o : Int) (A1 A2 A3 : Option Addr) (c1 c2 c3 : Nat) (F M T : List Int) (w : World) (hA : MRow w A ms) (hl : ms.length ≤ 1000000) (h2 : Ints w A2 M) (h3 : Ints w A3 T) (hl2 : M.length ≤ 1000000) (hl3 : T.length ≤ 1000000) :
    Calls Try.prog 41 #[.agg #[.int .i64 s, .slice A ms.length c], .int .i64 i, .int .i64 o, .agg #[.slice A1 F.length c1, .slice A2 M.length c2, .slice A3 T.length c3]] w fun e w' => e = .returned (.int .i64 (looseE s ms i o F M T)) ∧ Ext w w' := by
  have c0 : ∀ (g : Nat) (w' : World) (_ : Ext w w') (_ : w'.cell? ⟨g, 0, none⟩ = some (vint i)) (_ : w'.cell? ⟨g, 1, none⟩ = some (vint o)), Calls Try.prog 73 #[.agg #[.int .i64 s, .slice A ms.length c], .slice (some ⟨g, 0, none⟩) 2 2] w' fun e w'' => e = .returned (.int .i64 (askE s ms [i, o])) ∧ Ext w' w'' :=
    fun g w' he hc hc' => asked_any A c s ms (some ⟨g, 0, none⟩) 2 [i, o] w' (hA.ext he) hl (ints_two hc hc') (by simp)
  have cA := c0 (w.heap.size + 1 + 1) (((w.alloc (.cells #[.int .i64 s, .slice A ms.length c] 41)).alloc (.cells #[.slice A1 F.length c1, .slice A2 M.length c2, .slice A3 T.length c3] 60)).alloc (.cells #[.int .i64 i, .int .i64 o] 3)) (((((Ext.refl w).alloc _).alloc _).alloc _)) (cells_three rfl _ (Ext.refl _)) (cells_three rfl _ (Ext.refl _))
  have C0 := Lib.hid cA
  clear c0 cA
  have hx : Ext w ((w.alloc (.cells #[.int .i64 s, .slice A ms.length c] 41)).alloc (.cells #[.slice A1 F.length c1, .slice A2 M.length c2, .slice A3 T.length c3] 60)) := ((Ext.refl w).alloc _).alloc _
  have a0 : ∀ w', Ext ((w.alloc (.cells #[.int .i64 s, .slice A ms.length c] 41)).alloc (.cells #[.slice A1 F.length c1, .slice A2 M.length c2, .slice A3 T.length c3] 60)) w' → w'.cell? ⟨w.heap.size, 0, none⟩ = some (.int .i64 s) := fun w' he => cells_one rfl w' (Ext.trans ((Ext.refl _).alloc _) he)
  have a1 : ∀ w', Ext ((w.alloc (.cells #[.int .i64 s, .slice A ms.length c] 41)).alloc (.cells #[.slice A1 F.length c1, .slice A2 M.length c2, .slice A3 T.length c3] 60)) w' → w'.cell? ⟨w.heap.size, 1, none⟩ = some (.slice A ms.length c) := fun w' he => cells_one rfl w' (Ext.trans ((Ext.refl _).alloc _) he)
  have b0 : ∀ w', Ext ((w.alloc (.cells #[.int .i64 s, .slice A ms.length c] 41)).alloc (.cells #[.slice A1 F.length c1, .slice A2 M.length c2, .slice A3 T.length c3] 60)) w' → w'.cell? ⟨w.heap.size + 1, 0, none⟩ = some (.slice A1 F.length c1) := fun w' he => cells_two rfl w' he
  have b1 : ∀ w', Ext ((w.alloc (.cells #[.int .i64 s, .slice A ms.length c] 41)).alloc (.cells #[.slice A1 F.length c1, .slice A2 M.length c2, .slice A3 T.length c3] 60)) w' → w'.cell? ⟨w.heap.size + 1, 1, none⟩ = some (.slice A2 M.length c2) := fun w' he => cells_two rfl w' he
  have b2 : ∀ w', Ext ((w.alloc (.cells #[.int .i64 s, .slice A ms.length c] 41)).alloc (.cells #[.slice A1 F.length c1, .slice A2 M.length c2, .slice A3 T.length c3] 60)) w' → w'.cell? ⟨w.heap.size + 1, 2, none⟩ = some (.slice A3 T.length c3) := fun w' he => cells_two rfl w' he
  by_cases hz : askE s ms [i, o] = 0
  · obtain ⟨S, I, O, rfl, rfl, rfl, hi, ho, ht⟩ := ask_two hz
    have e1 : looseE (S : Int) ms (I : Int) (O : Int) F M T = if decide (loosePr (gearL ms S) ms.length S I O F M T) = true then 0 else 31 := by unfold looseE; rw [if_pos hz]; rfl
    rw [e1]
    rw [hz] at C0
    have cm := fun (w' : World) (he : Ext w w') => moves_any A c S ms A2 c2 M w' (hA.ext he) ht (h2.ext he) hl2
    have ct := fun (w' : World) (he : Ext w w') => moves_any A c S ms A3 c3 T w' (hA.ext he) ht (h3.ext he) hl3
    by_cases g1 : F.length = 0
    · by_cases g2 : movesP (gearL ms S) ms.length S M
      · rw [decide_eq_true g2] at cm
        by_cases g3 : movesP (gearL ms S) ms.length S T
        · rw [decide_eq_true g3] at ct
          rw [loose_is g1 g2 g3]
          have hM : M.length = S := g2.1.1
          have hT : T.length = S := g3.1.1
          obtain ⟨d2, rfl, e2⟩ := h2.some_ (by omega)
          obtain ⟨d3, rfl, e3⟩ := h3.some_ (by omega)
          have m1 : ∀ w', Ext w w' → w'.cell? (d2.add I) = some (vint (getI M I)) := fun w' he => e2 I (by omega) w' he
          have t1 : ∀ w', Ext w w' → w'.cell? (d3.add I) = some (vint (getI T I)) := fun w' he => e3 I (by omega) w' he
          have t2 : ∀ w', Ext w w' → w'.cell? (d3.add O) = some (vint (getI T O)) := fun w' he => e3 O (by omega) w' he
          have Cm := Lib.hid cm
          have Ct := Lib.hid ct
          have hii : (I : Int) < (S : Int) := by omega
          have hoo : (O : Int) < (S : Int) := by omega
          rw [hM] at Cm C0 hx a0 a1 b0 b1 b2 ⊢
          rw [hT] at Ct C0 hx a0 a1 b0 b1 b2 ⊢
          clear cm ct hA ht h2 h3 g2 g3 hM hT e1 e2 e3 hl2 hl3 hl hz
          generalize getI M I = y1 at *
          generalize getI T I = y2 at *
          generalize getI T O = y3 at *
          generalize F.length = q1 at *
          generalize ms.length = m at *
          subst g1
          have M1 := Lib.hid m1
          have T1 := Lib.hid t1
          have T2 := Lib.hid t2
          clear m1 t1 t2
          cases z1 : decide (0 < y1)
          all_goals cases z2 : decide (y2 = 0)
          all_goals cases z3 : decide (0 < y3)
          all_goals
            have z2' : (y2 == 0) = decide (y2 = 0) := by rw [Bool.eq_iff_iff]; simp
            rw [z2] at z2'
            clear z2
            go_enter Try.func41, Try.ntmps41
            go_wp2_with (first
              | (go_at_call 73; (with_reducible refine C0.out.mono ?_); rintro e w1 ⟨rfl, hx1⟩; have hxb1 := Ext.trans ((Ext.refl _).alloc _) hx1; have hxw1 := hx.trans hxb1)
              | (go_at_call 88; with_reducible first | (refine (Cm.out _ hxw1).mono ?_; rintro e w2 ⟨rfl, hx2⟩; have hxw2 := hxw1.trans hx2; have hxb2 := hxb1.trans hx2; have k1 := M1.out w2 hxw2) | (refine (Ct.out _ hxw2).mono ?_; rintro e w3 ⟨rfl, hx3⟩; have hxw3 := hxw2.trans hx3; have hxb3 := hxb2.trans hx3; have k2 := M1.out w3 hxw3; have k3 := T1.out w3 hxw3; have k4 := T2.out w3 hxw3))
              | (go_at_call 81; refine (verdict_code _ _).mono ?_; rintro e w5 ⟨rfl, rfl⟩))
            go_ret
            exact ⟨rfl, hxw3⟩
        · rw [loose_no3 g3]
          rw [decide_eq_false g3] at ct
          have Cm := Lib.hid cm
          have Ct := Lib.hid ct
          clear cm ct hA ht h2 h3 g2 g3 hl2 hl3 e1 hl hz
          generalize F.length = q1 at *
          generalize M.length = q2 at *
          generalize T.length = q3 at *
          generalize ms.length = m at *
          subst g1
          go_enter Try.func41, Try.ntmps41
          go_wp2_with (first
            | (go_at_call 73; (with_reducible refine C0.out.mono ?_); rintro e w1 ⟨rfl, hx1⟩; have hxb1 := Ext.trans ((Ext.refl _).alloc _) hx1; have hxw1 := hx.trans hxb1)
            | (go_at_call 88; with_reducible first | (refine (Cm.out _ hxw1).mono ?_; rintro e w2 ⟨rfl, hx2⟩; have hxw2 := hxw1.trans hx2; have hxb2 := hxb1.trans hx2) | (refine (Ct.out _ hxw2).mono ?_; rintro e w3 ⟨rfl, hx3⟩; have hxw3 := hxw2.trans hx3))
            | (go_at_call 81; refine (verdict_code _ _).mono ?_; rintro e w5 ⟨rfl, rfl⟩))
          go_ret
          exact ⟨rfl, hxw3⟩
      · rw [loose_no2 g2]
        rw [decide_eq_false g2] at cm
        have Cm := Lib.hid cm
        clear cm ct hA ht h2 h3 g2 hl2 hl3 e1 hl hz
        generalize F.length = q1 at *
        generalize M.length = q2 at *
        generalize T.length = q3 at *
        generalize ms.length = m at *
        subst g1
        go_enter Try.func41, Try.ntmps41
        go_wp2_with (first
          | (go_at_call 73; (with_reducible refine C0.out.mono ?_); rintro e w1 ⟨rfl, hx1⟩; have hxb1 := Ext.trans ((Ext.refl _).alloc _) hx1; have hxw1 := hx.trans hxb1)
          | (go_at_call 88; (with_reducible refine (Cm.out _ hxw1).mono ?_); rintro e w2 ⟨rfl, hx2⟩; have hxw2 := hxw1.trans hx2)
          | (go_at_call 81; refine (verdict_code _ _).mono ?_; rintro e w5 ⟨rfl, rfl⟩))
        go_ret
        exact ⟨rfl, hxw2⟩
    · rw [loose_no1 g1]
      have g4 : ¬ (F.length : Int) = 0 := by omega
      have g5 : ((F.length : Int) == 0) = false := beq_eq_false_iff_ne.2 g4
      clear cm ct hA ht h2 h3 g1 hl2 hl3 e1 hl hz
      generalize F.length = q1 at *
      generalize M.length = q2 at *
      generalize T.length = q3 at *
      generalize ms.length = m at *
      go_enter Try.func41, Try.ntmps41
      go_wp2_with (first
        | (go_at_call 73; (with_reducible refine C0.out.mono ?_); rintro e w1 ⟨rfl, hx1⟩; have hxb1 := Ext.trans ((Ext.refl _).alloc _) hx1; have hxw1 := hx.trans hxb1)
        | (go_at_call 81; refine (verdict_code _ _).mono ?_; rintro e w5 ⟨rfl, rfl⟩))
      go_ret
      exact ⟨rfl, hxw1⟩
  · have e1 : looseE s ms i o F M T = askE s ms [i, o] := by unfold looseE; exact if_neg hz
    rw [e1]
    generalize askE s ms [i, o] = X at *
    clear hA h2 h3 hl e1 hl2 hl3
    generalize F.length = q1 at *
    generalize M.length = q2 at *
    generalize T.length = q3 at *
    generalize ms.length = m at *
    go_enter Try.func41, Try.ntmps41
    go_wp2_with (first
      | (go_at_call 73; (with_reducible refine C0.out.mono ?_); rintro e w1 ⟨rfl, hx1⟩; have hxb1 := Ext.trans ((Ext.refl _).alloc _) hx1; have hxw1 := hx.trans hxb1))
    go_ret
    exact ⟨rfl, hxw1⟩
end Go.Proofs.Ytbclbcldplmppaa
