/- The law HingeReversed. -/
import Derived.Test.YteilglljigjefaaRQx
import Derived.Test.YteilglljigjefaaR30
namespace Go.Proofs.Yteilglljigjefaa
open Go.RowKit Go.Maps
set_option maxRecDepth 100000 in
set_option maxHeartbeats 8000000 in
theorem rev_law_out (A : Option Addr) (c : Nat) (ps : List (List Sp)) (B : Option Addr) (d : Nat) (hs : List Hg) (w : World) (hA : PnRow w A ps) (hg : greatP ps hs) :
    Calls Try.prog 13 #[.agg #[.slice A ps.length c, .slice B hs.length d]] w fun e w' => e = .returned (.bool true) ∧ Ext w w' := by
  have hgr := fun w' (he : Ext w w') => great_any A c ps B d hs w' (hA.ext he)
  rw [← greatB_yes hg] at hgr
  have Hgr := Lib.hid hgr
  clear hgr hA hg
  generalize ps.length = np at *
  generalize hs.length = nh at *
  have kl : Blk (w.alloc (.cells #[.slice A np c, .slice B nh d] 25)) w.heap.size [.slice A np c, .slice B nh d] := (Blk.new _ _)
  have l0 := kl.at_ 0 rfl
  have l1 := kl.at_ 1 rfl
  have hx0 : Ext w (w.alloc (.cells #[.slice A np c, .slice B nh d] 25)) := ((Ext.refl _).alloc _)
  have Hx0 := Lib.hid hx0
  have hb0 : Ext (w.alloc (.cells #[.slice A np c, .slice B nh d] 25)) (w.alloc (.cells #[.slice A np c, .slice B nh d] 25)) := Ext.refl _
  clear kl hx0
  go_enter Try.func13, Try.ntmps13
  go_wp2_with (first
    | (go_at_call 17; refine (Hgr.out _ (Hx0.out.trans hb1)).mono ?_; rintro e w2 ⟨rfl, hx2⟩; have hb2 := hb1.trans hx2; clear hb1 hx2)
    | (go_at_call 46; refine (alive_any _).mono ?_; rintro e w1 ⟨rfl, hx1⟩; have hb1 := hb0.trans hx1; clear hb0 hx1))
  go_ret
  exact ⟨rfl, Hx0.out.trans hb2⟩
set_option maxRecDepth 100000 in
set_option maxHeartbeats 8000000 in
theorem rev_law_bad (A : Option Addr) (c : Nat) (ps : List (List Sp)) (B : Option Addr) (d : Nat) (hs : List Hg) (w : World) (hA : PnRow w A ps) (hB : HRow w B hs) (hg : ¬ greatP ps hs) (hl : ¬ linkP ps hs) :
    Calls Try.prog 13 #[.agg #[.slice A ps.length c, .slice B hs.length d]] w fun e w' => e = .returned (.bool true) ∧ Ext w w' := by
  have hL := lk_of hA hB hg
  have hgr := fun w' (he : Ext w w') => great_any A c ps B d hs w' (hA.ext he)
  rw [← greatB_no hg] at hgr
  have hck := fun w' (he : Ext w w') => (hL.ext he).check c d
  rw [← checkE_bad hl] at hck
  have Hgr := Lib.hid hgr
  have Hck := Lib.hid hck
  clear hgr hck hL hA hB hg hl
  generalize ps.length = np at *
  generalize hs.length = nh at *
  have kl : Blk (w.alloc (.cells #[.slice A np c, .slice B nh d] 25)) w.heap.size [.slice A np c, .slice B nh d] := (Blk.new _ _)
  have l0 := kl.at_ 0 rfl
  have l1 := kl.at_ 1 rfl
  have hx0 : Ext w (w.alloc (.cells #[.slice A np c, .slice B nh d] 25)) := ((Ext.refl _).alloc _)
  have Hx0 := Lib.hid hx0
  have hb0 : Ext (w.alloc (.cells #[.slice A np c, .slice B nh d] 25)) (w.alloc (.cells #[.slice A np c, .slice B nh d] 25)) := Ext.refl _
  clear kl hx0
  go_enter Try.func13, Try.ntmps13
  go_wp2_with (first
    | (go_at_call 30; refine (Hck.out _ (Hx0.out.trans hb2)).mono ?_; rintro e w3 ⟨rfl, hx3⟩; have hb3 := hb2.trans hx3; clear hb2 hx3)
    | (go_at_call 17; refine (Hgr.out _ (Hx0.out.trans hb1)).mono ?_; rintro e w2 ⟨rfl, hx2⟩; have hb2 := hb1.trans hx2; clear hb1 hx2)
    | (go_at_call 46; refine (alive_any _).mono ?_; rintro e w1 ⟨rfl, hx1⟩; have hb1 := hb0.trans hx1; clear hb0 hx1))
  go_ret
  exact ⟨rfl, Hx0.out.trans hb3⟩
set_option maxRecDepth 100000 in
set_option maxHeartbeats 32000000 in
theorem rev_law_in (A : Option Addr) (c : Nat) (ps : List (List Sp)) (B : Option Addr) (d : Nat) (hs : List Hg) (w : World) (hA : PnRow w A ps) (hB : HRow w B hs) (hg : ¬ greatP ps hs) (hl : linkP ps hs) :
    Calls Try.prog 13 #[.agg #[.slice A ps.length c, .slice B hs.length d]] w fun e w' => e = .returned (.bool true) ∧ Ext w w' := by
  have hL := lk_of hA hB hg
  have hgr := fun w' (he : Ext w w') => great_any A c ps B d hs w' (hA.ext he)
  rw [← greatB_no hg] at hgr
  have hck := fun w' (he : Ext w w') => (hL.ext he).check c d
  rw [← checkE_good hl] at hck
  obtain ⟨pv, hpv⟩ := pan_vals hA
  have hpc := fun k (hk : k < ps.length) => (hpv k hk).1
  have hpo : ∀ k, k < ps.length → ∃ B l c, pv k = .slice B l c := fun k hk => by
    obtain ⟨_, B, c, e, _⟩ := hpv k hk
    exact ⟨B, _, c, e⟩
  have hhc := fun k (hk : k < hs.length) => hB.at_ hk
  have hhb := fun k (hk : k < hs.length) => (show ∃ a : Nat, a < 36 ∧ (hgA hs k).ang = a ∧ revH (hgA hs k) = ⟨(hgA hs k).b, (hgA hs k).a, (oppS a : Nat)⟩ from by
    have hb := hl.hinges _ (List.getElem_mem hk)
    rw [← hgA_at hk] at hb
    exact ⟨(hgA hs k).ang.toNat, by have := hb.2.2; omega, by have := hb.2.2; omega, rfl⟩)
  have hnh1 : hs.length + 1 = ps.length := hl.2.1
  have hnp4 : ps.length ≤ 4 := hl.1.2
  have hlr := linkP_rev hl
  have hc1 := fun w' (he : Ext w w') => (clashes_all A c ps B d hs w' (hL.ext he)).mono (R' := fun e w'' => ∃ X x, e = .returned (.tuple #[.slice X (pairsR ps hs).length x, .int .i64 0]) ∧ QRow w'' X (pairsR ps hs) ∧ Ext w' w'') fun e w'' ⟨v, he, ho⟩ => by
    rw [← checkE_good hl] at he
    obtain ⟨X, x, rfl⟩ := ho.form
    exact ⟨X, x, he, ho.row, ho.ext⟩
  have hc2 := fun (w1 w2 : World) (A1 : Option Addr) (c1 : Nat) (B1 : Option Addr) (d1 : Nat) (h1 : Ext w w1) (ho : Own w1 w2 40 1 (.slice A1 ps.length c1) ps.length (revV pv ps.length ps.length)) (hh : Own w1 w2 85 5 (.slice B1 hs.length d1) hs.length ((revHs hs).map Hg.cells).flatten) (w3 : World) (h3 : Ext w2 w3) => (show Calls Try.prog 39 #[.agg #[.slice A1 ps.length c1, .slice B1 hs.length d1]] w3 fun e w'' => ∃ X x, e = .returned (.tuple #[.slice X (pairsR ps hs).length x, .int .i64 0]) ∧ QRow w'' X (pairsR ps.reverse (revHs hs)) ∧ Ext w3 w'' from by
    have hk := (clashes_all A1 c1 ps.reverse B1 d1 (revHs hs) w3 ((rev_lk hL (fun k hk => (hpv k hk).2) h1 ho hh).ext h3)).mono (R' := fun e w'' => ∃ X x, e = .returned (.tuple #[.slice X (pairsR ps hs).length x, .int .i64 0]) ∧ QRow w'' X (pairsR ps.reverse (revHs hs)) ∧ Ext w3 w'') fun e w'' ⟨v, he, ho⟩ => by
      rw [← checkE_good hlr] at he
      obtain ⟨X, x, rfl⟩ := ho.form
      rw [pairs_rev_len hl] at he
      exact ⟨X, x, he, ho.row, ho.ext⟩
    rw [List.length_reverse, revHs_len] at hk
    exact hk)
  have hpl := pairs_len hl
  have hm1 := fun k (hk : k < (pairsR ps hs).length) => pairsR_at hl hk
  have hm2 := fun k (hk : k < (pairsR ps hs).length) => (show _ from by
    have h := pairsR_at hlr (k := k) (by rw [pairs_rev_len hl]; exact hk)
    rw [List.length_reverse] at h
    exact h)
  have hmf := fun k (hk : k < (pairsR ps hs).length) => (show pAt (pairsR ps hs) k ∈ ((pairsR ps.reverse (revHs hs)).take (pairsR ps hs).length).map (flipP ps.length) from by
    have e : pAt (pairsR ps hs) k = (pairsR ps hs)[k] := pAt_eq hk
    have h := mem_flip hl (show pAt (pairsR ps hs) k ∈ pairsR ps hs by rw [e]; exact List.getElem_mem hk)
    rw [List.take_of_length_le (by rw [pairs_rev_len hl]; omega)]
    exact h)
  have htk := fun k (hk : k < (pairsR ps hs).length) => (show ((pairsR ps.reverse (revHs hs)).take (k + 1)).map (flipP ps.length) = ((pairsR ps.reverse (revHs hs)).take k).map (flipP ps.length) ++ [flipP ps.length (pAt (pairsR ps.reverse (revHs hs)) k)] from by
    rw [List.take_succ_eq_append_getElem (by rw [pairs_rev_len hl]; exact hk), List.map_append, pAt_eq (by rw [pairs_rev_len hl]; exact hk)]
    rfl)
  have hq1 := fun (X : Option Addr) (w' : World) (h : QRow w' X (pairsR ps hs)) k (hk : k < (pairsR ps hs).length) => h.at_ hk
  have hq2 := fun (X : Option Addr) (w' : World) (h : QRow w' X (pairsR ps.reverse (revHs hs))) k (hk : k < (pairsR ps hs).length) => h.at_ (k := k) (by rw [pairs_rev_len hl]; exact hk)
  have hrt := fun k (hk : k < hs.length) => (show (((revHs hs).take (k + 1)).map Hg.cells).flatten = (((revHs hs).take k).map Hg.cells).flatten ++ (revH (hgA hs (hs.length - 1 - k))).cells from by
    rw [revHs_take hk]
    simp)
  have hrt0 : (((revHs hs).take 0).map Hg.cells).flatten = [] := rfl
  have hrte : (((revHs hs).take hs.length).map Hg.cells).flatten = ((revHs hs).map Hg.cells).flatten := by rw [List.take_of_length_le (by rw [revHs_len]; omega)]
  have hvt := fun k => revV_succ pv ps.length k
  have Hgr := Lib.hid hgr
  have Hck := Lib.hid hck
  have Hpc := Lib.hid hpc
  have Hpo := Lib.hid hpo
  have Hhc := Lib.hid hhc
  have Hhb := Lib.hid hhb
  have Hc1 := Lib.hid hc1
  have Hc2 := Lib.hid hc2
  have Hm1 := Lib.hid hm1
  have Hm2 := Lib.hid hm2
  have Hmf := Lib.hid hmf
  have Htk := Lib.hid htk
  have Hq1 := Lib.hid hq1
  have Hq2 := Lib.hid hq2
  have Hrt := Lib.hid hrt
  have Hrte := Lib.hid hrte
  have Hvt := Lib.hid hvt
  have Hnp := Lib.hid hnh1
  clear hgr hck hpc hpo hhc hhb hc1 hc2 hm1 hm2 hmf htk hq1 hq2 hrt hrt0 hrte hvt hlr hpv hL hA hB hg hl
  generalize pairsR ps hs = PR at *
  generalize pairsR ps.reverse (revHs hs) = QR at *
  generalize PR.length = pn at *
  generalize ps.length = np at *
  generalize revHs hs = RH at *
  generalize hs.length = nh at *
  have kl : Blk (w.alloc (.cells #[.slice A np c, .slice B nh d] 25)) w.heap.size [.slice A np c, .slice B nh d] := (Blk.new _ _)
  have l0 := kl.at_ 0 rfl
  have l1 := kl.at_ 1 rfl
  have hx0 : Ext w (w.alloc (.cells #[.slice A np c, .slice B nh d] 25)) := ((Ext.refl _).alloc _)
  have Hx0 := Lib.hid hx0
  have hb0 : Ext (w.alloc (.cells #[.slice A np c, .slice B nh d] 25)) (w.alloc (.cells #[.slice A np c, .slice B nh d] 25)) := Ext.refl _
  have hmm := @run_makeMap Try.prog
  clear kl hx0 hnh1
  go_enter Try.func13, Try.ntmps13
  go_wp2_with (first
    | (go_at_call 30; refine (Hck.out _ (Hx0.out.trans hb2)).mono ?_; rintro e w3 ⟨rfl, hx3⟩; have hb3 := hb2.trans hx3; clear hb2 hx3)
    | (go_at_call 17; refine (Hgr.out _ (Hx0.out.trans hb1)).mono ?_; rintro e w2 ⟨rfl, hx2⟩; have hb2 := hb1.trans hx2; clear hb1 hx2)
    | (go_at_call 46; refine (alive_any _).mono ?_; rintro e w1 ⟨rfl, hx1⟩; have hb1 := hb0.trans hx1; clear hb0 hx1))
  have hM0 := OppM.start (Ext.refl w3) rfl
  obtain ⟨mb, hmb⟩ : ∃ mb, mb = w3.heap.size := ⟨_, rfl⟩
  rw [← hmb] at hM0 ⊢
  have hmbl : w3.heap.size ≤ mb := by omega
  have Hmbl := Lib.hid hmbl
  have Hb3 := Lib.hid hb3
  have L0 := Lib.hid l0
  have L1 := Lib.hid l1
  generalize w3.alloc (.map #[] 0) = W4 at *
  clear hmb hmbl hb3 l0 l1 Hgr Hck hmm
  go_loopw [39] (fun i wr => ∃ n : Nat, n ≤ 36 ∧ i = .int .i64 n ∧ OppM w3 wr mb n) (fun i _ => 36 - (intOf i).toNat)
  case atStart => exact ⟨0, by omega, rfl, hM0⟩
  case round =>
    clear hM0
    obtain ⟨n, hn, rfl, hM⟩ := hrel
    obtain ⟨wo, rfl⟩ : ∃ wo : World, wo = wr := ⟨_, rfl⟩
    by_cases hlt : n < 36
    · have hni : (n : Int) < 36 := by omega
      have HM := Lib.hid hM
      clear hM
      go_wp2
      go_loopw [42] (fun i wr => ∃ m : Nat, m ≤ 36 ∧ i = .int .i64 m ∧ OppN w3 wr mb n m) (fun i _ => 36 - (intOf i).toNat)
      case atStart => exact ⟨0, by omega, rfl, HM.out.in_⟩
      case round =>
        clear HM
        obtain ⟨m, hm, rfl, hN⟩ := hrel
        by_cases hml : m < 36
        · have hmi : (m : Int) < 36 := by omega
          have ho := (oppS_ok n hlt).2
          have hti := fun h => trn_inj m hml (oppS n) (oppS_ok n hlt).1 h
          have hb := turns_ok n hlt
          have ha1 := fun w' => angle_any (n : Int) w'
          have ha2 := fun w' => angle_any (m : Int) w'
          unfold angV at ha1 ha2
          rw [(ang_nat hlt).1, (ang_nat hlt).2] at ha1
          rw [(ang_nat hml).1, (ang_nat hml).2] at ha2
          have Ha1 := Lib.hid ha1
          have Ha2 := Lib.hid ha2
          have Ho := Lib.hid ho
          have Hti := Lib.hid hti
          have HN := Lib.hid hN
          have b0 := Ext.refl wr
          clear ha1 ha2 ho hti hN
          rw [Ho.out] at Hti
          obtain ⟨u, v, r2, et⟩ : ∃ u v r2, trn m = (u, v, r2) := ⟨_, _, _, rfl⟩
          obtain ⟨p, q, r, es⟩ : ∃ p q r, trn n = (p, q, r) := ⟨_, _, _, rfl⟩
          rw [et] at Ha2 Hti
          rw [es] at Ha1 Hti hb
          simp only at Ha1 Ha2 Hti hb
          have hqq := abs_le_of_sq (by omega : (0 : Int) < r) hb.2.2
          have hqw : IntKind.i64.wrap (-q) = -q := by rw [IntKind.wrap_i64]; omega
          have hqw2 : IntKind.i64.wrap (0 - q) = -q := by rw [IntKind.wrap_i64]; omega
          have Het := Lib.hid et
          have Hes := Lib.hid es
          clear et es hb hqq
          by_cases c1 : u = p
          · subst c1
            by_cases c2 : v = -q
            · subst c2
              by_cases c3 : r2 = r
              · subst c3
                have he : m = oppS n := trn_inj m hml (oppS n) (oppS_ok n hlt).1 (by rw [Het.out, Ho.out, Hes.out])
                have He := Lib.hid he
                clear he Hti Ho Het Hes
                go_wp2_with (first
                  | (at_mapUpdate; refine OppN.store rfl _ _ _ rfl rfl (HN.out.later b2) Hmbl.out hlt hml He.out rfl rfl ?_; intro w7 hN7)
                  | (go_at_call 23; have hq := b1; clear hq; refine (Ha2.out _).mono ?_; rintro e w6 ⟨rfl, hx⟩; have b2 := b1.trans hx; clear b1 hx)
                  | (go_at_call 23; have hq := b0; clear hq; refine (Ha1.out _).mono ?_; rintro e w5 ⟨rfl, hx⟩; have b1 := b0.trans hx; clear b0 hx))
                go_roundw
                case rel => exact ⟨m + 1, by omega, by go_num, hN7⟩
                case measure => simp [intOf]; omega
              · have hne : (r2 == r) = false := by simpa using c3
                have he : m ≠ oppS n := fun e => by
                  have h1 := Het.out
                  rw [e, Ho.out, Hes.out] at h1
                  simp only [Prod.mk.injEq] at h1
                  exact c3 h1.2.2.symm
                have He := Lib.hid he
                clear he Hti Ho Het Hes c3
                go_wp2_with (first
                  | (go_at_call 23; have hq := b1; clear hq; refine (Ha2.out _).mono ?_; rintro e w6 ⟨rfl, hx⟩; have b2 := b1.trans hx; clear b1 hx)
                  | (go_at_call 23; have hq := b0; clear hq; refine (Ha1.out _).mono ?_; rintro e w5 ⟨rfl, hx⟩; have b1 := b0.trans hx; clear b0 hx))
                go_roundw
                case rel => exact ⟨m + 1, by omega, by go_num, (HN.out.later b2).same He.out⟩
                case measure => simp [intOf]; omega
            · have hne : (v == -q) = false := by simpa using c2
              have he : m ≠ oppS n := fun e => by
                have h1 := Het.out
                rw [e, Ho.out, Hes.out] at h1
                simp only [Prod.mk.injEq] at h1
                exact c2 h1.2.1.symm
              have He := Lib.hid he
              clear he Hti Ho Het Hes c2
              go_wp2_with (first
                | (go_at_call 23; have hq := b1; clear hq; refine (Ha2.out _).mono ?_; rintro e w6 ⟨rfl, hx⟩; have b2 := b1.trans hx; clear b1 hx)
                | (go_at_call 23; have hq := b0; clear hq; refine (Ha1.out _).mono ?_; rintro e w5 ⟨rfl, hx⟩; have b1 := b0.trans hx; clear b0 hx))
              go_roundw
              case rel => exact ⟨m + 1, by omega, by go_num, (HN.out.later b2).same He.out⟩
              case measure => simp [intOf]; omega
          · have hne : (u == p) = false := by simpa using c1
            have he : m ≠ oppS n := fun e => by
              have h1 := Het.out
              rw [e, Ho.out, Hes.out] at h1
              simp only [Prod.mk.injEq] at h1
              exact c1 h1.1.symm
            have He := Lib.hid he
            clear he Hti Ho Het Hes c1
            go_wp2_with (first
              | (go_at_call 23; have hq := b1; clear hq; refine (Ha2.out _).mono ?_; rintro e w6 ⟨rfl, hx⟩; have b2 := b1.trans hx; clear b1 hx)
              | (go_at_call 23; have hq := b0; clear hq; refine (Ha1.out _).mono ?_; rintro e w5 ⟨rfl, hx⟩; have b1 := b0.trans hx; clear b0 hx))
            go_roundw
            case rel => exact ⟨m + 1, by omega, by go_num, (HN.out.later b2).same He.out⟩
            case measure => simp [intOf]; omega
        · obtain rfl : m = 36 := by omega
          have HR := Lib.hid (hN.out hlt)
          clear hN
          go_wp2
          go_roundw
          case rel => exact ⟨n + 1, by omega, by go_num, HR.out⟩
          case measure => simp [intOf]; omega
    · have hni : ¬ (n : Int) < 36 := by omega
      rw [show n = 36 by omega] at hM
      have HM := Lib.hid (fun w' (he : Ext wo w') => hM.later he)
      have Hxo := Lib.hid (Hb3.out.trans hM.ext)
      have l0 : ∀ w', Ext wo w' → _ := fun w' he => L0.out w' (Hxo.out.trans he)
      have l1 : ∀ w', Ext wo w' → _ := fun w' he => L1.out w' (Hxo.out.trans he)
      have kz : Whole (wo.alloc (.cells #[.slice none 0 0, .slice none 0 0] 25)) wo.heap.size #[.slice none 0 0, .slice none 0 0] 25 := Whole.new rfl
      have hP0 : Own wo (wo.alloc (.cells #[.slice none 0 0, .slice none 0 0] 25)) 40 1 (.slice none 0 0) 0 (revV pv np 0) := Own.nil' ((Ext.refl _).alloc _) _ _
      clear hM hlt hn
      go_wp2
      obtain ⟨g3, hg3⟩ : ∃ g3, g3 = wo.heap.size := ⟨_, rfl⟩
      have hge : wo.heap.size ≤ g3 := by omega
      rw [← hg3] at kz ⊢
      have Hge := Lib.hid hge
      have L0 := Lib.hid l0
      have L1 := Lib.hid l1
      clear hg3 hge l0 l1 hni
      generalize (wo.alloc (.cells #[.slice none 0 0, .slice none 0 0] 25)) = W5 at *
      go_loopw [88] (fun i wr => ∃ (k : Nat) (v : Value), k ≤ np ∧ i = .int .i64 k ∧ Whole wr g3 #[v, .slice none 0 0] 25 ∧ Own wo wr 40 1 v k (revV pv np k)) (fun i _ => np - (intOf i).toNat)
      case atStart => exact ⟨0, _, by omega, rfl, kz, hP0⟩
      case round =>
        clear kz hP0
        obtain ⟨k, v, hk, rfl, hS, hP⟩ := hrel
        obtain ⟨Av, cv, rfl⟩ := hP.form
        have hex := hP.ext
        have l0 : ∀ w', Ext wr w' → _ := fun w' he => L0.out w' (hex.trans he)
        have l1 : ∀ w', Ext wr w' → _ := fun w' he => L1.out w' (hex.trans he)
        by_cases hlt : k < np
        · obtain ⟨q, hq⟩ : ∃ q, q = np - 1 - k := ⟨_, rfl⟩
          obtain ⟨ad, rfl, x0⟩ := Hpc.out q (by omega)
          obtain ⟨Bq, lq, cq, hpq⟩ := Hpo.out q (by omega)
          have hvt := Hvt.out k
          rw [← hq, hpq] at hvt
          rw [hpq] at x0
          have Hvt' := Lib.hid hvt
          have u0 : ∀ w', Ext wr w' → w'.cell? (ad.add q) = some (.slice Bq lq cq) := fun w' he => x0 w' ((Hx0.out.trans (Hxo.out.trans hex)).trans he)
          have s0 : ∀ w', Ext wr w' → w'.cell? ⟨g3, 0, none⟩ = some (.slice Av k cv) := fun w' he => he.cell (hS.cell 0 rfl)
          have hs1 : IntKind.i64.wrap ((np : Int) - 1) = (np : Int) - 1 := by rw [IntKind.wrap_i64]; omega
          have hs2 : IntKind.i64.wrap ((np : Int) - 1 - (k : Int)) = (q : Int) := by rw [IntKind.wrap_i64]; omega
          have hs3 : (np : Int) - 1 - (k : Int) = (q : Int) := by omega
          have hqn : (q : Int) < (np : Int) := by omega
          have hkn : (k : Int) < (np : Int) := by omega
          have HH := Lib.hid (And.intro hS hP)
          have Hex := Lib.hid hex
          clear hpq x0 hvt hq hS hP hex
          go_wp2
          refine Cg.wp_region_calm (p := Cg.extPre) (fr := (fun _ => false)) 11 (fun _ _ _ _ => True) (fun _ _ _ _ _ _ h => h) (by kernel_rfl) (by kernel_rfl) ?_
          simp only [List.take_succ_cons, List.take_zero, List.drop_succ_cons, List.drop_zero]
          refine Cg.calm_quiet Cg.calm_mono_final wr (fun _ h => h) 10 (by kernel_rfl) ?_
          simp only [List.take_succ_cons, List.take_zero, List.drop_succ_cons, List.drop_zero]
          repeat (go_big_quiet_step (fail))
          refine wpQuiet_nil ?_
          refine Cg.calm_value Cg.calm_mono_final (fun v w => ∃ b, v = .slice (some ⟨b, 0, none⟩) 1 1 ∧ w.heap[b]? = some (.cells #[.slice Bq lq cq] 40)) (fun _ w' w'' hR ⟨b, e, hh⟩ => ⟨b, e, (show Ext w' w'' from hR).heap hh⟩) rfl (fun w' hR _ => ⟨.slice (some ⟨w'.heap.size, 0, none⟩) 1 1, w'.alloc (.cells #[.slice Bq lq cq] 40), by go_simp, (Ext.refl _).alloc _, ⟨_, rfl, heap_alloc_new _ _⟩, fun hf => by cases hf⟩) ?_
          rintro v5 _ _ ⟨b5, rfl, _⟩ _
          simp only [Act.put, List.setIfInBounds_toArray, List.set_cons_succ, List.set_cons_zero]
          refine Cg.calm_nil fun w6 he6 hF => ?_
          have he6 : Ext wr w6 := he6
          obtain ⟨_, e5, hh5⟩ := (hF.1 10).2 rfl
          simp only [Value.slice.injEq, Option.some.injEq, Addr.mk.injEq, and_true] at e5
          subst e5
          clear hF
          obtain ⟨hS, hP⟩ := HH.out
          have hrow5 : Row w6 (some ⟨b5, 0, none⟩) [.slice Bq lq cq] := row_heap hh5
          have hone : ∀ u ∈ [Value.slice Bq lq cq], u.oneCell' = true := by
            intro u hu
            simp at hu
            subst hu
            rfl
          have H6 := Lib.hid (And.intro (hS.ext he6) (hP.later he6))
          clear hS hP HH hh5 l0 l1 u0 s0 hs1 hs2 hs3
          go_wp2_with (refine own_append_src (w1 := wo) panel_elem rfl _ _ 22 rfl Try.underlying22 _ k _ rfl H6.out.2 _ 1 1 _ rfl rfl hrow5 hone (by omega) (by unfold maxLen; omega) ?_; intro v' w' ho hg; obtain ⟨A6, c6, rfl⟩ := ho.form; have hg : w6.grownBy w' (Value.slice Av k cv).ownBlock := hg; obtain ⟨hS3, hP3⟩ := H6.out; have hS4 := hS3.grown hg (fun e => hP3.ne_whole hS3 (by decide) e.symm); have t0 := hS4.cell 0 rfl; have tf := hS4.free 0; clear hS3 hP3)
          have hge := Hge.out
          have hS5 := hS4.setCell 0 (.slice A6 (k + 1) c6)
          have hP5 := ho.other (p := ⟨g3, 0, none⟩) hge (ho.ne_whole hS4 (by decide)) (.slice A6 (k + 1) c6)
          rw [← Hvt'.out] at hP5
          go_roundw
          case rel => exact ⟨k + 1, (.slice A6 (k + 1) c6), by omega, by go_num, hS5, hP5⟩
          case measure => simp [intOf]; omega
        · obtain rfl : np = k := by omega
          have s0 : ∀ w', Ext wr w' → w'.cell? ⟨g3, 0, none⟩ = some (.slice Av np cv) := fun w' he => he.cell (hS.cell 0 rfl)
          have hs1 : IntKind.i64.wrap ((np : Int) - 1) = (nh : Int) := by have := Hnp.out; rw [IntKind.wrap_i64]; omega
          have hs2 : (np : Int) - 1 = (nh : Int) := by have := Hnp.out; omega
          have hH0 : Own wo wr 85 5 (.slice none 0 0) 0 ((RH.take 0).map Hg.cells).flatten := by
            rw [List.take_zero]
            exact Own.nil' hex _ _
          have HP := Lib.hid hP
          have HS := Lib.hid hS
          have Hex := Lib.hid hex
          clear hP hS hex Hpc Hpo Hvt
          go_wp2
          have hP := HP.out
          have hS := HS.out
          clear HP HS l0 l1 s0 hs1 hs2
          go_loopw [107] (fun i wr => ∃ (k : Nat) (v : Value), k ≤ nh ∧ i = .int .i64 k ∧ Whole wr g3 #[.slice Av np cv, v] 25 ∧ Own wo wr 40 1 (.slice Av np cv) np (revV pv np np) ∧ Own wo wr 85 5 v k ((RH.take k).map Hg.cells).flatten) (fun i _ => nh - (intOf i).toNat)
          case atStart => exact ⟨0, _, by omega, rfl, hS, hP, hH0⟩
          case round =>
            clear hS hP hH0 Hex
            obtain ⟨k, v, hk, rfl, hS, hP, hH⟩ := hrel
            obtain ⟨Bv, dv, rfl⟩ := hH.form
            have hex := hP.ext
            have l0 : ∀ w', Ext wr w' → _ := fun w' he => L0.out w' (hex.trans he)
            have l1 : ∀ w', Ext wr w' → _ := fun w' he => L1.out w' (hex.trans he)
            have s0 : ∀ w', Ext wr w' → w'.cell? ⟨g3, 0, none⟩ = some (.slice Av np cv) := fun w' he => he.cell (hS.cell 0 rfl)
            have s1 : ∀ w', Ext wr w' → w'.cell? ⟨g3, 1, none⟩ = some (.slice Bv k dv) := fun w' he => he.cell (hS.cell 1 rfl)
            by_cases hlt : k < nh
            · obtain ⟨q, hq⟩ : ∃ q, q = nh - 1 - k := ⟨_, rfl⟩
              obtain ⟨bd, rfl, y0, y1, y2, y3, y4⟩ := Hhc.out q (by omega)
              obtain ⟨a, ha, hang, hrv⟩ := Hhb.out q (by omega)
              have hrt := Hrt.out k hlt
              rw [← hq, hrv] at hrt
              rw [hang] at y4
              generalize hgA hs q = h at *
              obtain ⟨⟨ax, ay⟩, ⟨bx, bw⟩, an⟩ := h
              simp only [Hg.cells] at y0 y1 y2 y3 hrt
              have Hrt' := Lib.hid hrt
              have hww := Hx0.out.trans (Hxo.out.trans hex)
              have u0 : ∀ w', Ext wr w' → _ := fun w' he => y0 w' (hww.trans he)
              have u1 : ∀ w', Ext wr w' → _ := fun w' he => y1 w' (hww.trans he)
              have u2 : ∀ w', Ext wr w' → _ := fun w' he => y2 w' (hww.trans he)
              have u3 : ∀ w', Ext wr w' → _ := fun w' he => y3 w' (hww.trans he)
              have u4 : ∀ w', Ext wr w' → _ := fun w' he => y4 w' (hww.trans he)
              have hs3 : (np : Int) - 2 - (k : Int) = (q : Int) := by have := Hnp.out; omega
              have hs1 : IntKind.i64.wrap ((np : Int) - 2) = (np : Int) - 2 := by rw [IntKind.wrap_i64]; omega
              have hs2 : IntKind.i64.wrap ((np : Int) - 2 - (k : Int)) = (q : Int) := by rw [IntKind.wrap_i64]; omega
              have hqn : (q : Int) < (nh : Int) := by omega
              have hkn : (k : Int) < (nh : Int) := by omega
              have hone : ∀ u ∈ [vint bx, vint bw, vint ax, vint ay, vint (oppS a : Nat)], u.oneCell' = true := by
                intro u hu
                simp at hu
                rcases hu with rfl | rfl | rfl | rfl | rfl <;> rfl
              have HH := Lib.hid (And.intro hS (And.intro hP hH))
              have Hex := Lib.hid hex
              clear y0 y1 y2 y3 y4 hrt hrv hang hq hww hS hP hH hex Hhc Hhb Hrt
              go_wp2_with (first
                | (at_lookup; refine OppM.look rfl _ _ rfl rfl (HM.out _ (Hex.out.trans (by simp (maxDischargeDepth := 8)))) a ha rfl ?_)
                | (at_builtin; go_loud (refine own_append_src (w1 := wo) hinge_elem rfl _ _ 23 rfl Try.underlying23 _ k _ rfl ((HH.out.2.2.alloc _).alloc _) _ 1 1 [vint bx, vint bw, vint ax, vint ay, vint (oppS a : Nat)] rfl rfl (row_heap (Whole.new (by simp)).h) hone (by omega) (by unfold maxLen; omega) ?_); intro v' w' ho hg; obtain ⟨A6, c6, rfl⟩ := ho.form; have HG : Hid (World.grownBy _ w' (Value.slice Bv k dv).ownBlock) := Lib.hid hg; obtain ⟨hS3, hP3, hH3⟩ := HH.out; have hS4 := ((hS3.ext ((Ext.refl wr).alloc _)).ext ((Ext.refl _).alloc _)).grown HG.out (fun e => hH3.ne_whole hS3 (by decide) e.symm); have t0 := hS4.cell 1 rfl; have tf := hS4.free 1; clear hS3 hP3 hH3 hg)
                | go_in)
              obtain ⟨hS3, hP3, hH3⟩ := HH.out
              have hge := Hge.out
              have hP4 := ((hP3.alloc _).alloc _).grown HG.out ho.ext (fun g e1 e2 => hP3.ne_own hH3 (by decide) e2.symm e1)
              have hS5 := hS4.setCell 1 (.slice A6 (k + 1) c6)
              have hP5 := hP4.other (p := ⟨g3, 1, none⟩) hge (hP4.ne_whole hS4 (by decide)) (.slice A6 (k + 1) c6)
              have hH5 := ho.other (p := ⟨g3, 1, none⟩) hge (ho.ne_whole hS4 (by decide)) (.slice A6 (k + 1) c6)
              rw [← Hrt'.out] at hH5
              have HR := Lib.hid (And.intro hS5 (And.intro hP5 hH5))
              clear hS3 hP3 hH3 hP4 hS5 hP5 hH5 ho hS4
              go_roundw
              case rel => exact ⟨k + 1, (.slice A6 (k + 1) c6), by omega, by go_num, HR.out.1, HR.out.2.1, HR.out.2.2⟩
              case measure => simp [intOf]; omega
            · obtain rfl : nh = k := by omega
              rw [Hrte.out] at hH
              obtain ⟨w4, rfl⟩ : ∃ w4 : World, w4 = wr := ⟨_, rfl⟩
              have hmm := @run_makeMap Try.prog
              have hcl1 := Hc1.out w4 (Hx0.out.trans (Hxo.out.trans hex))
              have hcl2 := Hc2.out wo w4 Av cv Bv dv (Hx0.out.trans Hxo.out) hP hH
              have Hcl1 := Lib.hid hcl1
              have Hcl2 := Lib.hid hcl2
              have Hex := Lib.hid hex
              have b9 := Ext.refl w4
              clear hcl1 hcl2 hS hP hH hex Hc1 Hc2 Hhc Hhb Hrt
              go_wp2_with (first
                | (go_at_call 39; have hq := b10; clear hq; refine (Hcl2.out _ b10).mono ?_; rintro e w11 ⟨X2, x2, rfl, hQ2, hx⟩; have HQ2 := Lib.hid hQ2; have HQ1 := Lib.hid (hQ1.ext hx); have b11 := b10.trans hx; clear b10 hx hQ1 hQ2)
                | (go_at_call 39; have hq := b9; clear hq; refine (Hcl1.out).mono ?_; rintro e w10 ⟨X1, x1, rfl, hQ1, hx⟩; have b10 := b9.trans hx; clear b9 hx))
              have hM0 := SetM.start (Ext.refl w11) rfl
              obtain ⟨m2, hm2⟩ : ∃ m, m = w11.heap.size := ⟨_, rfl⟩
              rw [← hm2] at hM0 ⊢
              have Hm2l := Lib.hid (show w11.heap.size ≤ m2 by omega)
              have hM0' : SetM w11 (w11.alloc (.map #[] 0)) m2 0 ((QR.take 0).map (flipP np)) := by rw [List.take_zero]; exact hM0
              have Hb11 := Lib.hid (Hx0.out.trans (Hxo.out.trans (Hex.out.trans b11)))
              clear hm2 hM0 Hcl1 Hcl2 hmm l0 l1 s0 s1 b11
              generalize w11.alloc (.map #[] 0) = W12 at *
              go_loopw [159] (fun i wr2 => ∃ k : Nat, k ≤ pn ∧ i = .int .i64 k ∧ SetM w11 wr2 m2 k ((QR.take k).map (flipP np))) (fun i _ => pn - (intOf i).toNat)
              case atStart => exact ⟨0, by omega, rfl, hM0'⟩
              case round =>
                clear hM0'
                obtain ⟨k, hk, rfl, hM⟩ := hrel
                by_cases hlt : k < pn
                · obtain ⟨ad, rfl, x0, x1⟩ := Hq2.out _ _ HQ2.out k hlt
                  have hex2 := hM.ext
                  have u0 : ∀ w', Ext wr w' → _ := fun w' he => x0 w' (hex2.trans he)
                  have u1 : ∀ w', Ext wr w' → _ := fun w' he => x1 w' (hex2.trans he)
                  obtain ⟨hb1, hb2, hb3, hb4⟩ := Hm2.out k hlt
                  have Htk' := Lib.hid (Htk.out k hlt)
                  have HM2 := Lib.hid hM
                  clear x0 x1 hM hex2 Hm1 Hm2 Hmf Htk HQ1 HQ2 Hq1 Hq2
                  generalize pAt QR k = p at *
                  obtain ⟨a, b⟩ := p
                  simp only at u0 u1 hb1 hb2 hb3 hb4
                  have hs1 : IntKind.i64.wrap ((np : Int) - 1) = (np : Int) - 1 := by rw [IntKind.wrap_i64]; omega
                  have hs2 : IntKind.i64.wrap ((np : Int) - 1 - a) = (np : Int) - 1 - a := by rw [IntKind.wrap_i64]; omega
                  have hs3 : IntKind.i64.wrap ((np : Int) - 1 - b) = (np : Int) - 1 - b := by rw [IntKind.wrap_i64]; omega
                  have hkn : (k : Int) < (pn : Int) := by omega
                  go_wp2_with (first
                    | (at_mapUpdate; refine SetM.store rfl _ _ _ rfl rfl (HM2.out.later (by simp (maxDischargeDepth := 8))) Hm2l.out (by omega) (flipP np (a, b)) (by simp only [flipP]; omega) (by simp only [flipP]; omega) rfl rfl ?_; intro w7 hS7; rw [← Htk'.out] at hS7)
                    | go_in)
                  go_roundw
                  case rel => exact ⟨k + 1, by omega, by go_num, hS7⟩
                  case measure => simp [intOf]; omega
                · obtain rfl : pn = k := by omega
                  obtain ⟨w5, rfl⟩ : ∃ w5 : World, w5 = wr := ⟨_, rfl⟩
                  have hex5 := hM.ext
                  have Hex5 := Lib.hid hex5
                  have HM5 := Lib.hid hM
                  clear hM hex5 Hq2 HQ2 Htk Hm2
                  go_wp2
                  go_loopw [178] (fun i wr2 => ∃ k : Nat, k ≤ pn ∧ i = .int .i64 k ∧ Ext w5 wr2) (fun i _ => pn - (intOf i).toNat)
                  case atStart => exact ⟨0, by omega, rfl, Ext.refl _⟩
                  case round =>
                    obtain ⟨k, hk, rfl, hx5⟩ := hrel
                    by_cases hlt : k < pn
                    · obtain ⟨ad, rfl, x0, x1⟩ := Hq1.out _ _ HQ1.out k hlt
                      have u0 : ∀ w', Ext wr w' → _ := fun w' he => x0 w' ((Hex5.out.trans hx5).trans he)
                      have u1 : ∀ w', Ext wr w' → _ := fun w' he => x1 w' ((Hex5.out.trans hx5).trans he)
                      obtain ⟨hb1, hb2, hb3, hb4⟩ := Hm1.out k hlt
                      have Hmf' := Lib.hid (Hmf.out k hlt)
                      clear x0 x1 Hm1 Hmf Hq1 HQ1
                      generalize pAt PR k = p at *
                      obtain ⟨a, b⟩ := p
                      simp only at u0 u1 hb1 hb2 hb3 hb4
                      have hkn : (k : Int) < (pn : Int) := by omega
                      go_wp2_with (first
                        | (at_lookup; refine SetM.look rfl _ _ rfl rfl (HM5.out.later (hx5.trans (by simp (maxDischargeDepth := 8)))) (a, b) (by simp only; omega) (by simp only; omega) Hmf'.out rfl ?_)
                        | go_in)
                      go_roundw
                      case rel => exact ⟨k + 1, by omega, by go_num, hx5.trans (by simp (maxDischargeDepth := 8))⟩
                      case measure => simp [intOf]; omega
                    · obtain rfl : pn = k := by omega
                      go_wp2
                      go_ret
                      exact ⟨rfl, Hb11.out.trans (Hex5.out.trans hx5)⟩
theorem rev_law (A : Option Addr) (c : Nat) (ps : List (List Sp)) (B : Option Addr) (d : Nat) (hs : List Hg) (w : World) (hA : PnRow w A ps) (hB : HRow w B hs) :
    Calls Try.prog 13 #[.agg #[.slice A ps.length c, .slice B hs.length d]] w fun e w' => e = .returned (.bool true) ∧ Ext w w' := by
  by_cases hg : greatP ps hs
  · exact rev_law_out A c ps B d hs w hA hg
  · by_cases hl : linkP ps hs
    · exact rev_law_in A c ps B d hs w hA hB hg hl
    · exact rev_law_bad A c ps B d hs w hA hB hg hl
end Go.Proofs.Yteilglljigjefaa
