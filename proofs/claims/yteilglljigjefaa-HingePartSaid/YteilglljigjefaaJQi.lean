/- The law HingePart. -/
import Derived.Test.YteilglljigjefaaJ31
import Derived.Test.YteilglljigjefaaJQh
namespace Go.Proofs.Yteilglljigjefaa
open Go.RowKit
theorem clash_num (A : Option Addr) (c : Nat) (ps : List (List Sp)) (B : Option Addr) (d : Nat) (hs : List Hg) (i k : Int) (w : World) (hL : Lk w A ps B hs) :
    Calls Try.prog 42 #[.agg #[.slice A ps.length c, .slice B hs.length d], .int .i64 i, .int .i64 k] w fun e w'' => ∃ rc rA rB rC rE rI rn ric, e = .returned (.tuple #[.agg #[.bool rc, vint rA, vint rB, vint rC, vint rE, .slice rI rn ric], .int .i64 (clashE ps hs i k)]) ∧ Ext w w'' := by
  rcases two_cases ps hs i k with ⟨h1, ⟨a, b, rfl, rfl, ha, hb, hne⟩, h2⟩ | ⟨h2, h3⟩
  · rw [clashE_nat h2]
    exact (clash_good A c ps B d hs a b w hL h1 ha hb hne).mono fun e w'' ⟨r, I, ic, he, _, hx, _⟩ => ⟨r.clear, r.A, r.B, r.C, r.E, I, r.ins.length, ic, he, hx⟩
  · rw [clashE, if_neg (by omega)]
    exact (clash_bad A c ps B d hs i k w hL h2 h3).mono fun e w'' ⟨he, hx⟩ => ⟨_, _, _, _, _, _, _, _, he, hx⟩
/-- What the errors of the whole and of the part are. -/
theorem part_nums {ps : List (List Sp)} {hs : List Hg} {i cn : Nat} (k : Int) (hi : i < ps.length) (hc : cn < (pnA ps i).length) :
    (clashE ps hs i k = 0 ∧ clashE (lessL ps i cn) hs i k = 0) ∨ (clashE ps hs i k = 0 ∧ clashE (lessL ps i cn) hs i k = 50 ∧ (pnA ps i).length - 1 < 3) ∨
    ((clashE ps hs i k == 0) = false ∧ (clashE (lessL ps i cn) hs i k != 51) = true) ∨ (clashE ps hs i k = 51 ∧ clashE (lessL ps i cn) hs i k = 51) ∨ (clashE ps hs i k = 50 ∧ clashE (lessL ps i cn) hs i k = 51) := by
  have hlen : (lessL ps i cn).length = ps.length := by simp [lessL]
  rcases two_cases ps hs i k with ⟨h1, ⟨a, b, ea, rfl, ha, hb, hne⟩, h2⟩ | ⟨h2, h3⟩
  · obtain rfl : a = i := by omega
    rw [clashE_nat h2]
    by_cases hcl : clashB (pcrn ps hs a) (pcrn ps hs b) = true
    · rw [if_pos hcl]
      by_cases h5 : clashE (lessL ps a cn) hs a b = 51
      · exact .inr (.inr (.inr (.inl ⟨rfl, h5⟩)))
      · exact .inr (.inr (.inl ⟨rfl, by simpa using h5⟩))
    · rw [if_neg hcl]
      by_cases h4 : 4 ≤ (pnA ps a).length
      · have hl := linkP_less h1 hi hc h4
        have ht : twoE (lessL ps a cn) hs a b = 0 := two_good hl ⟨⟨by omega, by omega⟩, ⟨by omega, by omega⟩, by omega⟩
        have h6 := clash_less h1 ha hb hne hc h4 (by simpa using hcl)
        rw [clashE_nat ht, h6]
        exact .inl ⟨rfl, rfl⟩
      · have hl := linkP_less_not (hs := hs) hi hc (by omega)
        refine .inr (.inl ⟨rfl, ?_, by omega⟩)
        rw [clashE, two_bad hl]
        rfl
  · have he : clashE ps hs i k = twoE ps hs i k := by rw [clashE, if_neg (by omega)]
    rw [he]
    by_cases h5 : clashE (lessL ps i cn) hs i k = 51
    · rcases h2 with h2 | h2
      · exfalso
        have ht : twoE (lessL ps i cn) hs i k = 0 := by
          rcases two_cases (lessL ps i cn) hs i k with ⟨_, _, h⟩ | ⟨h, _⟩
          · exact h
          · rw [clashE, if_neg (by omega)] at h5
            omega
        have hp : twoP (lessL ps i cn) i k := by
          apply Classical.byContradiction
          intro hn
          by_cases hq : linkP (lessL ps i cn) hs
          · rw [two_arg hq hn] at ht
            omega
          · rw [two_bad hq] at ht
            omega
        have hp' : twoP ps i k := by
          unfold twoP inP at *
          rw [hlen] at hp
          exact hp
        have hl : linkP ps hs := by
          apply Classical.byContradiction
          intro hn
          rw [two_bad hn] at h2
          omega
        exact h3 ⟨hl, hp'⟩
      · exact .inr (.inr (.inr (.inr ⟨h2, h5⟩)))
    · exact .inr (.inr (.inl ⟨by rcases h2 with h | h <;> rw [h] <;> rfl, by simpa using h5⟩))
set_option maxRecDepth 100000 in
set_option maxHeartbeats 8000000 in
theorem part_law_out (A : Option Addr) (c : Nat) (ps : List (List Sp)) (B : Option Addr) (d : Nat) (hs : List Hg) (i k cn : Int) (w : World) (hA : PnRow w A ps) (hg : greatP ps hs) :
    Calls Try.prog 10 #[.agg #[.slice A ps.length c, .slice B hs.length d], .int .i64 i, .int .i64 k, .int .i64 cn] w fun e w' => e = .returned (.bool true) ∧ Ext w w' := by
  have hgr := fun w' (he : Ext w w') => great_any A c ps B d hs w' (hA.ext he)
  rw [← greatB_yes hg] at hgr
  have Hgr := Lib.hid hgr
  clear hgr hA hg
  generalize ps.length = np at *
  generalize hs.length = nh at *
  have kl : Blk (w.alloc (.cells #[.slice A np c, .slice B nh d] 25)) w.heap.size [.slice A np c, .slice B nh d] := (Blk.new _ _)
  have l0 := kl.at_ 0 rfl
  have l1 := kl.at_ 1 rfl
  have hx0 : Ext w (w.alloc (.cells #[.slice A np c, .slice B nh d] 25)) := ((Ext.refl _).alloc _)
  have Hx0 := Lib.hid hx0
  have hb0 : Ext (w.alloc (.cells #[.slice A np c, .slice B nh d] 25)) (w.alloc (.cells #[.slice A np c, .slice B nh d] 25)) := Ext.refl _
  clear kl hx0
  go_enter Try.func10, Try.ntmps10
  go_wp2_with (first
    | (go_at_call 17; refine (Hgr.out _ (Hx0.out.trans hb1)).mono ?_; rintro e w2 ⟨rfl, hx2⟩; have hb2 := hb1.trans hx2; clear hb1 hx2)
    | (go_at_call 46; refine (alive_any _).mono ?_; rintro e w1 ⟨rfl, hx1⟩; have hb1 := hb0.trans hx1; clear hb0 hx1))
  go_ret
  exact ⟨rfl, Hx0.out.trans hb2⟩
set_option maxRecDepth 100000 in
set_option maxHeartbeats 8000000 in
theorem part_law_far (A : Option Addr) (c : Nat) (ps : List (List Sp)) (B : Option Addr) (d : Nat) (hs : List Hg) (i k cn : Int) (w : World) (hA : PnRow w A ps) (hg : ¬ greatP ps hs) (hi : i < 0 ∨ ¬ i < 0 ∧ (ps.length : Int) ≤ i) :
    Calls Try.prog 10 #[.agg #[.slice A ps.length c, .slice B hs.length d], .int .i64 i, .int .i64 k, .int .i64 cn] w fun e w' => e = .returned (.bool true) ∧ Ext w w' := by
  have hgr := fun w' (he : Ext w w') => great_any A c ps B d hs w' (hA.ext he)
  rw [← greatB_no hg] at hgr
  have Hgr := Lib.hid hgr
  clear hgr hA hg
  generalize ps.length = np at *
  generalize hs.length = nh at *
  have kl : Blk (w.alloc (.cells #[.slice A np c, .slice B nh d] 25)) w.heap.size [.slice A np c, .slice B nh d] := (Blk.new _ _)
  have l0 := kl.at_ 0 rfl
  have l1 := kl.at_ 1 rfl
  have hx0 : Ext w (w.alloc (.cells #[.slice A np c, .slice B nh d] 25)) := ((Ext.refl _).alloc _)
  have Hx0 := Lib.hid hx0
  have hb0 : Ext (w.alloc (.cells #[.slice A np c, .slice B nh d] 25)) (w.alloc (.cells #[.slice A np c, .slice B nh d] 25)) := Ext.refl _
  clear kl hx0
  rcases hi with h1 | ⟨h1, h2⟩
  all_goals
    go_enter Try.func10, Try.ntmps10
    go_wp2_with (first
      | (go_at_call 17; refine (Hgr.out _ (Hx0.out.trans hb1)).mono ?_; rintro e w2 ⟨rfl, hx2⟩; have hb2 := hb1.trans hx2; clear hb1 hx2)
      | (go_at_call 46; refine (alive_any _).mono ?_; rintro e w1 ⟨rfl, hx1⟩; have hb1 := hb0.trans hx1; clear hb0 hx1))
    go_ret
    exact ⟨rfl, Hx0.out.trans hb2⟩
set_option maxRecDepth 100000 in
set_option maxHeartbeats 8000000 in
theorem part_law_corner (A : Option Addr) (c : Nat) (ps : List (List Sp)) (B : Option Addr) (d : Nat) (hs : List Hg) (i : Nat) (k cn : Int) (w : World) (hA : PnRow w A ps) (hg : ¬ greatP ps hs) (hi : i < ps.length) (hcn : cn < 0 ∨ ¬ cn < 0 ∧ ((pnA ps i).length : Int) ≤ cn) :
    Calls Try.prog 10 #[.agg #[.slice A ps.length c, .slice B hs.length d], .int .i64 i, .int .i64 k, .int .i64 cn] w fun e w' => e = .returned (.bool true) ∧ Ext w w' := by
  have hgr := fun w' (he : Ext w w') => great_any A c ps B d hs w' (hA.ext he)
  rw [← greatB_no hg] at hgr
  obtain ⟨ad, X, x, rfl, hp, _⟩ := hA.at_ hi
  have Hgr := Lib.hid hgr
  clear hgr hA hg
  generalize (pnA ps i).length = pn at *
  generalize ps.length = np at *
  generalize hs.length = nh at *
  have hi0 : (i : Int) < (np : Int) := by omega
  have kl : Blk (w.alloc (.cells #[.slice (some ad) np c, .slice B nh d] 25)) w.heap.size [.slice (some ad) np c, .slice B nh d] := (Blk.new _ _)
  have l0 := kl.at_ 0 rfl
  have l1 := kl.at_ 1 rfl
  have hx0 : Ext w (w.alloc (.cells #[.slice (some ad) np c, .slice B nh d] 25)) := ((Ext.refl _).alloc _)
  have Hx0 := Lib.hid hx0
  have hb0 : Ext (w.alloc (.cells #[.slice (some ad) np c, .slice B nh d] 25)) (w.alloc (.cells #[.slice (some ad) np c, .slice B nh d] 25)) := Ext.refl _
  clear kl hx0
  rcases hcn with h1 | ⟨h1, h2⟩
  all_goals
    go_enter Try.func10, Try.ntmps10
    go_wp2_with (first
      | (go_at_call 17; refine (Hgr.out _ (Hx0.out.trans hb1)).mono ?_; rintro e w2 ⟨rfl, hx2⟩; have hb2 := hb1.trans hx2; have hw2 := Hx0.out.trans hb2; clear hb1 hx2)
      | (go_at_call 46; refine (alive_any _).mono ?_; rintro e w1 ⟨rfl, hx1⟩; have hb1 := hb0.trans hx1; clear hb0 hx1))
    go_ret
    exact ⟨rfl, hw2⟩
set_option maxRecDepth 100000 in
set_option maxHeartbeats 16000000 in
theorem part_law_in (A : Option Addr) (c : Nat) (ps : List (List Sp)) (B : Option Addr) (d : Nat) (hs : List Hg) (i : Nat) (k : Int) (cn : Nat) (w : World) (hA : PnRow w A ps) (hB : HRow w B hs) (hg : ¬ greatP ps hs) (hi : i < ps.length) (hc : cn < (pnA ps i).length) :
    Calls Try.prog 10 #[.agg #[.slice A ps.length c, .slice B hs.length d], .int .i64 i, .int .i64 k, .int .i64 cn] w fun e w' => e = .returned (.bool true) ∧ Ext w w' := by
  have hL := lk_of hA hB hg
  have hgr := fun w' (he : Ext w w') => great_any A c ps B d hs w' (hA.ext he)
  rw [← greatB_no hg] at hgr
  obtain ⟨ad, X0, x0, eA, hp, _⟩ := hA.at_ hi
  have htw := fun w' (he : Ext w w') => twin_any A c ps B d hs w' (hL.ext he)
  have hpl := hL.hp i hi
  have hc1 := fun w' (he : Ext w w') => clash_num A c ps B d hs i k w' (hL.ext he)
  have hlessl : (lessP (pnA ps i) cn).length = (pnA ps i).length - 1 := lessP_len hc
  have hc2 := fun (w' : World) (A2 : Option Addr) (c2 : Nat) (B2 : Option Addr) (d2 : Nat) (h1 : PnRow w' A2 (lessL ps i cn)) (h2 : HRow w' B2 hs) => clash_num A2 c2 (lessL ps i cn) B2 d2 hs i k w' ⟨h1, h2, by simpa [lessL] using hL.np, hL.nh, fun j hj => by
    rw [show (lessL ps i cn).length = ps.length by simp [lessL]] at hj
    by_cases hji : j = i
    · subst hji
      rw [pnA_less hj, hlessl]
      omega
    · rw [pnA_less_ne hji]
      exact hL.hp j hj⟩
  rw [show (lessL ps i cn).length = ps.length by simp [lessL]] at hc2
  have hpan := fun (w1 w' : World) (A1 : Option Addr) (c1 : Nat) (B1 : Option Addr) (d1 : Nat) (vs : List Value) (h : TwinOk w1 w' A1 c1 B1 d1 vs ps hs) => h.panel hi (by omega)
  have hset := fun (w1 w' : World) (gP : Nat) (c1 : Nat) (B1 : Option Addr) (d1 : Nat) (vs : List Value) (h : TwinOk w1 w' (some ⟨gP, 0, none⟩) c1 B1 d1 vs ps hs) (X : Option Addr) (x : Nat) (hX : SRow w' X (lessP (pnA ps i) cn)) (hne : ∀ ad, X = some ad → 0 < (lessP (pnA ps i) cn).length → ad.block ≠ gP) => h.setPanel hi rfl x hX hne
  rw [hlessl] at hset
  have happ := fun (w' : World) (g cp : Nat) (hS : SRow w' (some ⟨g, 0, none⟩) (pnA ps i)) (a' : Option Addr) (ha' : cn + 1 < (pnA ps i).length → a' = some ((⟨g, 0, none⟩ : Addr).add ((cn + 1) * 2))) (ty : TypeId) => app_cut (cp := cp) hS hc hpl a' ha' ty
  have hnum := part_nums (hs := hs) k hi hc
  have hnp := hL.np
  have Hgr := Lib.hid hgr
  have Htw := Lib.hid htw
  have Hc1 := Lib.hid hc1
  have Hc2 := Lib.hid hc2
  have Hpan := Lib.hid hpan
  have Hset := Lib.hid hset
  have Happ := Lib.hid happ
  have Heq := Lib.hid (show lessL ps i cn = ps.set i (lessP (pnA ps i) cn) from rfl)
  subst eA
  clear hgr htw hc1 hc2 hpan hset happ hA hB hg hL
  generalize clashE ps hs i k = E at *
  generalize clashE (lessL ps i cn) hs i k = E' at *
  generalize hLL : lessL ps i cn = LL at *
  clear hLL
  generalize hPL : lessP (pnA ps i) cn = LP at *
  clear hPL
  generalize pnA ps i = P at *
  generalize hpn : P.length = pn at *
  have Hpn := Lib.hid hpn
  clear hpn hlessl
  generalize ps.length = np at *
  generalize hs.length = nh at *
  have hi0 : (i : Int) < (np : Int) := by omega
  have hc0 : (cn : Int) < (pn : Int) := by omega
  have hw1 : IntKind.i64.wrap ((cn : Int) + 1) = ((cn + 1 : Nat) : Int) := by rw [IntKind.wrap_i64]; omega
  have kl : Blk (w.alloc (.cells #[.slice (some ad) np c, .slice B nh d] 25)) w.heap.size [.slice (some ad) np c, .slice B nh d] := (Blk.new _ _)
  have l0 := kl.at_ 0 rfl
  have l1 := kl.at_ 1 rfl
  have hx0 : Ext w (w.alloc (.cells #[.slice (some ad) np c, .slice B nh d] 25)) := ((Ext.refl _).alloc _)
  have Hx0 := Lib.hid hx0
  have hb0 : Ext (w.alloc (.cells #[.slice (some ad) np c, .slice B nh d] 25)) (w.alloc (.cells #[.slice (some ad) np c, .slice B nh d] 25)) := Ext.refl _
  clear kl hx0
  go_enter Try.func10, Try.ntmps10
  go_wp2_with (first
    | (go_at_call 18; refine (Htw.out _ hw2).mono ?_; rintro e w6 ⟨A1, c1, B1, d1, vs, rfl, htw6, hx6⟩; have hb6 := hb2.trans hx6; obtain ⟨gP, gS, cap, eA1, hg1, hg2, hg3, hg4, hcap, hcell, hfro, hrow⟩ := Hpan.out _ _ _ _ _ _ _ htw6; subst eA1)
    | (go_at_call 17; refine (Hgr.out _ (Hx0.out.trans hb1)).mono ?_; rintro e w2 ⟨rfl, hx2⟩; have hb2 := hb1.trans hx2; have hw2 := Hx0.out.trans hb2; clear hb1 hx2)
    | (go_at_call 46; refine (alive_any _).mono ?_; rintro e w1 ⟨rfl, hx1⟩; have hb1 := hb0.trans hx1; clear hb0 hx1))
  have kb : Blk (w6.alloc (.cells #[.slice (some ⟨gP, 0, none⟩) np c1, .slice B1 nh d1] 25)) w6.heap.size [.slice (some ⟨gP, 0, none⟩) np c1, .slice B1 nh d1] := Blk.new _ _
  have h60 : Ext w6 (w6.alloc (.cells #[.slice (some ⟨gP, 0, none⟩) np c1, .slice B1 nh d1] 25)) := (Ext.refl _).alloc _
  have hgne : gP ≠ w6.heap.size := by omega
  generalize (w6.alloc (.cells #[.slice (some ⟨gP, 0, none⟩) np c1, .slice B1 nh d1] 25)) = W0 at kb h60 ⊢
  have o0 := kb.at_ 0 rfl
  have o1 := kb.at_ 1 rfl
  have cP : ∀ w', Ext W0 w' → w'.cell? ⟨gP, i, none⟩ = some (.slice (some ⟨gS, 0, none⟩) pn cap) := fun w' he => (h60.trans he).cell hcell
  have fP : ∀ w', Ext W0 w' → w'.frozen? ⟨gP, i, none⟩ = false := fun w' he => ((h60.trans he).frozen hg2).trans hfro
  have Hrow := Lib.hid (hrow.ext h60)
  have Htw6 := Lib.hid (htw6.later h60)
  have Hw2 := Lib.hid hw2
  have Hb2 := Lib.hid hb2
  have Kb := Lib.hid kb
  have Hge := Lib.hid hg1
  have hgPS : gS < W0.heap.size := Nat.lt_of_lt_of_le hg3 h60.le
  have hgPP : gP < W0.heap.size := Nat.lt_of_lt_of_le hg2 h60.le
  have HgPS := Lib.hid (And.intro hgPS (And.intro hgPP (And.intro hg4 hgne)))
  clear htw6 hrow hcell hfro hg1 hg2 hg3 hg4 h60 hb6 hx6 hw2 hb2 kb Hpan Htw Hgr hgPS hgPP hgne
  have c1' : (cn : Int) ≤ (cap : Int) := by omega
  have c2' : (cn : Int) ≤ (pn : Int) := by omega
  have c3' : ((cn + 1 : Nat) : Int) ≤ (pn : Int) := by omega
  have c4' : (pn : Int) ≤ (cap : Int) := by omega
  refine Cg.wp_region_calm (p := Cg.extPre) (fr := (fun _ => false)) 20 (fun _ _ _ _ => True) (fun _ _ _ _ _ _ h => h) (by kernel_rfl) (by kernel_rfl) ?_
  simp only [List.take_succ_cons, List.take_zero, List.drop_succ_cons, List.drop_zero]
  refine Cg.calm_quiet Cg.calm_mono_final W0 (fun _ h => h) 19 (by kernel_rfl) ?_
  simp only [List.take_succ_cons, List.take_zero, List.drop_succ_cons, List.drop_zero]
  repeat (go_big_quiet_step (fail))
  refine wpQuiet_nil ?_
  refine Cg.calm_value Cg.calm_mono_final (fun v w => ∃ X x, v = .slice X (pn - 1) x ∧ SRow w X LP ∧ ∀ ad, X = some ad → ad.block ≠ gP) (fun _ w' w'' hR ⟨X, x, e, h1, h2⟩ => ⟨X, x, e, h1.ext (show Ext w' w'' from hR), h2⟩) rfl (fun w' hR _ => ?_) ?_
  · obtain ⟨X, x, w'', hr, hx, hS, hX⟩ := Happ.out w' gS (cap - (cn + 1)) (Hrow.out.ext hR) (if cap = cn + 1 then some ⟨gS, 0, none⟩ else some ⟨gS, (cn + 1) * 2, none⟩) (fun h => by rw [if_neg (by omega), add_zero']) 40
    refine ⟨_, w'', exec_append _ _ 40 rfl rfl rfl hr, hx, ⟨X, x, rfl, hS, fun ad e => ?_⟩, fun hf => by cases hf⟩
    have hle := (show Ext W0 w' from hR).le
    rcases hX with rfl | ⟨b, rfl, hb⟩
    · cases e
      exact HgPS.out.2.2.1
    · cases e
      have := HgPS.out.2.1
      simp only
      omega
  rintro _ _ _ ⟨X, x, rfl, _, _⟩ _
  simp only [Act.put, List.setIfInBounds_toArray, List.set_cons_succ, List.set_cons_zero]
  refine Cg.calm_nil fun w7 he7 hF => ?_
  have he7 : Ext W0 w7 := he7
  obtain ⟨X', x', eX, hSX, hXne⟩ := (hF.1 19).2 rfl
  simp only [Value.slice.injEq, true_and] at eX
  obtain ⟨rfl, rfl⟩ := eX
  have htw7 := Htw6.out.later he7
  obtain ⟨hP8, hH8, hx8⟩ := Hset.out _ _ _ _ _ _ _ htw7 X x hSX (fun ad e _ => hXne ad e)
  rw [← Heq.out] at hP8
  have c7 := cP w7 he7
  have f7 := fP w7 he7
  have c8 : (w7.setCell ⟨gP, i, none⟩ (.slice X (pn - 1) x)).cell? ⟨gP, i, none⟩ = some (.slice X (pn - 1) x) := World.cell?_setCell_same _ _ _ c7
  have kb8 := (Kb.out.ext he7).other (b := gP) (k := i) HgPS.out.2.2.2 (.slice X (pn - 1) x)
  have Kb8 := Lib.hid kb8
  have hb8 := Hb2.out.trans hx8
  have hz8 := Hw2.out.trans hx8
  have o0 := kb8.at_ 0 rfl
  have o1 := kb8.at_ 1 rfl
  have c8' : ∀ w', Ext (w7.setCell ⟨gP, i, none⟩ (.slice X (pn - 1) x)) w' → w'.cell? ⟨gP, i, none⟩ = some (.slice X (pn - 1) x) := fun w' he => he.cell c8
  have H8 := Lib.hid (And.intro hP8 (And.intro hH8 hz8))
  have hnum' : (E = 0 ∧ E' = 0) ∨ (E = 0 ∧ E' = 50 ∧ ((pn - 1 : Nat) : Int) < 3) ∨ ((E == 0) = false ∧ (E' != 51) = true) ∨ (E = 51 ∧ E' = 51) ∨ (E = 50 ∧ E' = 51 ∧ 8 < pn) ∨ (E = 50 ∧ E' = 51 ∧ pn ≤ 8) := by
    rcases hnum with h | ⟨h1, h2, h3⟩ | h | h | ⟨h1, h2⟩
    · exact .inl h
    · exact .inr (.inl ⟨h1, h2, by omega⟩)
    · exact .inr (.inr (.inl h))
    · exact .inr (.inr (.inr (.inl h)))
    · by_cases h8 : 8 < pn
      · exact .inr (.inr (.inr (.inr (.inl ⟨h1, h2, h8⟩))))
      · exact .inr (.inr (.inr (.inr (.inr ⟨h1, h2, by omega⟩))))
  clear hF hSX hXne htw7 hP8 hH8 hx8 c8 kb8 Hset Happ Heq Hpn Hrow Htw6 Kb Hge HgPS cP fP c1' c2' c3' c4' hnum hz8 Hw2 Hb2
  rcases hnum' with ⟨rfl, rfl⟩ | ⟨rfl, rfl, h3⟩ | ⟨h1, h2⟩ | ⟨rfl, rfl⟩ | ⟨rfl, rfl, h3⟩ | ⟨rfl, rfl, h3⟩
  all_goals
    go_wp2_with (first
      | (go_at_call 42; have hq := hz9; clear hq; refine (Hc2.out _ _ _ _ _ (H8.out.1.ext hz9) (H8.out.2.1.ext hz9)).mono ?_; rintro e w10 ⟨qc, qA, qB, qC, qE, qI, qn, qic, rfl, hx10⟩; have hb10 := hb9.trans hx10; have hz10 := hz9.trans hx10; have hw10 := H8.out.2.2.trans hz10; clear hb9 hz9 hx9 hx10)
      | (go_at_call 42; refine (Hc1.out _ H8.out.2.2).mono ?_; rintro e w9 ⟨rc, rA, rB, rC, rE, rI, rn, ric, rfl, hx9⟩; have hb9 := (hb8.trans hx9).alloc (.cells #[.bool rc, vint rA, vint rB, vint rC, vint rE, .slice rI rn ric] 67); have hz9 := hx9.alloc (.cells #[.bool rc, vint rA, vint rB, vint rC, vint rE, .slice rI rn ric] 67); clear hb8 c7 f7))
    all_goals
      go_ret
      exact ⟨rfl, hw10.alloc _⟩
theorem part_law (A : Option Addr) (c : Nat) (ps : List (List Sp)) (B : Option Addr) (d : Nat) (hs : List Hg) (i k cn : Int) (w : World) (hA : PnRow w A ps) (hB : HRow w B hs) :
    Calls Try.prog 10 #[.agg #[.slice A ps.length c, .slice B hs.length d], .int .i64 i, .int .i64 k, .int .i64 cn] w fun e w' => e = .returned (.bool true) ∧ Ext w w' := by
  by_cases hg : greatP ps hs
  · exact part_law_out A c ps B d hs i k cn w hA hg
  · by_cases hi : 0 ≤ i ∧ i < ps.length
    · obtain ⟨a, rfl⟩ : ∃ a : Nat, i = a := ⟨i.toNat, by omega⟩
      by_cases hc : 0 ≤ cn ∧ cn < (pnA ps a).length
      · obtain ⟨b, rfl⟩ : ∃ b : Nat, cn = b := ⟨cn.toNat, by omega⟩
        exact part_law_in A c ps B d hs a k b w hA hB hg (by omega) (by omega)
      · exact part_law_corner A c ps B d hs a k cn w hA hg (by omega) (by omega)
    · exact part_law_far A c ps B d hs i k cn w hA hg (by omega)
end Go.Proofs.Yteilglljigjefaa
