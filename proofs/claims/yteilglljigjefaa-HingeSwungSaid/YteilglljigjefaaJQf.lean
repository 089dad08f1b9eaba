/- The law HingeSwung. -/
import Derived.Test.YteilglljigjefaaJ31
import Derived.Test.YteilglljigjefaaJQe
import Derived.Test.YteilglljigjefaaJ29
import Derived.Test.YteilglljigjefaaJ32
import Derived.Test.YteilglljigjefaaJ15
import Derived.Test.YteilglljigjefaaJ19
namespace Go.Proofs.Yteilglljigjefaa
open Go.RowKit
/-- Whether a number is among the first ones of a list. -/
def hasB (l : List Int) (a : Int) (i : Nat) : Bool := (l.take i).contains a
theorem hasB_zero (l : List Int) (a : Int) : false = hasB l a 0 := by simp [hasB]
theorem hasB_succ {l : List Int} (a : Int) {i : Nat} (hi : i < l.length) : hasB l a (i + 1) = (hasB l a i || (getI l i == a)) := by
  unfold hasB
  rw [List.take_succ_eq_append_getElem hi, getI_eq hi]
  rw [Bool.eq_iff_iff, Bool.or_eq_true, beq_iff_eq]
  simp only [List.contains_eq_mem, decide_eq_true_eq, List.mem_append, List.mem_singleton]
  exact or_congr Iff.rfl eq_comm
theorem swL_sorted (ps : List (List Sp)) (hs : List Hg) (k m : Nat) {i : Nat} (h0 : 0 < i) (hi : i < (swL ps hs k m).length) : getI (swL ps hs k m) (i - 1) < getI (swL ps hs k m) i := by
  have hp : (swL ps hs k m).Pairwise (· < ·) := by
    unfold swL
    rw [List.pairwise_map]
    exact (List.Pairwise.filter _ List.pairwise_lt_range).imp fun h => by omega
  rw [getI_eq (by omega), getI_eq hi]
  exact List.pairwise_iff_getElem.1 hp (i - 1) i (by omega) hi (by omega)
theorem swL_has (ps : List (List Sp)) (hs : List Hg) (k : Nat) {a : Nat} (ha : a < 36) : hasB (swL ps hs k 36) a (swL ps hs k 36).length = swF ps hs k a := by
  unfold hasB
  rw [List.take_length]
  unfold swL
  cases h : swF ps hs k a
  · simp only [List.contains_eq_mem, decide_eq_false_iff_not, List.mem_map, List.mem_filter, not_exists, not_and]
    rintro b ⟨_, hb⟩ e
    obtain rfl : b = a := by omega
    rw [h] at hb
    cases hb
  · simp only [List.contains_eq_mem, decide_eq_true_eq, List.mem_map, List.mem_filter]
    exact ⟨a, ⟨List.mem_range.2 ha, h⟩, rfl⟩
set_option maxRecDepth 100000 in
set_option maxHeartbeats 8000000 in
theorem swung_law_out (A : Option Addr) (c : Nat) (ps : List (List Sp)) (B : Option Addr) (d : Nat) (hs : List Hg) (x a : Int) (w : World) (hA : PnRow w A ps) (hg : greatP ps hs) :
    Calls Try.prog 16 #[.agg #[.slice A ps.length c, .slice B hs.length d], .int .i64 x, .int .i64 a] w fun e w' => e = .returned (.bool true) ∧ Ext w w' := by
  have hgr := fun w' (he : Ext w w') => great_any A c ps B d hs w' (hA.ext he)
  rw [← greatB_yes hg] at hgr
  have Hgr := Lib.hid hgr
  clear hgr hA hg
  generalize ps.length = np at *
  generalize hs.length = nh at *
  have kl : Blk (w.alloc (.cells #[.slice A np c, .slice B nh d] 25)) w.heap.size [.slice A np c, .slice B nh d] := (Blk.new _ _)
  have l0 := kl.at_ 0 rfl
  have l1 := kl.at_ 1 rfl
  have hx0 : Ext w (w.alloc (.cells #[.slice A np c, .slice B nh d] 25)) := ((Ext.refl _).alloc _)
  have Hx0 := Lib.hid hx0
  have hb0 : Ext (w.alloc (.cells #[.slice A np c, .slice B nh d] 25)) (w.alloc (.cells #[.slice A np c, .slice B nh d] 25)) := Ext.refl _
  clear kl hx0
  go_enter Try.func16, Try.ntmps16
  go_wp2_with (first
    | (go_at_call 17; refine (Hgr.out _ (Hx0.out.trans hb1)).mono ?_; rintro e w2 ⟨rfl, hx2⟩; have hb2 := hb1.trans hx2; clear hb1 hx2)
    | (go_at_call 46; refine (alive_any _).mono ?_; rintro e w1 ⟨rfl, hx1⟩; have hb1 := hb0.trans hx1; clear hb0 hx1))
  go_ret
  exact ⟨rfl, Hx0.out.trans hb2⟩
set_option maxRecDepth 100000 in
set_option maxHeartbeats 8000000 in
theorem swung_law_bad (A : Option Addr) (c : Nat) (ps : List (List Sp)) (B : Option Addr) (d : Nat) (hs : List Hg) (x a : Int) (w : World) (hA : PnRow w A ps) (hB : HRow w B hs) (hg : ¬ greatP ps hs) (hq : (swE ps hs x = 2 ∨ swE ps hs x = 50) ∧ swR ps hs x = []) :
    Calls Try.prog 16 #[.agg #[.slice A ps.length c, .slice B hs.length d], .int .i64 x, .int .i64 a] w fun e w' => e = .returned (.bool true) ∧ Ext w w' := by
  have hL := lk_of hA hB hg
  have hgr := fun w' (he : Ext w w') => great_any A c ps B d hs w' (hA.ext he)
  rw [← greatB_no hg] at hgr
  have hsw := fun w' (he : Ext w w') => (swings_any A c ps B d hs x w' (hL.ext he)).mono (R' := fun e w'' => ∃ X y, e = .returned (.tuple #[.slice X (swR ps hs x).length y, .int .i64 (swE ps hs x)]) ∧ Ints w'' X (swR ps hs x) ∧ Ext w' w'') fun e w'' ⟨v, he, ho⟩ => by obtain ⟨X, y, rfl⟩ := ho.form; exact ⟨X, y, he, OwnI.ints ho, ho.ext⟩
  rw [hq.2] at hsw
  simp only [List.length_nil] at hsw
  have hne : (swE ps hs x != 0) = true := by rcases hq.1 with h | h <;> rw [h] <;> rfl
  generalize swE ps hs x = E at *
  have Hgr := Lib.hid hgr
  have Hsw := Lib.hid hsw
  clear hgr hsw hL hA hB hg hq
  generalize ps.length = np at *
  generalize hs.length = nh at *
  have kl : Blk (w.alloc (.cells #[.slice A np c, .slice B nh d] 25)) w.heap.size [.slice A np c, .slice B nh d] := (Blk.new _ _)
  have l0 := kl.at_ 0 rfl
  have l1 := kl.at_ 1 rfl
  have hx0 : Ext w (w.alloc (.cells #[.slice A np c, .slice B nh d] 25)) := ((Ext.refl _).alloc _)
  have Hx0 := Lib.hid hx0
  have hb0 : Ext (w.alloc (.cells #[.slice A np c, .slice B nh d] 25)) (w.alloc (.cells #[.slice A np c, .slice B nh d] 25)) := Ext.refl _
  clear kl hx0
  go_enter Try.func16, Try.ntmps16
  go_wp2_with (first
    | (go_at_call 37; refine (Hsw.out _ (Hx0.out.trans hb2)).mono ?_; rintro e w3 ⟨X, y, rfl, hX, hx3⟩; have hb3 := hb2.trans hx3; have HX := Lib.hid hX; clear hb2 hx3 hX)
    | (go_at_call 17; refine (Hgr.out _ (Hx0.out.trans hb1)).mono ?_; rintro e w2 ⟨rfl, hx2⟩; have hb2 := hb1.trans hx2; clear hb1 hx2)
    | (go_at_call 46; refine (alive_any _).mono ?_; rintro e w1 ⟨rfl, hx1⟩; have hb1 := hb0.trans hx1; clear hb0 hx1))
  go_ret
  exact ⟨rfl, Hx0.out.trans hb3⟩
set_option maxRecDepth 100000 in
set_option maxHeartbeats 8000000 in
theorem swung_law_far (A : Option Addr) (c : Nat) (ps : List (List Sp)) (B : Option Addr) (d : Nat) (hs : List Hg) (k : Nat) (a : Int) (w : World) (hA : PnRow w A ps) (hB : HRow w B hs) (hg : ¬ greatP ps hs) (hl : swE ps hs k = 0) (ha : ¬ (0 ≤ a ∧ a < 36)) :
    Calls Try.prog 16 #[.agg #[.slice A ps.length c, .slice B hs.length d], .int .i64 k, .int .i64 a] w fun e w' => e = .returned (.bool true) ∧ Ext w w' := by
  have hL := lk_of hA hB hg
  have hgr := fun w' (he : Ext w w') => great_any A c ps B d hs w' (hA.ext he)
  rw [← greatB_no hg] at hgr
  have hsw := fun w' (he : Ext w w') => (swings_any A c ps B d hs k w' (hL.ext he)).mono (R' := fun e w'' => ∃ X y, e = .returned (.tuple #[.slice X (swR ps hs k).length y, .int .i64 (swE ps hs k)]) ∧ Ints w'' X (swR ps hs k) ∧ Ext w' w'') fun e w'' ⟨v, he, ho⟩ => by obtain ⟨X, y, rfl⟩ := ho.form; exact ⟨X, y, he, OwnI.ints ho, ho.ext⟩
  rw [hl] at hsw
  have Hgr := Lib.hid hgr
  have Hsw := Lib.hid hsw
  clear hgr hsw hL hA hB hg hl
  generalize swR ps hs k = S at *
  generalize ps.length = np at *
  generalize hs.length = nh at *
  have kl : Blk (w.alloc (.cells #[.slice A np c, .slice B nh d] 25)) w.heap.size [.slice A np c, .slice B nh d] := (Blk.new _ _)
  have l0 := kl.at_ 0 rfl
  have l1 := kl.at_ 1 rfl
  have hx0 : Ext w (w.alloc (.cells #[.slice A np c, .slice B nh d] 25)) := ((Ext.refl _).alloc _)
  have Hx0 := Lib.hid hx0
  have hb0 : Ext (w.alloc (.cells #[.slice A np c, .slice B nh d] 25)) (w.alloc (.cells #[.slice A np c, .slice B nh d] 25)) := Ext.refl _
  clear kl hx0
  rcases (by omega : a < 0 ∨ (¬ a < 0 ∧ 36 ≤ a)) with h1 | ⟨h1, h2⟩
  all_goals
    clear ha
    go_enter Try.func16, Try.ntmps16
    go_wp2_with (first
      | (go_at_call 37; refine (Hsw.out _ (Hx0.out.trans hb2)).mono ?_; rintro e w3 ⟨X, y, rfl, hX, hx3⟩; have hb3 := hb2.trans hx3; have HX := Lib.hid hX; clear hb2 hx3 hX)
      | (go_at_call 17; refine (Hgr.out _ (Hx0.out.trans hb1)).mono ?_; rintro e w2 ⟨rfl, hx2⟩; have hb2 := hb1.trans hx2; clear hb1 hx2)
      | (go_at_call 46; refine (alive_any _).mono ?_; rintro e w1 ⟨rfl, hx1⟩; have hb1 := hb0.trans hx1; clear hb0 hx1))
    go_ret
    exact ⟨rfl, Hx0.out.trans hb3⟩
set_option maxRecDepth 100000 in
set_option maxHeartbeats 16000000 in
theorem swung_law_in (A : Option Addr) (c : Nat) (ps : List (List Sp)) (B : Option Addr) (d : Nat) (hs : List Hg) (k a : Nat) (w : World) (hA : PnRow w A ps) (hB : HRow w B hs) (hg : ¬ greatP ps hs) (hk : k < hs.length) (hl : linkP ps hs) (hq : swE ps hs k = 0) (hr : swR ps hs k = swL ps hs k 36) (ha : a < 36) :
    Calls Try.prog 16 #[.agg #[.slice A ps.length c, .slice B hs.length d], .int .i64 k, .int .i64 a] w fun e w' => e = .returned (.bool true) ∧ Ext w w' := by
  have hL := lk_of hA hB hg
  have hgr := fun w' (he : Ext w w') => great_any A c ps B d hs w' (hA.ext he)
  rw [← greatB_no hg] at hgr
  have hsw := fun w' (he : Ext w w') => (swings_any A c ps B d hs k w' (hL.ext he)).mono (R' := fun e w'' => ∃ X y, e = .returned (.tuple #[.slice X (swR ps hs k).length y, .int .i64 (swE ps hs k)]) ∧ Ints w'' X (swR ps hs k) ∧ Ext w' w'') fun e w'' ⟨v, he, ho⟩ => by obtain ⟨X, y, rfl⟩ := ho.form; exact ⟨X, y, he, OwnI.ints ho, ho.ext⟩
  rw [hq, hr] at hsw
  have htw := fun w' (he : Ext w w') => twin_any A c ps B d hs w' (hL.ext he)
  have hla := setAng_link hl hk ha
  have hst := fun (w1 w' : World) (A1 : Option Addr) (c1 : Nat) (B1 : Option Addr) (d1 : Nat) (vs : List Value) (h : TwinOk w1 w' A1 c1 B1 d1 vs ps hs) => h.angle hk
  have hcl := fun (w1 w' : World) (A1 : Option Addr) (c1 : Nat) (B1 : Option Addr) (d1 : Nat) (vs : List Value) (h : TwinOk w1 w' A1 c1 B1 d1 vs ps (setAng hs k a)) => by
    have hn : (setAng hs k a).length ≤ 1000 := by rw [setAng_len]; exact hL.nh
    have hk2 : Lk w' A1 ps B1 (setAng hs k a) := ⟨h.pans.row h.pown, OwnH.row h.hown, hL.np, hn, hL.hp⟩
    exact (clashes_all A1 c1 ps B1 d1 (setAng hs k a) w' hk2).mono (R' := fun e w'' => ∃ X x, e = .returned (.tuple #[.slice X (pairsR ps (setAng hs k a)).length x, .int .i64 0]) ∧ Ext w' w'') fun e w'' ⟨v, he, ho⟩ => by
      rw [← checkE_good hla] at he
      obtain ⟨X, x, rfl⟩ := ho.form
      exact ⟨X, x, he, ho.ext⟩
  simp only [setAng_len] at hcl
  have hlen : swF ps hs k a = decide ((pairsR ps (setAng hs k a)).length = 0) := by
    unfold swF pairsR linkB
    rw [if_pos (decide_eq_true hla)]
    simp
  have hz := hasB_zero (swL ps hs k 36) a
  have hsu := fun i (hi : i < (swL ps hs k 36).length) => hasB_succ (l := swL ps hs k 36) a hi
  have hso := fun i (h0 : 0 < i) (hi : i < (swL ps hs k 36).length) => swL_sorted ps hs k 36 h0 hi
  have hhas := swL_has ps hs k ha
  rw [hlen] at hhas
  have hsl := swL_len ps hs k 36
  have hSat := fun (w' : World) (X : Option Addr) (h : Ints w' X (swL ps hs k 36)) (i : Nat) (hi : i < (swL ps hs k 36).length) => Ints.some_ h (by omega)
  have hnh := hl.nh
  have Hgr := Lib.hid hgr
  have Hsw := Lib.hid hsw
  have Htw := Lib.hid htw
  have Hst := Lib.hid hst
  have Hcl := Lib.hid hcl
  have Hz := Lib.hid hz
  have Hsu := Lib.hid hsu
  have Hso := Lib.hid hso
  have Hhas := Lib.hid hhas
  have HSat := Lib.hid hSat
  clear hgr hsw htw hst hcl hz hsu hso hhas hL hA hB hg hq hr hla hlen hl hSat
  generalize hasB (swL ps hs k 36) a = F at *
  generalize swL ps hs k 36 = S at *
  generalize (pairsR ps (setAng hs k a)).length = CL at *
  generalize hSn : S.length = sn at *
  clear hSn
  generalize ps.length = np at *
  generalize hnh' : hs.length = nh at *
  have Hnh := Lib.hid hnh'
  clear hnh'
  have a0 : (0 : Int) ≤ (a : Int) := by omega
  have a1 : (a : Int) < 36 := by omega
  have k1 : (k : Int) < (nh : Int) := by omega
  have hF0 : ∀ i, F i = true ∨ F i = false := fun i => by cases F i <;> simp
  have kl : Blk (w.alloc (.cells #[.slice A np c, .slice B nh d] 25)) w.heap.size [.slice A np c, .slice B nh d] := (Blk.new _ _)
  have l0 := kl.at_ 0 rfl
  have l1 := kl.at_ 1 rfl
  have hx0 : Ext w (w.alloc (.cells #[.slice A np c, .slice B nh d] 25)) := ((Ext.refl _).alloc _)
  have Hx0 := Lib.hid hx0
  have hb0 : Ext (w.alloc (.cells #[.slice A np c, .slice B nh d] 25)) (w.alloc (.cells #[.slice A np c, .slice B nh d] 25)) := Ext.refl _
  clear kl hx0
  go_enter Try.func16, Try.ntmps16
  go_wp2_with (first
    | (go_at_call 39; refine (Hcl.out _ _ _ _ _ _ _ (H7.out.2.1)).mono ?_; rintro e w8 ⟨Y, yc, rfl, hx8⟩)
    | (go_at_call 18; refine (Htw.out _ (Hx0.out.trans hb3)).mono ?_; rintro e w6 ⟨A1, c1, B1, d1, vs, rfl, htw6, hx6⟩; have hb6 := hb3.trans hx6; obtain ⟨g, hB1, hg1, hg2, hcell, hfro, hset⟩ := Hst.out _ _ _ _ _ _ _ (htw6.later ((Ext.refl w6).alloc (.cells #[.slice A1 np c1, .slice B1 nh d1] 25))); subst hB1; have H7 := Lib.hid (And.intro hset (And.intro (hset a) True.intro)))
    | (go_at_call 37; refine (Hsw.out _ (Hx0.out.trans hb2)).mono ?_; rintro e w3 ⟨X, y, rfl, hX, hx3⟩; have hb3 := hb2.trans hx3; have HX := Lib.hid hX; clear hb2 hx3 hX)
    | (go_at_call 17; refine (Hgr.out _ (Hx0.out.trans hb1)).mono ?_; rintro e w2 ⟨rfl, hx2⟩; have hb2 := hb1.trans hx2; clear hb1 hx2)
    | (go_at_call 46; refine (alive_any _).mono ?_; rintro e w1 ⟨rfl, hx1⟩; have hb1 := hb0.trans hx1; clear hb0 hx1))
  have hx38 : Ext w3 w8 := ((hx6.alloc (.cells #[.slice A1 np c1, .slice (some ⟨g, 0, none⟩) nh d1] 25)).setCell (p := ⟨g, k * 5 + 4, none⟩) hg1 (vint a)).trans hx8
  have Hx38 := Lib.hid hx38
  have Hxe := Lib.hid (Hx0.out.trans (hb3.trans hx38))
  clear hx38 hx8 hb6 hcell hfro hset H7 htw6 hx6 hg1 hg2 hb3 Hcl Htw Hst Hsw Hgr l0 l1 Hnh
  go_loopw [67, 13] (fun i v wr => ∃ j : Nat, j ≤ sn ∧ i = .int .i64 j ∧ v = .bool (F j) ∧ Ext w8 wr) (fun i _ _ => sn - (intOf i).toNat)
  case atStart => exact ⟨0, by omega, rfl, by rw [← Hz.out], Ext.refl _⟩
  case round =>
    obtain ⟨j, hj, rfl, rfl, hxr⟩ := hrel
    by_cases hlt : j < sn
    · have hji : (j : Int) < (sn : Int) := by omega
      obtain ⟨ad, rfl, hS⟩ := HSat.out w3 X HX.out j hlt
      have c0 : ∀ w', Ext wr w' → _ := fun w' he => hS j hlt w' (Hx38.out.trans (hxr.trans he))
      have c1 : ∀ w', Ext wr w' → _ := fun w' he => hS (j - 1) (by omega) w' (Hx38.out.trans (hxr.trans he))
      have hf := Hsu.out j hlt
      have h3 : (F j = true ∧ F (j + 1) = true) ∨ (F j = false ∧ (getI S j == (a : Int)) = true ∧ F (j + 1) = true) ∨ (F j = false ∧ (getI S j == (a : Int)) = false ∧ F (j + 1) = false) := by
        cases h1 : F j <;> cases h2 : getI S j == (a : Int) <;> rw [h1, h2] at hf <;> simp at hf <;> simp [hf]
      have h2 : ¬ 0 < j ∨ (IntKind.i64.wrap ((j : Int) - 1) = ((j - 1 : Nat) : Int) ∧ 0 < j ∧ ((j - 1 : Nat) : Int) < (sn : Int) ∧ (0 : Int) ≤ ((j - 1 : Nat) : Int) ∧ getI S (j - 1) < getI S j) := by
        by_cases h0 : j = 0
        · exact .inl (by omega)
        · refine .inr ⟨by rw [IntKind.wrap_i64]; omega, by omega, by omega, by omega, Hso.out j (by omega) hlt⟩
      have Hxr := Lib.hid hxr
      clear hxr hS hf Hsu Hso HSat Hhas Hz hF0
      rcases h3 with ⟨h3, h4⟩ | ⟨h3, h5, h4⟩ | ⟨h3, h5, h4⟩
      all_goals
        have H4 := Lib.hid h4
        clear h4
        rw [h3]
        clear h3
        rcases h2 with e0 | ⟨e1, e2, e3, e4, e5⟩
        all_goals
          go_wp2
          go_roundw
          case rel => exact ⟨j + 1, by omega, by go_num, by rw [H4.out], Hxr.out⟩
          case measure => simp [intOf]; omega
    · obtain rfl : j = sn := by omega
      by_cases hC : CL = 0
      · have hFs : F j = true := by rw [Hhas.out]; simp [hC]
        subst hC
        rw [hFs]
        clear hFs Hhas
        go_wp2
        go_ret
        exact ⟨rfl, Hxe.out.trans hxr⟩
      · have hFs : F j = false := by rw [Hhas.out]; simp [hC]
        have hc : ((CL : Int) == 0) = false := by simp; omega
        rw [hFs]
        clear hFs Hhas hC
        go_wp2
        go_ret
        exact ⟨rfl, Hxe.out.trans hxr⟩
theorem swung_law (A : Option Addr) (c : Nat) (ps : List (List Sp)) (B : Option Addr) (d : Nat) (hs : List Hg) (x a : Int) (w : World) (hA : PnRow w A ps) (hB : HRow w B hs) :
    Calls Try.prog 16 #[.agg #[.slice A ps.length c, .slice B hs.length d], .int .i64 x, .int .i64 a] w fun e w' => e = .returned (.bool true) ∧ Ext w w' := by
  by_cases hg : greatP ps hs
  · exact swung_law_out A c ps B d hs x a w hA hg
  · rcases swE_cases ps hs x with ⟨k, rfl, hk, hl, h1, h2⟩ | ⟨_, _, h1, h2⟩ | ⟨_, h1, h2⟩
    · by_cases ha : 0 ≤ a ∧ a < 36
      · obtain ⟨b, rfl⟩ : ∃ b : Nat, a = b := ⟨a.toNat, by omega⟩
        exact swung_law_in A c ps B d hs k b w hA hB hg hk hl h1 h2 (by omega)
      · exact swung_law_far A c ps B d hs k a w hA hB hg h1 ha
    · exact swung_law_bad A c ps B d hs x a w hA hB hg ⟨.inl h1, h2⟩
    · exact swung_law_bad A c ps B d hs x a w hA hB hg ⟨.inr h1, h2⟩
end Go.Proofs.Yteilglljigjefaa
