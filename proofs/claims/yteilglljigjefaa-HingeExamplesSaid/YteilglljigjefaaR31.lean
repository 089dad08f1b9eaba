/- The reference's Bent: a linkage with one other angle. -/
import Derived.Test.YteilglljigjefaaR27
namespace Go.Proofs.Yteilglljigjefaa
open Go.RowKit
set_option maxRecDepth 100000 in
set_option maxHeartbeats 8000000 in
theorem bent_any (A : Option Addr) (c : Nat) (ps : List (List Sp)) (B : Option Addr) (d : Nat) (hs : List Hg) (k : Nat) (n : Int) (w : World) (hL : Lk w A ps B hs) (hk : k < hs.length) :
    Calls Try.prog 71 #[.agg #[.slice A ps.length c, .slice B hs.length d], .int .i64 k, .int .i64 n] w fun e w' => ∃ B1 d1, e = .returned (.agg #[.slice A ps.length c, .slice B1 hs.length d1]) ∧ OwnH w w' (.slice B1 hs.length d1) (setAng hs k n) := by
  have hwi := fun (w2 : World) (he : Ext w w2) => (with_any A c ps B d hs w2 (hL.ext he)).mono (R' := fun e w' => ∃ B1 d1, e = .returned (.agg #[.slice A ps.length c, .slice B1 hs.length d1]) ∧ Own w2 w' 85 5 (.slice B1 hs.length d1) hs.length (hs.map Hg.cells).flatten) fun e w' h => h
  have hF := Hg.cells_len hs
  have hFs := setAng_cells hs k n hk
  unfold OwnH
  rw [setAng_len, ← hFs]
  clear hFs
  have Hwi := Lib.hid hwi
  clear hwi hL
  generalize (hs.map Hg.cells).flatten = F at *
  generalize ps.length = np at *
  generalize hs.length = nh at *
  have kl : Blk ((w.alloc (.cells #[.slice A np c, .slice B nh d] 25)).alloc (.cells #[.slice none 0 0, .slice none 0 0] 25)) w.heap.size [.slice A np c, .slice B nh d] := (Blk.new _ _).ext ((Ext.refl _).alloc _)
  have kz : Whole ((w.alloc (.cells #[.slice A np c, .slice B nh d] 25)).alloc (.cells #[.slice none 0 0, .slice none 0 0] 25)) (w.heap.size + 1) #[.slice none 0 0, .slice none 0 0] 25 := Whole.new (by simp)
  have b0 := kl.at_ 0 rfl
  have b1 := kl.at_ 1 rfl
  have hx0 : Ext w ((w.alloc (.cells #[.slice A np c, .slice B nh d] 25)).alloc (.cells #[.slice none 0 0, .slice none 0 0] 25)) := ((Ext.refl _).alloc _).alloc _
  have Hx0 := Lib.hid hx0
  have Kz := Lib.hid kz
  clear kl kz hx0
  go_enter Try.func71, Try.ntmps71
  have hkk : k * 5 + 4 < F.length := by omega
  have hx4 : ∃ x4, F[k * 5 + 4]? = some x4 := ⟨_, List.getElem?_eq_getElem hkk⟩
  obtain ⟨x4, hx4⟩ := hx4
  have Hx4 := Lib.hid hx4
  clear hx4 hkk hF
  have hpos : 0 < nh := by omega
  have hkn : (k : Int) < (nh : Int) := by omega
  go_wp2_with (go_at_call 91; refine (Hwi.out _ Hx0.out).mono ?_; rintro e w1 ⟨B1, d1, rfl, h1⟩; obtain ⟨g, c', ev, hg1, hg2⟩ := h1.at_ hpos; cases ev; have hS := (Whole.new (w := w1) (cs := #[.slice A np c, .slice (some ⟨g, 0, none⟩) nh d1]) (t := 25) rfl); have o0 := hS.cell 0 rfl; have o1 := hS.cell 1 rfl; have hown := h1.alloc (.cells #[.slice A np c, .slice (some ⟨g, 0, none⟩) nh d1] 25); have y4 := (hown.cell (j := k * 5 + 4) (List.getElem?_eq_some_iff.1 Hx4.out).1).trans Hx4.out; have yf := hown.free (k * 5 + 4); have hS5 := hS.farCell (show w1.heap.size ≠ g by omega) (k * 5 + 4) (.int .i64 n); have p0 := hS5.cell 0 rfl; have p1 := hS5.cell 1 rfl; have hK5 := (Whole.ext Kz.out (h1.ext.alloc (.cells #[.slice A np c, .slice (some ⟨g, 0, none⟩) nh d1] 25))).farCell (show w.heap.size + 1 ≠ g by have h1 := (Array.getElem?_eq_some_iff.1 Kz.out.h).1; omega) (k * 5 + 4) (.int .i64 n); have z0 := hK5.cell 0 rfl; have z1 := hK5.cell 1 rfl; have zf := hK5.free; have hfin := (hown.store (k * 5 + 4) (.int .i64 n)).since Hx0.out; have H5 := Lib.hid (And.intro hK5 hfin); clear hS hown hS5 hK5 hfin h1 b0 b1 hg1 hg2)
  obtain ⟨hK, hh⟩ := H5.out
  have hge1 : w.heap.size ≤ w.heap.size + 1 := by omega
  have hh5 := (hh.other (p := ⟨w.heap.size + 1, 0, none⟩) hge1 (hh.ne_whole hK (by decide)) (.slice A np c)).other (p := ⟨w.heap.size + 1, 1, none⟩) hge1 (hh.ne_whole hK (by decide)) (.slice (some ⟨g, 0, none⟩) nh d1)
  have hK5 := ((hK.setCell 0 (.slice A np c)).setCell 1 (.slice (some ⟨g, 0, none⟩) nh d1)).blk
  refine bodyPost_ret (results_link rfl _ _ rfl hK5) rfl ?_
  exact ⟨_, _, rfl, hh5⟩
end Go.Proofs.Yteilglljigjefaa

/- Swings: the reference's and the code's. -/
namespace Go.Proofs.Yteilglljigjefaa
open Go.RowKit
/-- The angles for which nothing clashes. -/
def swF (ps : List (List Sp)) (hs : List Hg) (k n : Nat) : Bool := decide (refC (clF ps (setAng hs k n)) ps.length ps.length = [])
def swL (ps : List (List Sp)) (hs : List Hg) (k m : Nat) : List Int := ((List.range m).filter (swF ps hs k)).map fun (n : Nat) => (n : Int)
theorem swL_succ (ps : List (List Sp)) (hs : List Hg) (k m : Nat) : swL ps hs k (m + 1) = swL ps hs k m ++ (bif swF ps hs k m then [(m : Int)] else []) := by
  unfold swL
  rw [List.range_succ, List.filter_append, List.map_append]
  congr 1
  cases h : swF ps hs k m <;> simp [h]
theorem swL_len (ps : List (List Sp)) (hs : List Hg) (k : Nat) : ∀ m, (swL ps hs k m).length ≤ m := fun m => by
  unfold swL
  rw [List.length_map]
  exact Nat.le_trans (List.length_filter_le _ _) (by simp)
theorem swF_len {ps : List (List Sp)} {hs : List Hg} {k n : Nat} : ((((refC (clF ps (setAng hs k n)) ps.length ps.length).length : Nat) : Int) == 0) = swF ps hs k n := by
  unfold swF
  cases refC (clF ps (setAng hs k n)) ps.length ps.length <;> simp
  omega
def inH (hs : List Hg) (x : Int) : Prop := 0 ≤ x ∧ x < (hs.length : Int)
instance (hs : List Hg) (x : Int) : Decidable (inH hs x) := by unfold inH; infer_instance
def swE (ps : List (List Sp)) (hs : List Hg) (x : Int) : Int := if linkB ps hs = true then (if inH hs x then 0 else 2) else 50
def swR (ps : List (List Sp)) (hs : List Hg) (x : Int) : List Int := if linkB ps hs = true then (if inH hs x then swL ps hs x.toNat 36 else []) else []
theorem swE_cases (ps : List (List Sp)) (hs : List Hg) (x : Int) : (∃ k : Nat, x = (k : Int) ∧ k < hs.length ∧ linkP ps hs ∧ swE ps hs x = 0 ∧ swR ps hs x = swL ps hs k 36) ∨ (linkP ps hs ∧ (x < 0 ∨ (hs.length : Int) ≤ x) ∧ swE ps hs x = 2 ∧ swR ps hs x = []) ∨ (¬ linkP ps hs ∧ swE ps hs x = 50 ∧ swR ps hs x = []) := by
  unfold swE swR
  rcases linkB_eq (ps := ps) (hs := hs) with ⟨h1, h2, _⟩ | ⟨h1, h2, _⟩
  · rw [h2, if_pos rfl, if_pos rfl]
    by_cases h : inH hs x
    · rw [if_pos h, if_pos h]
      obtain ⟨h3, h4⟩ := h
      exact .inl ⟨x.toNat, by omega, by omega, h1, rfl, rfl⟩
    · rw [if_neg h, if_neg h]
      unfold inH at h
      exact .inr (.inl ⟨h1, by omega, rfl, rfl⟩)
  · rw [h2, if_neg (by simp), if_neg (by simp)]
    exact .inr (.inr ⟨h1, rfl, rfl⟩)
set_option maxRecDepth 100000 in
set_option maxHeartbeats 16000000 in
theorem swings_good (A : Option Addr) (c : Nat) (ps : List (List Sp)) (B : Option Addr) (d : Nat) (hs : List Hg) (k : Nat) (w : World) (hL : Lk w A ps B hs) (hl : linkP ps hs) (hk : k < hs.length) :
    Calls Try.prog 37 #[.agg #[.slice A ps.length c, .slice B hs.length d], .int .i64 k] w fun e w' => ∃ v, e = .returned (.tuple #[v, .int .i64 0]) ∧ OwnI w w' v (swL ps hs k 36) := by
  have hck := fun w' (he : Ext w w') => (hL.ext he).check c d
  rw [show checkE ps hs = 0 by rcases linkB_eq (ps := ps) (hs := hs) with ⟨_, _, h⟩ | ⟨h, _⟩; exact h; exact absurd hl h] at hck
  have hcl := fun (n : Nat) (hn : n < 36) (w2 : World) (he : Ext w w2) (B1 : Option Addr) (d1 : Nat) (ho : HRow w2 B1 (setAng hs k n)) => (clashes_any A c ps B1 d1 (setAng hs k n) w2 ⟨hL.hA.ext he, ho, hL.np, by rw [setAng_len]; exact hL.nh, hL.hp⟩ (setAng_link hl hk hn)).mono (R' := fun e w' => ∃ X x, e = .returned (.slice X (refC (clF ps (setAng hs k n)) ps.length ps.length).length x) ∧ Ext w2 w') fun e w' ⟨v, he, ho⟩ => by obtain ⟨X, x, rfl⟩ := ho.form; exact ⟨X, x, he, ho.ext⟩
  simp only [setAng_len] at hcl
  have hcn := fun w' (he : Ext w w') => (clone_hinges B d hs w' (hL.hB.ext he) hL.nh (by omega)).mono (R' := fun e w'' => ∃ g c', e = .returned (.slice (some ⟨g, 0, none⟩) hs.length c') ∧ Own w' w'' 85 5 (.slice (some ⟨g, 0, none⟩) hs.length c') hs.length (hs.map Hg.cells).flatten) fun e w'' ⟨v, he, ho⟩ => by
    obtain ⟨g, c', ev, _, _⟩ := Own.at_ ho (by omega)
    subst ev
    exact ⟨g, c', he, ho⟩
  have hsw := fun n => swF_len (ps := ps) (hs := hs) (k := k) (n := n)
  have hss := fun n => swL_succ ps hs k n
  have hsl := fun n => swL_len ps hs k n
  have hce := fun (hs' : List Hg) (hl' : hs'.length = hs.length) (he : ∀ n, setAng hs' k n = setAng hs k n) (n : Int) => (setAng_cells hs' k n (by omega)).trans (congrArg (fun l => (List.map Hg.cells l).flatten) (he n))
  have hse := fun (n : Int) (m : Int) => setAng_set hk n m
  have hsn := fun (n : Int) => setAng_len hs k n
  have h0 : swL ps hs k 0 = [] := rfl
  have hpos : 0 < hs.length := by omega
  obtain ⟨L, hLd⟩ : ∃ L : Nat → Nat, L = fun (n : Nat) => (refC (clF ps (setAng hs k n)) ps.length ps.length).length := ⟨_, rfl⟩
  have e : ∀ n : Nat, (refC (clF ps (setAng hs k n)) ps.length ps.length).length = L n := fun n => by rw [hLd]
  simp only [e] at hcl hsw
  clear e hLd hL hl
  have Hck := Lib.hid hck
  have Hcl := Lib.hid hcl
  have Hcn := Lib.hid hcn
  have Hsw := Lib.hid hsw
  have Hss := Lib.hid hss
  have Hsl := Lib.hid hsl
  have Hce := Lib.hid hce
  have Hse := Lib.hid hse
  have Hsn := Lib.hid hsn
  have H0 := Lib.hid h0
  clear hck hcl hcn hsw hss hsl hce hse hsn h0
  generalize swF ps hs k = S at *
  generalize swL ps hs k = SL at *
  generalize ps.length = np at *
  generalize hnh : hs.length = nh at *
  have Hnh := Lib.hid hnh
  clear hnh
  have hkn : (k : Int) < (nh : Int) := by omega
  have hkz : (0 : Int) ≤ (k : Int) := by omega
  have kb : Whole (w.alloc (.cells #[.slice A np c, .slice B nh d] 25)) w.heap.size #[.slice A np c, .slice B nh d] 25 := Whole.new rfl
  have b0 := kb.blk.at_ 0 rfl
  have b1 := kb.blk.at_ 1 rfl
  have bf := kb.blk.free
  have hx0 : Ext w (w.alloc (.cells #[.slice A np c, .slice B nh d] 25)) := (Ext.refl _).alloc _
  have Hx0 := Lib.hid hx0
  have Kb := Lib.hid kb
  clear kb hx0
  go_enter Try.func37, Try.ntmps37
  go_wp2_with (first
    | (go_at_call 30; refine (Hck.out _ Hx0.out).mono ?_; rintro e w1 ⟨rfl, hx1⟩; have hxx := Hx0.out.trans hx1; replace b0 : ∀ w', Ext w1 w' → _ := fun w' he => b0 w' (hx1.trans he); replace b1 : ∀ w', Ext w1 w' → _ := fun w' he => b1 w' (hx1.trans he); replace bf : ∀ (j : Nat) w', Ext w1 w' → _ := fun j w' he => bf j w' (hx1.trans he))
    | (go_at_call 69; refine (Hcn.out _ hxx).mono ?_; rintro e w2 ⟨g, c', rfl, ho2⟩; have hx2 := ho2.ext; replace b0 : ∀ w', Ext w2 w' → _ := fun w' he => b0 w' (hx2.trans he); replace b1 : ∀ w', Ext w2 w' → _ := fun w' he => b1 w' (hx2.trans he); replace bf : ∀ (j : Nat) w', Ext w2 w' → _ := fun j w' he => bf j w' (hx2.trans he)))
  have hxw : Ext w w2 := hxx.trans hx2
  have hK := Whole.ext Kb.out (hx1.trans hx2)
  have hH2 := ho2.since hxx
  have hS0 := hK.setCell 1 (.slice (some ⟨g, 0, none⟩) nh c')
  have hH0 := hH2.other (p := ⟨w.heap.size, 1, none⟩) (Nat.le_refl _) (hH2.ne_whole hK (by decide)) (.slice (some ⟨g, 0, none⟩) nh c')
  have hI0 : Own w (w2.setCell ⟨w.heap.size, 1, none⟩ (.slice (some ⟨g, 0, none⟩) nh c')) 3 1 (.slice none 0 0) (SL 0).length ((SL 0).map vint) := by rw [H0.out]; exact Own.nil' hH0.ext _ _
  have hgw : w.heap.size < g := by
    have h1 := ho2.ge
    have h2 := (Array.getElem?_eq_some_iff.1 (Whole.ext Kb.out hx1).h).1
    omega
  have Hgw := Lib.hid hgw
  generalize (w2.setCell ⟨w.heap.size, 1, none⟩ (.slice (some ⟨g, 0, none⟩) nh c')) = W2 at *
  clear hxw hK hH2 b0 b1 bf Hck Hcn Kb hx1 hx2 ho2 hxx H0 hgw
  go_loopw [27, 7] (fun i v wr => ∃ (m : Nat) (hs' : List Hg), m ≤ 36 ∧ i = .int .i64 m ∧ hs'.length = nh ∧ Hid (∀ n, setAng hs' k n = setAng hs k n) ∧ Whole wr w.heap.size #[.slice A np c, .slice (some ⟨g, 0, none⟩) nh c'] 25 ∧ Own w wr 85 5 (.slice (some ⟨g, 0, none⟩) nh c') nh (hs'.map Hg.cells).flatten ∧ Own w wr 3 1 v (SL m).length ((SL m).map vint)) (fun i _ _ => 36 - (intOf i).toNat)
  case atStart => exact ⟨0, hs, by omega, rfl, Hnh.out, Lib.hid fun _ => rfl, hS0, hH0, hI0⟩
  case round =>
    clear hS0 hH0 hI0
    obtain ⟨m, hs', hm, rfl, hl', he', hS, hH, hI⟩ := hrel
    by_cases ht : m < 36
    · have ht2 : (m : Int) < 36 := by omega
      obtain ⟨Y, y, rfl⟩ := hI.form
      have hgw := Hgw.out
      have s0 := hS.cell 0 rfl
      have s1 := hS.cell 1 rfl
      have hlen := Hg.cells_len hs'
      obtain ⟨x4, hx4⟩ : ∃ x4, ((hs'.map Hg.cells).flatten)[k * 5 + 4]? = some x4 := ⟨_, List.getElem?_eq_getElem (by omega)⟩
      have y4 := (hH.cell (j := k * 5 + 4) (by omega)).trans hx4
      have yf := hH.free (k * 5 + 4)
      have hS5 := hS.farCell (show w.heap.size ≠ g by omega) (k * 5 + 4) (.int .i64 m)
      have p0 := hS5.cell 0 rfl
      have p1 := hS5.cell 1 rfl
      have hgg : w.heap.size ≤ g := by omega
      have hH5 := hH.store (k * 5 + 4) (.int .i64 m)
      rw [Hce.out hs' hl' he'.out m] at hH5
      have hI5 := hI.other (p := ⟨g, k * 5 + 4, none⟩) hgg (fun e => hI.ne_own hH (by decide) rfl e) (.int .i64 m)
      have hcl := Hcl.out m ht (wr.setCell ⟨g, k * 5 + 4, none⟩ (.int .i64 m)) hH5.ext _ c' hH5.row
      have hsw := Hsw.out m
      have hss := Hss.out m
      have hsl := Hsl.out m
      have H5 := Lib.hid (And.intro hS5 (And.intro hH5 hI5))
      have Hcl' := Lib.hid hcl
      clear hcl Hcl Hsw Hss hS hH hI hS5 hH5 hI5 hx4 he' hgw hgg hlen
      cases hSm : S m with
      | false =>
        rw [hSm] at hsw hss
        have Hss := Lib.hid hss
        clear hss hSm
        generalize hN : (SL m).length = N at *
        have hN := Lib.hid hN
        generalize L m = M at *
        go_wp2_with (go_at_call 70; refine Hcl'.out.mono ?_; rintro e w5 ⟨X, x, rfl, hx5⟩; clear p0 p1)
        obtain ⟨hS5, hH5, hI5⟩ := H5.out
        go_roundw
        case rel =>
          refine ⟨m + 1, setAng hs k m, by omega, by go_num, Hsn.out _, Lib.hid (fun n => Hse.out _ _), hS5.ext hx5, hH5.later hx5, ?_⟩
          rw [Hss.out]
          have h6 := hI5.later hx5
          simp only [cond_false, List.append_nil]
          rw [hN.out]
          exact h6
        case measure => simp [intOf]; omega
      | true =>
        rw [hSm] at hsw hss
        have Hss := Lib.hid hss
        clear hss hSm
        generalize hN : (SL m).length = N at *
        have hN := Lib.hid hN
        generalize L m = M at *
        go_wp2_with (first
          | (go_at_call 70; refine Hcl'.out.mono ?_; rintro e w5 ⟨X, x, rfl, hx5⟩; clear p0 p1; have hI6 := ((H5.out.2.2.later hx5).alloc (.cells #[.int .i64 m] 3)); have hr6 : Row (w5.alloc (.cells #[.int .i64 m] 3)) (some ⟨w5.heap.size, 0, none⟩) [vint m] := row_heap (heap_alloc_new _ _))
          | (refine own_append_src (w1 := w) int_elem rfl _ _ 30 rfl Try.underlying30 _ N _ rfl hI6 _ 1 1 _ rfl rfl hr6 (by intro u hu; simp at hu; subst hu; rfl) (by omega) (by unfold maxLen; omega) ?_; intro v' w6 ho6 hg6))
        obtain ⟨hS5, hH5, hI5⟩ := H5.out
        go_roundw
        case rel =>
          refine ⟨m + 1, setAng hs k m, by omega, by go_num, Hsn.out _, Lib.hid (fun n => Hse.out _ _), ((hS5.ext hx5).ext ((Ext.refl _).alloc _)).grown hg6 (fun e => hI5.ne_whole hS5 (by decide) e.symm), ((hH5.later hx5).alloc _).grown hg6 ho6.ext (fun g e1 e2 => hH5.ne_own hI5 (by decide) e2.symm e1), ?_⟩
          rw [Hss.out]
          rw [← hN.out] at ho6
          simpa using ho6
        case measure => simp [intOf]; omega
    · obtain rfl : m = 36 := by omega
      have HI := Lib.hid hI
      clear hI hH hS Hcl Hsw Hss
      generalize hN : (SL 36).length = N at *
      have hN := Lib.hid hN
      go_wp2
      go_ret2
      exact ⟨_, rfl, by show Own _ _ _ _ _ (SL 36).length _; rw [hN.out]; exact HI.out⟩
end Go.Proofs.Yteilglljigjefaa

/- The reference's Swings. -/
namespace Go.Proofs.Yteilglljigjefaa
open Go.RowKit
set_option maxRecDepth 100000 in
set_option maxHeartbeats 16000000 in
theorem swings_ref_good (A : Option Addr) (c : Nat) (ps : List (List Sp)) (B : Option Addr) (d : Nat) (hs : List Hg) (k : Nat) (w : World) (hL : Lk w A ps B hs) (hl : linkP ps hs) (hk : k < hs.length) :
    Calls Try.prog 38 #[.agg #[.slice A ps.length c, .slice B hs.length d], .int .i64 k] w fun e w' => ∃ v, e = .returned (.tuple #[v, .int .i64 0]) ∧ OwnI w w' v (swL ps hs k 36) := by
  have hck := fun w' (he : Ext w w') => (hL.ext he).valid c d
  have hlb : ∀ hs', linkP ps hs' → linkB ps hs' = true ∧ checkE ps hs' = 0 := fun hs' h => by
    rcases linkB_eq (ps := ps) (hs := hs') with ⟨_, h1, h2⟩ | ⟨h1, _⟩
    · exact ⟨h1, h2⟩
    · exact absurd h h1
  rw [(hlb hs hl).1] at hck
  have hcl := fun (n : Nat) (hn : n < 36) (w2 : World) (he : Ext w w2) (B1 : Option Addr) (d1 : Nat) (ho : HRow w2 B1 (setAng hs k n)) => (clashes_ref A c ps B1 d1 (setAng hs k n) w2 ⟨hL.hA.ext he, ho, hL.np, by rw [setAng_len]; exact hL.nh, hL.hp⟩).mono (R' := fun e w' => ∃ X x, e = .returned (.tuple #[.slice X (refC (clF ps (setAng hs k n)) ps.length ps.length).length x, .int .i64 0]) ∧ Ext w2 w') fun e w' ⟨v, he, ho⟩ => by
    have h2 := hlb _ (setAng_link hl hk hn)
    unfold pairsR at ho
    rw [if_pos h2.1] at ho
    rw [h2.2] at he
    obtain ⟨X, x, rfl⟩ := ho.form
    exact ⟨X, x, he, ho.ext⟩
  have hbe := fun (n : Nat) (w2 : World) (he : Ext w w2) => (bent_any A c ps B d hs k n w2 (hL.ext he) hk).mono (R' := fun e w' => ∃ B1 d1, e = .returned (.agg #[.slice A ps.length c, .slice B1 hs.length d1]) ∧ HRow w' B1 (setAng hs k n) ∧ Ext w2 w') fun e w' ⟨B1, d1, he, ho⟩ => ⟨B1, d1, he, OwnH.row ho, ho.ext⟩
  simp only [setAng_len] at hcl
  have hsw := fun n => swF_len (ps := ps) (hs := hs) (k := k) (n := n)
  have hss := fun n => swL_succ ps hs k n
  have hsl := fun n => swL_len ps hs k n
  have h0 : swL ps hs k 0 = [] := rfl
  obtain ⟨L, hLd⟩ : ∃ L : Nat → Nat, L = fun (n : Nat) => (refC (clF ps (setAng hs k n)) ps.length ps.length).length := ⟨_, rfl⟩
  have e : ∀ n : Nat, (refC (clF ps (setAng hs k n)) ps.length ps.length).length = L n := fun n => by rw [hLd]
  simp only [e] at hcl hsw
  have hwi : withinB (k : Int) 0 ((hs.length : Int) - 1) = true := by rw [withinB_true]; omega
  have hww : IntKind.i64.wrap ((hs.length : Int) - 1) = (hs.length : Int) - 1 := by have := hL.nh; rw [IntKind.wrap_i64]; omega
  clear e hLd hL hl hlb
  have Hck := Lib.hid hck
  have Hcl := Lib.hid hcl
  have Hbe := Lib.hid hbe
  have Hsw := Lib.hid hsw
  have Hss := Lib.hid hss
  have Hsl := Lib.hid hsl
  have H0 := Lib.hid h0
  have Hwi := Lib.hid hwi
  clear hck hcl hbe hsw hss hsl h0 hwi
  generalize (setAng hs k) = F at *
  generalize swF ps hs k = S at *
  generalize swL ps hs k = SL at *
  generalize ps.length = np at *
  generalize hs.length = nh at *
  have kb : Blk (w.alloc (.cells #[.slice A np c, .slice B nh d] 25)) w.heap.size [.slice A np c, .slice B nh d] := Blk.new _ _
  have b0 := kb.at_ 0 rfl
  have b1 := kb.at_ 1 rfl
  have hx0 : Ext w (w.alloc (.cells #[.slice A np c, .slice B nh d] 25)) := (Ext.refl _).alloc _
  have Hx0 := Lib.hid hx0
  clear kb hx0
  go_enter Try.func38, Try.ntmps38
  go_wp2_with (first
    | (go_at_call 65; refine (Hck.out _ Hx0.out).mono ?_; rintro e w1 ⟨rfl, hx1⟩; have hxx := Hx0.out.trans hx1; replace b0 : ∀ w', Ext w1 w' → _ := fun w' he => b0 w' (hx1.trans he); replace b1 : ∀ w', Ext w1 w' → _ := fun w' he => b1 w' (hx1.trans he))
    | (go_at_call 58; refine (within_any _ _ _ _).mono ?_; rw [Hwi.out]; rintro e w' ⟨rfl, rfl⟩))
  have hI0 : Own w1 w1 3 1 (.slice none 0 0) (SL 0).length ((SL 0).map vint) := by rw [H0.out]; exact Own.nil' (Ext.refl _) _ _
  go_loopw [7, 6] (fun i v wr => ∃ m : Nat, m ≤ 36 ∧ i = .int .i64 m ∧ Own w1 wr 3 1 v (SL m).length ((SL m).map vint)) (fun i _ _ => 36 - (intOf i).toNat)
  case atStart => exact ⟨0, by omega, rfl, hI0⟩
  case round =>
    clear hI0
    obtain ⟨m, hm, rfl, hI⟩ := hrel
    have hxr := hI.ext
    by_cases ht : m < 36
    · have ht2 : (m : Int) < 36 := by omega
      obtain ⟨Y, y, rfl⟩ := hI.form
      have c0 : ∀ w', Ext wr w' → _ := fun w' he => b0 w' (hxr.trans he)
      have c1 : ∀ w', Ext wr w' → _ := fun w' he => b1 w' (hxr.trans he)
      have HI := Lib.hid hI
      have Hxr := Lib.hid hxr
      have hcl := Hcl.out m ht
      have hbe := Hbe.out m wr (hxx.trans hxr)
      have hsw := Hsw.out m
      have hss := Hss.out m
      have hsl := Hsl.out m
      clear hI hxr Hcl Hbe Hsw Hss b0 b1
      have Hcl := Lib.hid hcl
      have Hbe := Lib.hid hbe
      clear hcl hbe
      cases hS : S m with
      | false =>
        rw [hS] at hsw hss
        have Hss := Lib.hid hss
        clear hss hS
        generalize hN : (SL m).length = N at *
        have hN := Lib.hid hN
        generalize L m = M at *
        go_wp2_with (first
          | (go_at_call 71; refine Hbe.out.mono ?_; rintro e w3 ⟨B1, d1, rfl, ho3, hx3⟩; have hx3' := (hxx.trans Hxr.out).trans hx3)
          | (go_at_call 40; refine (Hcl.out _ hx3' _ _ ho3).mono ?_; rintro e w4 ⟨X, x, rfl, hx4⟩))
        go_roundw
        case rel =>
          refine ⟨m + 1, by omega, by go_num, ?_⟩
          rw [Hss.out]
          simp only [cond_false, List.append_nil]
          rw [hN.out]
          exact (HI.out.later hx3).later hx4
        case measure => simp [intOf]; omega
      | true =>
        rw [hS] at hsw hss
        have Hss := Lib.hid hss
        clear hss hS
        generalize hN : (SL m).length = N at *
        have hN := Lib.hid hN
        generalize L m = M at *
        go_wp2_with (first
          | (go_at_call 71; refine Hbe.out.mono ?_; rintro e w3 ⟨B1, d1, rfl, ho3, hx3⟩; have hx3' := (hxx.trans Hxr.out).trans hx3)
          | (go_at_call 40; refine (Hcl.out _ hx3' _ _ ho3).mono ?_; rintro e w4 ⟨X, x, rfl, hx4⟩; have hI4 := (HI.out.later hx3).later hx4)
          | (at_builtin; refine own_append_int (w1 := w1) rfl _ _ rfl _ N _ rfl hI4 m rfl (by omega) ?_; intro v' w5 h5))
        go_roundw
        case rel =>
          refine ⟨m + 1, by omega, by go_num, ?_⟩
          rw [Hss.out]
          rw [← hN.out] at h5
          simpa using h5
        case measure => simp [intOf]; omega
    · obtain rfl : m = 36 := by omega
      have HI := Lib.hid hI
      clear hI Hcl Hbe Hsw Hss
      generalize hN : (SL 36).length = N at *
      have hN := Lib.hid hN
      go_wp2
      go_ret2
      exact ⟨_, rfl, by show Own _ _ _ _ _ (SL 36).length _; rw [hN.out]; exact HI.out.since hxx⟩
end Go.Proofs.Yteilglljigjefaa

/- Swings of any linkage: by both. -/
namespace Go.Proofs.Yteilglljigjefaa
open Go.RowKit
set_option maxRecDepth 100000 in
set_option maxHeartbeats 8000000 in
theorem swings_any (A : Option Addr) (c : Nat) (ps : List (List Sp)) (B : Option Addr) (d : Nat) (hs : List Hg) (x : Int) (w : World) (hL : Lk w A ps B hs) :
    Calls Try.prog 37 #[.agg #[.slice A ps.length c, .slice B hs.length d], .int .i64 x] w fun e w' => ∃ v, e = .returned (.tuple #[v, .int .i64 (swE ps hs x)]) ∧ OwnI w w' v (swR ps hs x) := by
  have hck := fun w' (he : Ext w w') => (hL.ext he).check c d
  rcases swE_cases ps hs x with ⟨k, rfl, h1, h2, h3, h4⟩ | ⟨h1, h2, h3, h4⟩ | ⟨h1, h3, h4⟩
  · rw [h3, h4]
    exact swings_good A c ps B d hs k w hL h2 h1
  · rw [h3, h4]
    rcases linkB_eq (ps := ps) (hs := hs) with ⟨_, _, h5⟩ | ⟨h5, _⟩
    case inr => exact absurd h1 h5
    rw [h5] at hck
    have Hck := Lib.hid hck
    clear hck hL h1 h3 h4 h5
    generalize ps.length = np at *
    generalize hs.length = nh at *
    have kb : Blk (w.alloc (.cells #[.slice A np c, .slice B nh d] 25)) w.heap.size [.slice A np c, .slice B nh d] := Blk.new _ _
    have b0 := kb.at_ 0 rfl
    have b1 := kb.at_ 1 rfl
    have hx0 : Ext w (w.alloc (.cells #[.slice A np c, .slice B nh d] 25)) := (Ext.refl _).alloc _
    have Hx0 := Lib.hid hx0
    clear kb hx0
    by_cases hx : x < 0
    · have d1 : decide (x < 0) = true := by simp [hx]
      clear h2
      go_enter Try.func37, Try.ntmps37
      go_wp2_with (go_at_call 30; refine (Hck.out _ Hx0.out).mono ?_; rintro e w1 ⟨rfl, hx1⟩; have hxx := Hx0.out.trans hx1; replace b0 : ∀ w', Ext w1 w' → _ := fun w' he => b0 w' (hx1.trans he); replace b1 : ∀ w', Ext w1 w' → _ := fun w' he => b1 w' (hx1.trans he))
      go_ret2
      exact ⟨_, rfl, Own.nil' hxx _ _⟩
    · have h5 : (nh : Int) ≤ x := by omega
      have h6 : 0 ≤ x := by omega
      clear h2 hx
      go_enter Try.func37, Try.ntmps37
      go_wp2_with (go_at_call 30; refine (Hck.out _ Hx0.out).mono ?_; rintro e w1 ⟨rfl, hx1⟩; have hxx := Hx0.out.trans hx1; replace b0 : ∀ w', Ext w1 w' → _ := fun w' he => b0 w' (hx1.trans he); replace b1 : ∀ w', Ext w1 w' → _ := fun w' he => b1 w' (hx1.trans he))
      go_ret2
      exact ⟨_, rfl, Own.nil' hxx _ _⟩
  · rw [h3, h4]
    rcases linkB_eq (ps := ps) (hs := hs) with ⟨h5, _⟩ | ⟨_, _, h5⟩
    case inl => exact absurd h5 h1
    rw [h5] at hck
    have Hck := Lib.hid hck
    clear hck hL h1 h3 h4 h5
    generalize ps.length = np at *
    generalize hs.length = nh at *
    have kb : Blk (w.alloc (.cells #[.slice A np c, .slice B nh d] 25)) w.heap.size [.slice A np c, .slice B nh d] := Blk.new _ _
    have b0 := kb.at_ 0 rfl
    have b1 := kb.at_ 1 rfl
    have hx0 : Ext w (w.alloc (.cells #[.slice A np c, .slice B nh d] 25)) := (Ext.refl _).alloc _
    have Hx0 := Lib.hid hx0
    clear kb hx0
    go_enter Try.func37, Try.ntmps37
    go_wp2_with (go_at_call 30; refine (Hck.out _ Hx0.out).mono ?_; rintro e w1 ⟨rfl, hx1⟩; have hxx := Hx0.out.trans hx1)
    go_ret2
    exact ⟨_, rfl, Own.nil' hxx _ _⟩
set_option maxRecDepth 100000 in
set_option maxHeartbeats 8000000 in
theorem swings_ref (A : Option Addr) (c : Nat) (ps : List (List Sp)) (B : Option Addr) (d : Nat) (hs : List Hg) (x : Int) (w : World) (hL : Lk w A ps B hs) :
    Calls Try.prog 38 #[.agg #[.slice A ps.length c, .slice B hs.length d], .int .i64 x] w fun e w' => ∃ v, e = .returned (.tuple #[v, .int .i64 (swE ps hs x)]) ∧ OwnI w w' v (swR ps hs x) := by
  have hck := fun w' (he : Ext w w') => (hL.ext he).valid c d
  have hnh := hL.nh
  rcases swE_cases ps hs x with ⟨k, rfl, h1, h2, h3, h4⟩ | ⟨h1, h2, h3, h4⟩ | ⟨h1, h3, h4⟩
  · rw [h3, h4]
    exact swings_ref_good A c ps B d hs k w hL h2 h1
  · rw [h3, h4]
    rcases linkB_eq (ps := ps) (hs := hs) with ⟨_, h5, _⟩ | ⟨h5, _⟩
    case inr => exact absurd h1 h5
    rw [h5] at hck
    have hwi : withinB x 0 ((hs.length : Int) - 1) = false := by rw [withinB_false]; omega
    have hww : IntKind.i64.wrap ((hs.length : Int) - 1) = (hs.length : Int) - 1 := by rw [IntKind.wrap_i64]; omega
    have Hck := Lib.hid hck
    have Hwi := Lib.hid hwi
    clear hck hL h1 h2 h3 h4 h5 hwi hnh
    generalize ps.length = np at *
    generalize hs.length = nh at *
    have kb : Blk (w.alloc (.cells #[.slice A np c, .slice B nh d] 25)) w.heap.size [.slice A np c, .slice B nh d] := Blk.new _ _
    have b0 := kb.at_ 0 rfl
    have b1 := kb.at_ 1 rfl
    have hx0 : Ext w (w.alloc (.cells #[.slice A np c, .slice B nh d] 25)) := (Ext.refl _).alloc _
    have Hx0 := Lib.hid hx0
    clear kb hx0
    go_enter Try.func38, Try.ntmps38
    go_wp2_with (first
      | (go_at_call 65; refine (Hck.out _ Hx0.out).mono ?_; rintro e w1 ⟨rfl, hx1⟩; have hxx := Hx0.out.trans hx1; replace b0 : ∀ w', Ext w1 w' → _ := fun w' he => b0 w' (hx1.trans he); replace b1 : ∀ w', Ext w1 w' → _ := fun w' he => b1 w' (hx1.trans he))
      | (go_at_call 58; refine (within_any _ _ _ _).mono ?_; rw [Hwi.out]; rintro e w' ⟨rfl, rfl⟩))
    go_ret2
    exact ⟨_, rfl, Own.nil' hxx _ _⟩
  · rw [h3, h4]
    rcases linkB_eq (ps := ps) (hs := hs) with ⟨h5, _⟩ | ⟨_, h5, _⟩
    case inl => exact absurd h5 h1
    rw [h5] at hck
    have Hck := Lib.hid hck
    clear hck hL h1 h3 h4 h5 hnh
    generalize ps.length = np at *
    generalize hs.length = nh at *
    have kb : Blk (w.alloc (.cells #[.slice A np c, .slice B nh d] 25)) w.heap.size [.slice A np c, .slice B nh d] := Blk.new _ _
    have b0 := kb.at_ 0 rfl
    have b1 := kb.at_ 1 rfl
    have hx0 : Ext w (w.alloc (.cells #[.slice A np c, .slice B nh d] 25)) := (Ext.refl _).alloc _
    have Hx0 := Lib.hid hx0
    clear kb hx0
    go_enter Try.func38, Try.ntmps38
    go_wp2_with (go_at_call 65; refine (Hck.out _ Hx0.out).mono ?_; rintro e w1 ⟨rfl, hx1⟩; have hxx := Hx0.out.trans hx1)
    go_ret2
    exact ⟨_, rfl, Own.nil' hxx _ _⟩
theorem swR_len (ps : List (List Sp)) (hs : List Hg) (x : Int) : (swR ps hs x).length ≤ 36 := by
  unfold swR
  split
  · split
    · exact swL_len _ _ _ _
    · simp
  · simp
end Go.Proofs.Yteilglljigjefaa
