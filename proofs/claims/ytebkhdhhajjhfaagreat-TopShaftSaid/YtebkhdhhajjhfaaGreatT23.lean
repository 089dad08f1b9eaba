/- The pose that follows: by the reference. -/
import Derived.Test.YtebkhdhhajjhfaaGreatT22
import Derived.Deep.WholeRow
import Derived.Test.YtebkhdhhajjhfaaGreatT18
namespace Go.Proofs.YtebkhdhhajjhfaaGreat
open Go.RowKit
end Go.Proofs.YtebkhdhhajjhfaaGreat

/- The poses of a linkage, by both. -/
namespace Go.Proofs.YtebkhdhhajjhfaaGreat
open Go.RowKit
theorem pose_elem : ElemInfo 78 (.agg #[.int .i64 0, .int .i64 0, .int .i64 0, .int .i64 0, .int .i64 0]) 5 40 := ⟨info_parts (by kernel_rfl), rfl, by decide⟩
abbrev OwnP (w1 w : World) (v : Value) (xs : List Ps) : Prop := Own w1 w 78 5 v xs.length (xs.map Ps.cells).flatten
def posT (hs : List Hg) (k : Nat) : List Ps := (List.range (k + 1)).map (posF hs)
theorem posT_succ (hs : List Hg) (k : Nat) : posT hs (k + 1) = posT hs k ++ [posF hs (k + 1)] := by simp [posT, List.range_succ]
theorem posT_len (hs : List Hg) (k : Nat) : (posT hs k).length = k + 1 := by simp [posT]
theorem posT_at {hs : List Hg} {k i : Nat} (h : i ≤ k) : psA (posT hs k) i = posF hs i := by
  rw [psA_at (by rw [posT_len]; omega)]
  simp [posT]
theorem posT_all (hs : List Hg) : posT hs hs.length = posesL hs := rfl
theorem row_heap {w : World} {b : Nat} {l : List Value} {t : TypeId} (h : w.heap[b]? = some (.cells l.toArray t)) : Row w (some ⟨b, 0, none⟩) l := fun k hk => ⟨_, rfl, by rw [add_zero', cell_heap h]; simp⟩
theorem posF_step {hs : List Hg} {k : Nat} (_ : k < hs.length) : posF hs (k + 1) = flw (posF hs k) (hgA hs k) (trn (hgA hs k).ang.toNat) := rfl

set_option maxRecDepth 100000 in
set_option maxHeartbeats 4000000 in
theorem poses_any (A : Option Addr) (np c : Nat) (B : Option Addr) (d : Nat) (hs : List Hg) (w : World) (hB : HRow w B hs) (hl : hs.length ≤ 3) (hh : ∀ h ∈ hs, hingeB h) :
    Calls Tryz.prog 61 #[.agg #[.slice A np c, .slice B hs.length d]] w fun e w' => ∃ v, e = .returned v ∧ OwnP w w' v (posesL hs) := by
  have ha := fun k (hk : k < hs.length) => hB.at_ hk
  have hok := fun k (hk : k ≤ hs.length) => posF_ok hh k hk
  have hhg := fun k (hk : k < hs.length) => by have := hh _ (List.getElem_mem hk); rw [← hgA_at hk] at this; exact this
  have hst := fun k (hk : k < hs.length) => posF_step hk
  have hsu := posT_succ hs
  have hln := posT_len hs
  have hat := fun k => posT_at (hs := hs) (k := k) (i := k) (Nat.le_refl _)
  have hall := posT_all hs
  have hcf := fun (p : Ps) (h : Hg) (n k : Nat) (w' : World) (h1 : PoseOk p k) (h2 : k ≤ 2) (h3 : hingeB h) (h4 : n < 36) => follow_any p h n k w' h1 h2 h3 h4
  have Ha := Lib.hid ha
  have Hok := Lib.hid hok
  have Hhg := Lib.hid hhg
  have Hst := Lib.hid hst
  have Hsu := Lib.hid hsu
  have Hln := Lib.hid hln
  have Hat := Lib.hid hat
  have Hall := Lib.hid hall
  have Hcf := Lib.hid hcf
  clear ha hok hhg hst hsu hln hat hall hcf hB hh
  generalize posesL hs = PL at *
  obtain ⟨n, hn⟩ : ∃ n, n = hs.length := ⟨_, rfl⟩
  rw [← hn] at Ha Hok Hhg Hst Hall hl ⊢
  have Hn := Lib.hid hn
  clear hn
  have kb0 : Blk (w.alloc (.cells #[.slice A np c, .slice B n d] 67)) w.heap.size [.slice A np c, .slice B n d] := Blk.new _ _
  have hx0 : Ext w (w.alloc (.cells #[.slice A np c, .slice B n d] 67)) := (Ext.refl _).alloc _
  have Kb0 := Lib.hid kb0
  have Hx0 := Lib.hid hx0
  clear kb0 hx0
  go_enter Tryz.func61, Tryz.ntmps61
  go_wp2_with (first
    | (go_at_call 92; refine (table_any _).mono ?_; rintro e w1 ⟨rfl, hx1⟩; have kb1 := Kb0.out.ext hx1; have b1 := (kb1.ext ((Ext.refl _).alloc (.cells (turns.flatMap tcells).toArray 198))).at_ 1 rfl)
    | (refine wpList_store_row rfl 198 (.tmp 3) (.tmp 7) rfl w1.heap.size (turns.flatMap tcells).toArray rfl rfl 198 Tryz.zeroCells198 (Go.heap_alloc_new _ _) (by kernel_rfl) (by kernel_rfl) (by kernel_rfl) ?_; rw [World.setRow_alloc_new]))
  have htab : TRow (w1.alloc (.cells (turns.flatMap tcells).toArray 198)) (some ⟨w1.heap.size, 0, none⟩) turns := Whole.row (Whole.new rfl) 0 _ (by kernel_rfl)
  have hown0 : Own (w1.alloc (.cells (turns.flatMap tcells).toArray 198)) ((w1.alloc (.cells (turns.flatMap tcells).toArray 198)).alloc (.cells #[.int .i64 1, .int .i64 0, .int .i64 0, .int .i64 0, .int .i64 1] 78)) 78 5 (.slice (some ⟨w1.heap.size + 1, 0, none⟩) 1 1) 1 ((posT hs 0).map Ps.cells).flatten := by
    have h := Own.lit (w1 := w1.alloc (.cells (turns.flatMap tcells).toArray 198)) (e := 78) (size := 5) (Ext.refl _) #[.int .i64 1, .int .i64 0, .int .i64 0, .int .i64 0, .int .i64 1] 1 (by unfold maxLen; omega) rfl
    have e : (w1.alloc (.cells (turns.flatMap tcells).toArray 198)).heap.size = w1.heap.size + 1 := by simp
    rw [e] at h
    exact h
  have hxt : Ext w (w1.alloc (.cells (turns.flatMap tcells).toArray 198)) := (Hx0.out.trans hx1).alloc _
  have htat := fun (m : Nat) (hm : m < 36) => TRow.at_ htab (k := m) hm
  have hcn : ∀ m, tAt turns m = trn m := fun _ => rfl
  simp only [hcn] at htat
  generalize (w1.alloc (.cells (turns.flatMap tcells).toArray 198)) = Wt at b1 htat hown0 hxt ⊢
  have Ht := Lib.hid htat
  have Hxt := Lib.hid hxt
  have B1 := Lib.hid b1
  generalize w1.heap.size = gt at Ht hown0 ⊢
  clear htab htat hxt hx1 kb1 b1 hcn Kb0 Hx0
  go_loopw [13, 4] (fun i v wr => ∃ k : Nat, k ≤ n ∧ i = .int .i64 k ∧ Own Wt wr 78 5 v (k + 1) ((posT hs k).map Ps.cells).flatten) (fun i _ _ => n - (intOf i).toNat)
  case atStart => exact ⟨0, by omega, rfl, hown0⟩
  case round =>
    obtain ⟨k, hk, rfl, hown⟩ := hrel
    obtain ⟨g4, c4, rfl, _, _⟩ := hown.at_ (by omega)
    by_cases hlt : k < n
    · have hxw := hown.ext
      have hrow : PRow wr (some ⟨g4, 0, none⟩) (posT hs k) := Own.row hown
      obtain ⟨_, ee, p0, p1, p2, p3, p4⟩ := hrow.at_ (k := k) (by rw [Hln.out]; omega)
      cases ee
      simp only [Hat.out k, add_zero'] at p0 p1 p2 p3 p4
      obtain ⟨ad, rfl, r0, r1, r2, r3, r4⟩ := Ha.out k hlt
      have hxr := Hxt.out.trans hxw
      have h0 : ∀ w', Ext wr w' → _ := fun w' he => r0 w' (hxr.trans he)
      have h1 : ∀ w', Ext wr w' → _ := fun w' he => r1 w' (hxr.trans he)
      have h2 : ∀ w', Ext wr w' → _ := fun w' he => r2 w' (hxr.trans he)
      have h3 : ∀ w', Ext wr w' → _ := fun w' he => r3 w' (hxr.trans he)
      have h4 : ∀ w', Ext wr w' → _ := fun w' he => r4 w' (hxr.trans he)
      clear r0 r1 r2 r3 r4
      have hh := Hhg.out k hlt
      have hok := Hok.out k (by omega)
      have hst := Hst.out k hlt
      generalize hgA hs k = h at h0 h1 h2 h3 h4 hh hst
      obtain ⟨m, hm⟩ : ∃ m : Nat, h.ang = m := ⟨h.ang.toNat, by have := hh.2.2; omega⟩
      have hm36 : m < 36 := by have := hh.2.2; omega
      rw [show h.ang.toNat = m by omega] at hst
      rw [hm] at h4
      have hfo := fun w' => Hcf.out (posF hs k) h m k w' hok (by omega) hh hm36
      rw [← hst] at hfo
      obtain ⟨_, ee, s0, s1, s2⟩ := Ht.out m hm36
      cases ee
      simp only [add_zero'] at s0 s1 s2
      have hval : h.val = .agg #[vint h.a.x, vint h.a.y, vint h.b.x, vint h.b.y, vint m] := by rw [← hm]
      rw [hval] at hfo
      have Hfo := Lib.hid hfo
      have Hst' := Lib.hid hst
      clear hfo hst hh hok hval hm
      generalize h.a.x = ax at h0 Hfo
      generalize h.a.y = ay at h1 Hfo
      generalize h.b.x = bx at h2 Hfo
      generalize h.b.y = bY at h3 Hfo
      have b36 : (m : Int) < 36 := by omega
      have hki : (k : Int) < (n : Int) := by omega
      have hk1 : (k : Int) < ((k + 1 : Nat) : Int) := by omega
      have b1 : ∀ w', Ext wr w' → _ := fun w' he => B1.out w' (hxw.trans he)
      have t0 : ∀ w', Ext wr w' → _ := fun w' he => s0 w' (hxw.trans he)
      have t1 : ∀ w', Ext wr w' → _ := fun w' he => s1 w' (hxw.trans he)
      have t2 : ∀ w', Ext wr w' → _ := fun w' he => s2 w' (hxw.trans he)
      clear s0 s1 s2 Ha Hok Hhg Hst Hcf Ht B1 Hxt
      go_wp2
      have k6 : Blk (wr.alloc (.cells #[vint ax, vint ay, vint bx, vint bY, vint m] 70)) wr.heap.size [vint ax, vint ay, vint bx, vint bY, vint m] := Blk.new _ _
      have hx6 : Ext wr (wr.alloc (.cells #[vint ax, vint ay, vint bx, vint bY, vint m] 70)) := (Ext.refl _).alloc _
      generalize (wr.alloc (.cells #[vint ax, vint ay, vint bx, vint bY, vint m] 70)) = w6 at k6 hx6 ⊢
      have hm0 : (0 : Int) ≤ (m : Int) := by omega
      have p0' : ∀ w', Ext w6 w' → _ := fun w' he => p0 w' (hx6.trans he)
      have p1' : ∀ w', Ext w6 w' → _ := fun w' he => p1 w' (hx6.trans he)
      have p2' : ∀ w', Ext w6 w' → _ := fun w' he => p2 w' (hx6.trans he)
      have p3' : ∀ w', Ext w6 w' → _ := fun w' he => p3 w' (hx6.trans he)
      have p4' : ∀ w', Ext w6 w' → _ := fun w' he => p4 w' (hx6.trans he)
      have t0' : ∀ w', Ext w6 w' → _ := fun w' he => t0 w' (hx6.trans he)
      have t1' : ∀ w', Ext w6 w' → _ := fun w' he => t1 w' (hx6.trans he)
      have t2' : ∀ w', Ext w6 w' → _ := fun w' he => t2 w' (hx6.trans he)
      have i0 := k6.at_ 0 rfl
      have i1 := k6.at_ 1 rfl
      have i2 := k6.at_ 2 rfl
      have i3 := k6.at_ 3 rfl
      have i4 := k6.at_ 4 rfl
      clear p0 p1 p2 p3 p4 t0 t1 t2 h0 h1 h2 h3 h4 b1
      refine wp_region_calm 12 (fun j _ v _ => j = 10 → v = (posF hs (k + 1)).val) (fun _ _ _ _ _ _ h => h) (by kernel_rfl) (by kernel_rfl) ?_
      simp only [List.take_succ_cons, List.take_zero, List.drop_succ_cons, List.drop_zero]
      refine calm_quiet calm_mono_final 10 (by kernel_rfl) ?_
      simp only [List.take_succ_cons, List.take_zero, List.drop_succ_cons, List.drop_zero]
      repeat (go_big_quiet_step (fail))
      refine wpQuiet_nil ?_
      refine calm_call calm_mono_final 93 #[(posF hs k).val, .agg #[vint ax, vint ay, vint bx, vint bY, vint m], tval (trn m)] rfl (fun w => ?_) (fun w he hF => ?_) ?_
      · go_simp
      · exact (Hfo.out w).mono fun e w'' ⟨he', hx⟩ => ⟨_, he', hx, fun _ => rfl⟩
      rintro _ _ _ h
      cases h rfl
      simp only [Act.put, List.setIfInBounds_toArray, List.set_cons_succ, List.set_cons_zero]
      refine calm_alloc calm_mono_final (fun b => .slice (some ⟨b, 0, none⟩) 1 1) (.cells (posF hs (k + 1)).cells.toArray 78) (fun b c h => by simpa using h) rfl (fun w => ?_) (fun b hb => ?_)
      · go_simp
        rfl
      simp only [Act.put, List.setIfInBounds_toArray, List.set_cons_succ, List.set_cons_zero]
      refine calm_nil fun w3 he3 hF => ?_
      have hrow3 := row_heap ((hF 11).2 rfl)
      clear hF
      have hov := hown.later (hx6.trans he3)
      have Hfl := Lib.hid (show ((posT hs (k + 1)).map Ps.cells).flatten = ((posT hs k).map Ps.cells).flatten ++ (posF hs (k + 1)).cells by rw [Hsu.out]; simp)
      go_wp2_with (refine own_append_src (w1 := Wt) pose_elem rfl _ _ 71 rfl Tryz.underlying71 _ (k + 1) _ rfl hov _ 1 1 _ rfl rfl hrow3 (by intro u hu; simp [Ps.cells] at hu; rcases hu with rfl | rfl | rfl | rfl | rfl <;> rfl) (by omega) (by unfold maxLen; omega) ?_; intro v' w' ho _)
      go_roundw
      case rel => exact ⟨k + 1, by omega, by go_num, by rw [Hfl.out]; exact ho⟩
      case measure => simp [intOf]; omega
    · obtain rfl : n = k := by omega
      have hall := Hall.out
      have hln := Hln.out n
      rw [hall] at hln hown
      have Hln' := Lib.hid hln
      have Hown := Lib.hid hown
      clear hall hln hown
      go_wp2
      go_ret
      refine ⟨_, rfl, ?_⟩
      show Own w wr _ 5 _ PL.length _
      rw [Hln'.out]
      exact Hown.out.since Hxt.out
end Go.Proofs.YtebkhdhhajjhfaaGreat

/- The poses of a linkage, by the reference. -/
namespace Go.Proofs.YtebkhdhhajjhfaaGreat
open Go.RowKit
end Go.Proofs.YtebkhdhhajjhfaaGreat

/- Places in their range: by both. -/
namespace Go.Proofs.YtebkhdhhajjhfaaGreat
open Go.RowKit
def spotD (s : Sp) : Bool := decide (spotB s)
theorem spotD_eq {s : Sp} {b : Bool} (h : b = true ↔ spotB s) : b = spotD s := by
  unfold spotD
  cases b <;> simp at h ⊢ <;> exact h
set_option maxHeartbeats 1000000 in
theorem far_any (s : Sp) (w : World) : Calls Tryz.prog 89 #[s.val] w fun e w' => e = .returned (.bool (!spotD s)) ∧ Ext w w' := by
  have hb : ∀ b : Bool, (b = true ↔ ¬ spotB s) → b = !spotD s := fun b h => by
    rw [← spotD_eq (s := s) (b := !b) (by cases b <;> simp at h ⊢ <;> exact h)]
    simp
  have Hb := Lib.hid hb
  clear hb
  obtain ⟨x, y⟩ := s
  generalize (!spotD ⟨x, y⟩) = R at Hb ⊢
  go_enter Tryz.func89, Tryz.ntmps89
  go_wp2
  all_goals go_ret
  all_goals refine ⟨ret_b (Hb.out _ ?_), (Ext.refl _).alloc _⟩
  all_goals simp only [spotB]
  all_goals simp
  all_goals omega
set_option maxHeartbeats 1000000 in
theorem index_far (A : Option Addr) (c : Nat) (l : List Sp) (w : World) (hA : SRow w A l) (hl : l.length ≤ 1000) :
    Calls Tryz.prog 127 #[.slice A l.length c, .func (.func 89) #[] #[]] w fun e w' => ∃ i : Int, e = .returned (.int .i64 i) ∧ (0 ≤ i ↔ ∃ k, k < l.length ∧ spotD (ptA l k) = false) ∧ Ext w w' := by
  have ha := fun k (hk : k < l.length) => hA.at_ hk
  have hc := fun (s : Sp) (w' : World) => far_any s w'
  have Ha := Lib.hid ha
  have Hc := Lib.hid hc
  clear ha hc hA
  generalize l.length = n at *
  go_enter Tryz.func127, Tryz.ntmps127
  go_wp2
  go_loopw [8] (fun i wr => ∃ k : Nat, k ≤ n ∧ i = .int .i64 k ∧ Ext w wr ∧ ∀ j, j < k → spotD (ptA l j) = true) (fun i _ => n - (intOf i).toNat)
  case atStart => exact ⟨0, by omega, rfl, Ext.refl _, fun j h => absurd h (by omega)⟩
  case round =>
    obtain ⟨k, hk, rfl, hex, hall⟩ := hrel
    have Hall := Lib.hid hall
    clear hall
    by_cases hlt : k < n
    · obtain ⟨ad, rfl, r0, r1⟩ := Ha.out k hlt
      have c0 : ∀ w', Ext wr w' → _ := fun w' he => r0 w' (hex.trans he)
      have c1 : ∀ w', Ext wr w' → _ := fun w' he => r1 w' (hex.trans he)
      have hcc := fun w' => Hc.out (ptA l k) w'
      have Hp := Lib.hid (show ∀ b, spotD (ptA l k) = b → spotD (ptA l k) = b from fun _ h => h)
      clear r0 r1 Ha Hc
      have hnx : spotD (ptA l k) = true → ∀ j, j < k + 1 → spotD (ptA l j) = true := fun h j hj => by
        by_cases e : j = k
        · subst e; exact h
        · exact Hall.out j (by omega)
      have hyes : spotD (ptA l k) = false → ∃ k, k < n ∧ spotD (ptA l k) = false := fun h => ⟨k, hlt, h⟩
      have Hnx := Lib.hid hnx
      have Hyes := Lib.hid hyes
      clear hnx hyes Hall Hp
      generalize ptA l k = s at c0 c1 hcc Hnx Hyes
      cases hs : spotD s
      · rw [hs] at hcc
        have Hcc := Lib.hid hcc
        have hy := Hyes.out hs
        have Hy := Lib.hid hy
        clear hcc hs hy Hnx Hyes
        go_wp2_with (go_at_call 89; refine (Hcc.out _).mono ?_; rintro e w5 ⟨rfl, hx5⟩)
        go_ret
        exact ⟨k, rfl, ⟨fun _ => Hy.out, fun _ => by omega⟩, hex.trans hx5⟩
      · rw [hs] at hcc
        have Hcc := Lib.hid hcc
        have hy := Hnx.out hs
        have Hy := Lib.hid hy
        clear hcc hs hy Hnx Hyes
        go_wp2_with (go_at_call 89; refine (Hcc.out _).mono ?_; rintro e w5 ⟨rfl, hx5⟩)
        go_roundw
        case rel => exact ⟨k + 1, by omega, by go_num, hex.trans hx5, Hy.out⟩
        case measure => simp [intOf]; omega
    · obtain rfl : n = k := by omega
      go_wp2
      go_ret
      exact ⟨-1, rfl, ⟨fun h => absurd h (by omega), fun ⟨j, h1, h2⟩ => by rw [Hall.out j h1] at h2; cases h2⟩, hex⟩
def smallB (l : List Sp) : Bool := l.all spotD
theorem smallB_iff {l : List Sp} {i : Int} (h : 0 ≤ i ↔ ∃ k, k < l.length ∧ spotD (ptA l k) = false) : decide (0 ≤ i) = !smallB l := by
  by_cases hi : 0 ≤ i
  · obtain ⟨k, hk, hf⟩ := h.1 hi
    rw [decide_eq_true hi]
    have : smallB l = false := by
      unfold smallB
      rw [List.all_eq_false]
      exact ⟨ptA l k, by rw [ptA_at hk]; exact List.getElem_mem hk, by simp [hf]⟩
    rw [this]; rfl
  · rw [decide_eq_false hi]
    have : smallB l = true := by
      unfold smallB
      rw [List.all_eq_true]
      intro s hs
      obtain ⟨k, hk, rfl⟩ := List.getElem_of_mem hs
      cases e : spotD l[k]
      · exact absurd (h.2 ⟨k, hk, by rw [ptA_at hk]; exact e⟩) hi
      · rfl
    rw [this]; rfl
theorem smallB_spec {l : List Sp} : smallB l = true ↔ ∀ s ∈ l, spotB s := by simp [smallB, spotD]
set_option maxHeartbeats 1000000 in
theorem small_any (A : Option Addr) (c : Nat) (l : List Sp) (w : World) (hA : SRow w A l) (hl : l.length ≤ 1000) :
    Calls Tryz.prog 54 #[.slice A l.length c] w fun e w' => e = .returned (.bool (smallB l)) ∧ Ext w w' := by
  have hc := fun (w' : World) (he : Ext w w') => index_far A c l w' (hA.ext he) hl
  have hd := fun (i : Int) (h : 0 ≤ i ↔ ∃ k, k < l.length ∧ spotD (ptA l k) = false) => smallB_iff h
  have Hc := Lib.hid hc
  have Hd := Lib.hid hd
  clear hc hd hA
  generalize smallB l = S at *
  have cc : ∀ w' : World, Ext w w' → Calls Tryz.prog 88 #[.slice A l.length c, .func (.func 89) #[] #[]] w' fun e w'' => e = .returned (.bool (!S)) ∧ Ext w' w'' := fun w' he => by
    have hq := Hc.out w' he
    have Hq := Lib.hid hq
    clear hq Hc
    generalize l.length = n at *
    go_enter Tryz.func88, Tryz.ntmps88
    go_wp2_with (go_at_call 127; refine Hq.out.mono ?_; rintro e w1 ⟨i, rfl, hi, h1⟩; have Hi := Lib.hid hi; clear hi)
    go_ret
    exact ⟨ret_b (Hd.out _ Hi.out), h1⟩
  have Cc := Lib.hid cc
  clear cc Hc Hd
  generalize l.length = n at *
  go_enter Tryz.func54, Tryz.ntmps54
  go_wp2_with (go_at_call 88; refine (Cc.out _ (Ext.refl _)).mono ?_; rintro e w1 ⟨rfl, h1⟩)
  go_ret
  exact ⟨ret_b (by simp), h1⟩
end Go.Proofs.YtebkhdhhajjhfaaGreat

/- The corners of a panel with a pose, by the code. -/
namespace Go.Proofs.YtebkhdhhajjhfaaGreat
open Go.RowKit
theorem corner_elem : ElemInfo 137 (.agg #[.int .i64 0, .int .i64 0, .int .i64 0]) 3 24 := ⟨info_parts (by kernel_rfl), rfl, by decide⟩
abbrev OwnC (w1 w : World) (v : Value) (xs : List Cn) : Prop := Own w1 w 137 3 v xs.length (xs.map Cn.cells).flatten
theorem set_three (pre post : List Value) (m : Nat) (h : pre.length = m) (x y z a b c : Value) : (((pre ++ x :: y :: z :: post).set m a).set (m + 1) b).set (m + 2) c = pre ++ a :: b :: c :: post := by
  subst h
  rw [List.set_append_right _ _ (Nat.le_refl _), List.set_append_right _ _ (by omega), List.set_append_right _ _ (by omega)]
  simp
/-- The first k corners, and then zeros. -/
def fillC (l : List Cn) (k : Nat) : List Value := ((l.take k).map Cn.cells).flatten ++ List.replicate ((l.length - k) * 3) (vint 0)
theorem fillC_len (l : List Cn) {k : Nat} (hk : k ≤ l.length) : (fillC l k).length = l.length * 3 := by
  unfold fillC
  rw [List.length_append, Cn.cells_len, List.length_take, List.length_replicate, ← Nat.add_mul]
  congr 1
  omega
theorem fillC_set (l : List Cn) {k : Nat} (hk : k < l.length) {c : Cn} (hc : cAt l k = c) : (((fillC l k).set (k * 3) (vint c.at_.x)).set (k * 3 + 1) (vint c.at_.y)).set (k * 3 + 2) (vint c.d) = fillC l (k + 1) := by
  have e : (l.length - k) * 3 = (l.length - (k + 1)) * 3 + 1 + 1 + 1 := by omega
  have hp : ((l.take k).map Cn.cells).flatten.length = k * 3 := by rw [Cn.cells_len, List.length_take]; congr 1; omega
  unfold fillC
  rw [e, List.replicate_succ, List.replicate_succ, List.replicate_succ, set_three _ _ _ hp, List.take_succ_eq_append_getElem hk]
  rw [cAt_at hk] at hc
  rw [hc]
  simp [Cn.cells]
theorem fillC_zero (l : List Cn) : (madeCells (Value.cells (.agg #[.int .i64 0, .int .i64 0, .int .i64 0])) (l.length * 3)).toList = fillC l 0 := by
  apply List.ext_getElem
  · simp [fillC, madeCells]
  · intro i h1 h2
    have h3 : i % 3 < 3 := Nat.mod_lt _ (by omega)
    rcases (by omega : i % 3 = 0 ∨ i % 3 = 1 ∨ i % 3 = 2) with h | h | h <;> simp [fillC, madeCells, Value.cells, h]
theorem fillC_all (l : List Cn) : fillC l l.length = (l.map Cn.cells).flatten := by simp [fillC]
theorem fillC_get (l : List Cn) {k j : Nat} (hk : k < l.length) (hj : j < 3) : ∃ v, (fillC l k)[k * 3 + j]? = some v := by
  have := fillC_len l (Nat.le_of_lt hk)
  exact ⟨_, List.getElem?_eq_getElem (by rw [this]; have : (k + 1) * 3 ≤ l.length * 3 := Nat.mul_le_mul_right _ hk; omega)⟩

set_option maxRecDepth 100000 in
set_option maxHeartbeats 4000000 in
theorem corners_any (p : Ps) (A : Option Addr) (c : Nat) (l : List Sp) (w : World) (hA : SRow w A l) (hl : l.length ≤ 1000) (hp : PsOk p) (hs : ∀ s ∈ l, spotB s) :
    Calls Tryz.prog 55 #[p.val, .slice A l.length c] w fun e w' => ∃ v, e = .returned v ∧ OwnC w w' v (crn p l) := by
  have ha := fun k (hk : k < l.length) => hA.at_ hk
  have hcf := fun k (hk : k < l.length) (w' : World) => place_any p (ptA l k) w' hp (by rw [ptA_at hk]; exact hs _ (List.getElem_mem hk))
  have hlen := crn_len p l
  have hset := fun k (hk : k < l.length) => fillC_set (crn p l) (k := k) (c := ⟨plc p (ptA l k), p.d⟩) (by rw [hlen]; exact hk) (by rw [cAt_at (by rw [hlen]; exact hk), crn_at])
  have hget := fun k (hk : k < l.length) j (hj : j < 3) => fillC_get (crn p l) (k := k) (j := j) (by rw [hlen]; exact hk) hj
  have hfl := fun k (hk : k ≤ l.length) => fillC_len (crn p l) (k := k) (by rw [hlen]; exact hk)
  have hz := fillC_zero (crn p l)
  have hall := fillC_all (crn p l)
  rw [hlen] at hz hall
  simp only [hlen] at hfl
  have Ha := Lib.hid ha
  have Hcf := Lib.hid hcf
  have Hset := Lib.hid hset
  have Hget := Lib.hid hget
  have Hfl := Lib.hid hfl
  have Hz := Lib.hid hz
  have Hall := Lib.hid hall
  have Hlen := Lib.hid hlen
  clear ha hcf hset hget hfl hz hall hlen hA hp hs
  generalize crn p l = C at *
  generalize l.length = n at *
  have k2 : Blk (w.alloc (.cells #[vint p.p, vint p.q, vint p.x, vint p.y, vint p.d] 78)) w.heap.size [vint p.p, vint p.q, vint p.x, vint p.y, vint p.d] := Blk.new _ _
  have hx0 : Ext w (w.alloc (.cells #[vint p.p, vint p.q, vint p.x, vint p.y, vint p.d] 78)) := (Ext.refl _).alloc _
  go_enter Tryz.func55, Tryz.ntmps55
  go_wp2_with (refine own_make (w1 := w) corner_elem rfl _ _ rfl Tryz.underlying134 _ n rfl rfl (by omega) (by unfold maxLen; omega) hx0 ?_; intro w2 hown hx2)
  have k22 := k2.ext hx2
  rw [Hz.out] at hown
  have hs1 : ((w.alloc (.cells #[vint p.p, vint p.q, vint p.x, vint p.y, vint p.d] 78))).heap.size = w.heap.size + 1 := by simp
  rw [hs1] at hown
  clear hs1 k2 hx0 hx2
  obtain ⟨g, hg⟩ : ∃ g, g = w.heap.size + 1 := ⟨_, rfl⟩
  rw [← hg] at hown ⊢
  have Hg := Lib.hid hg
  clear hg
  go_loopw [13] (fun i wr => ∃ k : Nat, k ≤ n ∧ i = .int .i64 k ∧ Own w wr 137 3 (.slice (some ⟨g, 0, none⟩) n n) n (fillC C k) ∧ Blk wr w.heap.size [vint p.p, vint p.q, vint p.x, vint p.y, vint p.d]) (fun i _ => n - (intOf i).toNat)
  case atStart => exact ⟨0, by omega, rfl, hown, k22⟩
  case round =>
    obtain ⟨k, hk, rfl, hown, k22⟩ := hrel
    by_cases hlt : k < n
    · obtain ⟨ad, rfl, r0, r1⟩ := Ha.out k hlt
      have hex := hown.ext
      have c0 : ∀ w', Ext wr w' → _ := fun w' he => r0 w' (hex.trans he)
      have c1 : ∀ w', Ext wr w' → _ := fun w' he => r1 w' (hex.trans he)
      have hset := Hset.out k hlt
      have hpl := Hcf.out k hlt
      have Hset' := Lib.hid hset
      have Hpl := Lib.hid hpl
      have hki : (k : Int) < (n : Int) := by omega
      clear r0 r1 hset hpl Ha Hset Hcf Hz
      generalize plc p (ptA l k) = z at Hset' Hpl
      generalize ptA l k = s at c0 c1 Hpl
      have HW := Lib.hid (And.intro hown k22)
      clear hown k22
      go_wp2
      have hx7 : Ext wr (wr.alloc (.cells #[vint s.x, vint s.y] 58)) := (Ext.refl _).alloc _
      have k7 : Blk (wr.alloc (.cells #[vint s.x, vint s.y] 58)) wr.heap.size [vint s.x, vint s.y] := Blk.new _ _
      generalize (wr.alloc (.cells #[vint s.x, vint s.y] 58)) = w7 at hx7 k7 ⊢
      have hown7 := HW.out.1.later hx7
      have k27 := HW.out.2.ext hx7
      have s0 := k7.at_ 0 rfl
      have s1 := k7.at_ 1 rfl
      have q0 := k27.at_ 0 rfl
      have q1 := k27.at_ 1 rfl
      have q2 := k27.at_ 2 rfl
      have q3 := k27.at_ 3 rfl
      have q4 := k27.at_ 4 rfl
      have Hown7 := Lib.hid hown7
      clear hown7 c0 c1
      refine Cg.wp_region_calm (p := Cg.extPre) (fr := (fun _ => false)) 8 (fun j _ v _ => j = 4 → v = z.val) (fun _ _ _ _ _ _ h => h) (by kernel_rfl) (by kernel_rfl) ?_
      simp only [List.take_succ_cons, List.take_zero, List.drop_succ_cons, List.drop_zero]
      refine Cg.calm_quiet Cg.calm_mono_final w7 (fun _ h => h) 4 (by kernel_rfl) ?_
      simp only [List.take_succ_cons, List.take_zero, List.drop_succ_cons, List.drop_zero]
      repeat (go_big_quiet_step (fail))
      refine wpQuiet_nil ?_
      refine Cg.calm_call Cg.calm_mono_final 90 #[p.val, s.val] rfl (fun w => ?_) (fun w he hF => ?_) ?_
      · go_simp
      · exact (Hpl.out w).mono fun e w'' ⟨he', hx⟩ => ⟨_, he', hx, fun _ => rfl, fun h => by cases h⟩
      rintro _ _ _ h _
      cases h rfl
      simp only [Act.put, List.setIfInBounds_toArray, List.set_cons_succ, List.set_cons_zero]
      refine Cg.calm_quiet Cg.calm_mono_final w7 (fun _ h => h) 2 (by kernel_rfl) ?_
      simp only [List.take_succ_cons, List.take_zero, List.drop_succ_cons, List.drop_zero]
      repeat (go_big_quiet_step (fail))
      refine wpQuiet_nil ?_
      refine Cg.calm_value Cg.calm_mono_final (fun v _ => v = .agg #[vint z.x, vint z.y, vint p.d]) (fun _ _ _ _ h => h) rfl (fun w' _ _ => ⟨.agg #[vint z.x, vint z.y, vint p.d], w', by go_simp, Ext.refl _, rfl, fun h => by cases h⟩) ?_
      rintro _ _ _ rfl _
      simp only [Act.put, List.setIfInBounds_toArray, List.set_cons_succ, List.set_cons_zero]
      refine Cg.calm_nil fun w3 he3 _ => ?_
      have he3 : Ext w7 w3 := he3
      have hown3 := Hown7.out.later he3
      have k23 := k27.ext he3
      obtain ⟨v0, g0⟩ := Hget.out k hlt 0 (by omega)
      obtain ⟨v1, g1⟩ := Hget.out k hlt 1 (by omega)
      obtain ⟨v2, g2⟩ := Hget.out k hlt 2 (by omega)
      have hfl := Hfl.out k (by omega)
      have e0 : w3.cell? ⟨g, k * 3, none⟩ = some v0 := (hown3.cell (j := k * 3) (by omega)).trans g0
      have e1 : w3.cell? ⟨g, k * 3 + 1, none⟩ = some v1 := (hown3.cell (j := k * 3 + 1) (by omega)).trans g1
      have e2 : w3.cell? ⟨g, k * 3 + 2, none⟩ = some v2 := (hown3.cell (j := k * 3 + 2) (by omega)).trans g2
      have hf := hown3.free
      have hown4 := ((hown3.store (k * 3) (vint z.x)).store (k * 3 + 1) (vint z.y)).store (k * 3 + 2) (vint p.d)
      rw [Hset'.out] at hown4
      have hgne : g ≠ w.heap.size := by have := Hg.out; omega
      have k24 := ((k23.other (b := g) (k := k * 3) hgne (vint z.x)).other (b := g) (k := k * 3 + 1) hgne (vint z.y)).other (b := g) (k := k * 3 + 2) hgne (vint p.d)
      have H4 := Lib.hid (And.intro hown4 k24)
      clear hown4 k24 hown3 k23 g0 g1 g2 hfl s0 s1 q0 q1 q2 q3 q4 k27 k7
      go_wp2
      go_roundw
      case rel => exact ⟨k + 1, by omega, by go_num, H4.out.1, H4.out.2⟩
      case measure => simp [intOf]; omega
    · obtain rfl : n = k := by omega
      have hall := Hall.out
      rw [hall] at hown
      have Hown := Lib.hid hown
      clear hall hown
      go_wp2
      go_ret
      refine ⟨_, rfl, ?_⟩
      show Own w wr _ 3 _ C.length _
      rw [Hlen.out]
      exact Hown.out
end Go.Proofs.YtebkhdhhajjhfaaGreat

/- Panels in their own plane. Plain Lean. -/
namespace Go.Proofs.YtebkhdhhajjhfaaGreat
theorem plc_pose0 (s : Sp) : plc pose0 s = s := by simp [plc, pose0]
theorem crn_edge {p : Ps} {l : List Sp} (hp : PoseOk p 3) (hs : ∀ s ∈ l, spotB s) : ∀ i (hi : i < (crn p l).length) k (hk : k < (crn p l).length), EdgeOk (crn p l)[i] (crn p l)[k] := by
  have hc : ∀ s, spotB s → CnOk ⟨plc p s, p.d⟩ := fun s hs => ⟨(pose_small hp).1, (plc_small hp hs).1, (plc_small hp hs).2⟩
  intro i hi k hk
  rw [crn_at hi, crn_at hk]
  rw [crn_len] at hi hk
  have h1 : spotB (ptA l i) := by rw [ptA_at hi]; exact hs _ (List.getElem_mem hi)
  have h2 : spotB (ptA l k) := by rw [ptA_at hk]; exact hs _ (List.getElem_mem hk)
  exact ⟨hc _ h1, hc _ h2, (edge_small hp h1 h2).1, (edge_small hp h1 h2).2, rfl⟩
theorem cAt_crn {p : Ps} {l : List Sp} {k : Nat} (hk : k < l.length) : cAt (crn p l) k = ⟨plc p (ptA l k), p.d⟩ := by rw [cAt_at (by rw [crn_len]; exact hk), crn_at]
theorem cAt_crn0 {l : List Sp} {k : Nat} (hk : k < l.length) : cAt (crn pose0 l) k = ⟨ptA l k, 1⟩ := by rw [cAt_crn hk, plc_pose0]; rfl
theorem side_sd (a b c : Sp) : sideC ⟨a, 1⟩ ⟨b, 1⟩ ⟨c, 1⟩ = sd a b c := by unfold sideC sideS sd; simp
def panelE (l : List Sp) : Int := if panelB l = true then 0 else 50
theorem panelE_bad {l : List Sp} (h : ¬ panelP l) : (50 : Int) = panelE l := by simp [panelE, panelB, h]
theorem panelE_good {l : List Sp} (h : panelP l) : (0 : Int) = panelE l := by simp [panelE, panelB, h]
end Go.Proofs.YtebkhdhhajjhfaaGreat

/- A panel is valid: by the code. -/
namespace Go.Proofs.YtebkhdhhajjhfaaGreat
open Go.RowKit
set_option maxRecDepth 100000 in
set_option maxHeartbeats 4000000 in
theorem check_bad (A : Option Addr) (c : Nat) (l : List Sp) (w : World) (hA : SRow w A l) (hl : l.length ≤ 1000) (hbad : ¬ (3 ≤ l.length ∧ l.length ≤ 8 ∧ ∀ s ∈ l, spotB s)) :
    Calls Tryz.prog 18 #[.slice A l.length c] w fun e w' => e = .returned (.int .i64 50) ∧ Ext w w' := by
  have cs := fun w' (he : Ext w w') => small_any A c l w' (hA.ext he) hl
  have hb : 3 ≤ l.length → l.length ≤ 8 → smallB l = false := fun h1 h2 => by
    cases h : smallB l
    · rfl
    · exact absurd ⟨h1, h2, smallB_spec.1 h⟩ hbad
  have Cs := Lib.hid cs
  have Hb := Lib.hid hb
  clear cs hb hbad hA
  generalize smallB l = S at *
  generalize l.length = n at *
  by_cases h1 : n < 3
  · have d1 : decide ((n : Int) < 3) = true := by simp; omega
    go_enter Tryz.func18, Tryz.ntmps18
    go_wp2
    go_ret
    exact ⟨rfl, Ext.refl _⟩
  · have d1 : decide ((n : Int) < 3) = false := by simp; omega
    by_cases h2 : 8 < n
    · have d2 : decide ((8 : Int) < (n : Int)) = true := by simp; omega
      go_enter Tryz.func18, Tryz.ntmps18
      go_wp2
      go_ret
      exact ⟨rfl, Ext.refl _⟩
    · have d2 : decide ((8 : Int) < (n : Int)) = false := by simp; omega
      have hS := Hb.out (by omega) (by omega)
      subst hS
      go_enter Tryz.func18, Tryz.ntmps18
      go_wp2_with (go_at_call 54; refine (Cs.out _ (Ext.refl _)).mono ?_; rintro e w1 ⟨rfl, h1⟩)
      go_ret
      exact ⟨rfl, h1⟩
set_option maxRecDepth 100000 in
set_option maxHeartbeats 8000000 in
theorem check_good (A : Option Addr) (c : Nat) (l : List Sp) (w : World) (hA : SRow w A l) (h3 : 3 ≤ l.length) (h8 : l.length ≤ 8) (hs : ∀ s ∈ l, spotB s) :
    Calls Tryz.prog 18 #[.slice A l.length c] w fun e w' => e = .returned (.int .i64 (panelE l)) ∧ Ext w w' := by
  have cs := fun w' (he : Ext w w') => small_any A c l w' (hA.ext he) (by omega)
  rw [smallB_spec.2 hs] at cs
  have hp0 : PoseOk pose0 3 := pose_mono pose0_ok (by omega)
  have cc := fun w' (he : Ext w w') => corners_any pose0 A c l w' (hA.ext he) (by omega) (psOk hp0) hs
  have hlen := crn_len pose0 l
  have hed := crn_edge hp0 hs
  have hD : ∀ i, i < l.length → ∀ k, k < l.length → ∀ w' : World, Calls Tryz.prog 56 #[(cAt (crn pose0 l) i).val, (cAt (crn pose0 l) ((i + 1) % l.length)).val, (cAt (crn pose0 l) k).val] w' fun e w'' => e = .returned (.int .i64 (sd (ptA l i) (ptA l ((i + 1) % l.length)) (ptA l k))) ∧ Ext w' w'' := fun i hi k hk w' => by
    have hi1 : (i + 1) % l.length < l.length := Nat.mod_lt _ (by omega)
    have e1 := hed i (by rw [hlen]; exact hi) _ (by rw [hlen]; exact hi1)
    have e2 := (hed k (by rw [hlen]; exact hk) k (by rw [hlen]; exact hk)).ca
    rw [← cAt_at, ← cAt_at] at e1
    rw [← cAt_at] at e2
    have := side_any _ _ _ w' e1 e2
    rw [show sideC (cAt (crn pose0 l) i) (cAt (crn pose0 l) ((i + 1) % l.length)) (cAt (crn pose0 l) k) = sd (ptA l i) (ptA l ((i + 1) % l.length)) (ptA l k) by rw [cAt_crn0 hi, cAt_crn0 hi1, cAt_crn0 hk, side_sd]] at this
    exact this
  have good : (∀ i, i < l.length → ∀ k, k < l.length → cvxAt l i k) → (0 : Int) = panelE l := fun h => panelE_good ⟨⟨h3, h8⟩, hs, h⟩
  have bad : ∀ i, i < l.length → ∀ k, k < l.length → ¬ cvxAt l i k → (50 : Int) = panelE l := fun i hi k hk h => panelE_bad fun hp => h (hp.2.2 i hi k hk)
  have hcv : ∀ i k, cvxAt l i k ↔ (k ≠ i → k ≠ (i + 1) % l.length → 0 < sd (ptA l i) (ptA l ((i + 1) % l.length)) (ptA l k)) := fun _ _ => Iff.rfl
  have Cs := Lib.hid cs
  have Cc := Lib.hid cc
  have HD := Lib.hid hD
  have Good := Lib.hid good
  have Bad := Lib.hid bad
  have Hcv := Lib.hid hcv
  have Hlen := Lib.hid hlen
  clear cs cc hD good bad hcv hlen hed hp0 hs hA
  generalize crn pose0 l = C at Cc HD Hlen
  generalize panelE l = E at Good Bad ⊢
  generalize l.length = n at *
  have d1 : decide ((n : Int) < 3) = false := by simp; omega
  have d2 : decide ((8 : Int) < (n : Int)) = false := by simp; omega
  go_enter Tryz.func18, Tryz.ntmps18
  go_wp2_with (first
    | (go_at_call 54; refine (Cs.out _ (Ext.refl _)).mono ?_; rintro e w1 ⟨rfl, h1⟩)
    | (go_at_call 55; refine (Cc.out _ h1).mono ?_; rintro e wc ⟨v, rfl, hown0⟩; have hown := hown0; unfold OwnC at hown; rw [Hlen.out] at hown; clear hown0; obtain ⟨g, cg, rfl, _, _⟩ := hown.at_ (by omega)))
  have hrow : CRow wc (some ⟨g, 0, none⟩) C := Own.row hown
  have hxc := h1.trans hown.ext
  have hat := fun k (hk : k < n) => hrow.at_ (k := k) (by rw [Hlen.out]; exact hk)
  have Hat := Lib.hid hat
  have Hxc := Lib.hid hxc
  clear hrow hxc hat hown h1 Cs Cc
  go_loopw [27] (fun i wr => ∃ k : Nat, k ≤ n ∧ i = .int .i64 k ∧ Ext wc wr ∧ ∀ i, i < k → ∀ k, k < n → cvxAt l i k) (fun i _ => n - (intOf i).toNat)
  case atStart => exact ⟨0, by omega, rfl, Ext.refl _, fun i h => absurd h (by omega)⟩
  case round =>
    obtain ⟨i, hi, rfl, hex, hall⟩ := hrel
    have Hall := Lib.hid hall
    clear hall
    by_cases hlt : i < n
    · obtain ⟨_, ee, a0, a1, a2⟩ := Hat.out i hlt
      cases ee
      obtain ⟨_, ee, m0, m1, m2⟩ := Hat.out ((i + 1) % n) (Nat.mod_lt _ (by omega))
      cases ee
      simp only [add_zero'] at a0 a1 a2 m0 m1 m2
      have hi1 := Nat.mod_lt (i + 1) (show 0 < n by omega)
      have q0 : ∀ w', Ext wr w' → _ := fun w' he => a0 w' (hex.trans he)
      have q1 : ∀ w', Ext wr w' → _ := fun w' he => a1 w' (hex.trans he)
      have q2 : ∀ w', Ext wr w' → _ := fun w' he => a2 w' (hex.trans he)
      have r0 : ∀ w', Ext wr w' → _ := fun w' he => m0 w' (hex.trans he)
      have r1 : ∀ w', Ext wr w' → _ := fun w' he => m1 w' (hex.trans he)
      have r2 : ∀ w', Ext wr w' → _ := fun w' he => m2 w' (hex.trans he)
      clear a0 a1 a2 m0 m1 m2
      have hd := HD.out i hlt
      have hcv := Hcv.out i
      have hbd := Bad.out i hlt
      have e2 : ((i : Int) + 1).tmod (n : Int) = (((i + 1) % n : Nat) : Int) := by
        rw [Int.tmod_eq_emod_of_nonneg (by omega)]; exact (by push_cast; rfl)
      have e3 : ((n : Int) = 0) = False := by simp; omega
      have Hd := Lib.hid hd
      have Hcv' := Lib.hid hcv
      have Hbd := Lib.hid hbd
      clear hd hcv hbd HD Hcv Bad
      generalize (i + 1) % n = i1 at *
      have b1 : (i1 : Int) < (n : Int) := by omega
      have b2 : (i : Int) < (n : Int) := by omega
      go_wp2
      have k5 : Blk ((wr.alloc (.cells #[vint (cAt C i).at_.x, vint (cAt C i).at_.y, vint (cAt C i).d] 137)).alloc (.cells #[vint (cAt C i1).at_.x, vint (cAt C i1).at_.y, vint (cAt C i1).d] 137)) wr.heap.size [vint (cAt C i).at_.x, vint (cAt C i).at_.y, vint (cAt C i).d] := (Blk.new _ _).ext ((Ext.refl _).alloc _)
      have k6 : Blk ((wr.alloc (.cells #[vint (cAt C i).at_.x, vint (cAt C i).at_.y, vint (cAt C i).d] 137)).alloc (.cells #[vint (cAt C i1).at_.x, vint (cAt C i1).at_.y, vint (cAt C i1).d] 137)) (wr.heap.size + 1) [vint (cAt C i1).at_.x, vint (cAt C i1).at_.y, vint (cAt C i1).d] := Blk.new' (cs := #[vint (cAt C i1).at_.x, vint (cAt C i1).at_.y, vint (cAt C i1).d]) (by simp)
      have hx6 : Ext wr ((wr.alloc (.cells #[vint (cAt C i).at_.x, vint (cAt C i).at_.y, vint (cAt C i).d] 137)).alloc (.cells #[vint (cAt C i1).at_.x, vint (cAt C i1).at_.y, vint (cAt C i1).d] 137)) := ((Ext.refl _).alloc _).alloc _
      generalize ((wr.alloc (.cells #[vint (cAt C i).at_.x, vint (cAt C i).at_.y, vint (cAt C i).d] 137)).alloc (.cells #[vint (cAt C i1).at_.x, vint (cAt C i1).at_.y, vint (cAt C i1).d] 137)) = w6 at k5 k6 hx6 ⊢
      generalize wr.heap.size + 1 = g6 at k6 ⊢
      generalize wr.heap.size = g5 at k5 ⊢
      have Hx6 := Lib.hid (hex.trans hx6)
      clear q0 q1 q2 r0 r1 r2 hx6 hex
      go_loopw [42] (fun i' wr => ∃ k : Nat, k ≤ n ∧ i' = .int .i64 k ∧ Ext w6 wr ∧ ∀ k', k' < k → cvxAt l i k') (fun i _ => n - (intOf i).toNat)
      case atStart => exact ⟨0, by omega, rfl, Ext.refl _, fun i h => absurd h (by omega)⟩
      case round =>
        obtain ⟨k, hk, rfl, hex, hall2⟩ := hrel
        have Hall2 := Lib.hid hall2
        clear hall2
        by_cases hlt2 : k < n
        · obtain ⟨_, ee, a0, a1, a2⟩ := Hat.out k hlt2
          cases ee
          simp only [add_zero'] at a0 a1 a2
          have hxw := Hx6.out.trans hex
          have q0 : ∀ w', Ext wr w' → _ := fun w' he => a0 w' (hxw.trans he)
          have q1 : ∀ w', Ext wr w' → _ := fun w' he => a1 w' (hxw.trans he)
          have q2 : ∀ w', Ext wr w' → _ := fun w' he => a2 w' (hxw.trans he)
          have s0 := (k5.ext hex).at_ 0 rfl
          have s1 := (k5.ext hex).at_ 1 rfl
          have s2 := (k5.ext hex).at_ 2 rfl
          have m0 := (k6.ext hex).at_ 0 rfl
          have m1 := (k6.ext hex).at_ 1 rfl
          have m2 := (k6.ext hex).at_ 2 rfl
          clear a0 a1 a2 hxw
          have hcvk := Hcv'.out k
          have hbk := Hbd.out k hlt2
          have hdk := Hd.out k hlt2
          have hnx : cvxAt l i k → ∀ k', k' < k + 1 → cvxAt l i k' := fun h k' hj => by
            by_cases e : k' = k
            · subst e; exact h
            · exact Hall2.out k' (by omega)
          have Hcvk := Lib.hid hcvk
          have Hbk := Lib.hid hbk
          have Hdk := Lib.hid hdk
          have Hnx := Lib.hid hnx
          clear hcvk hbk hdk hnx
          have b3 : (k : Int) < (n : Int) := by omega
          by_cases hki : k = i
          · have hc := Hnx.out (Hcvk.out.2 fun h => absurd hki h)
            have Hc := Lib.hid hc
            clear hc Hnx Hcvk Hbk Hdk
            have d3 : ((k : Int) != (i : Int)) = false := by simp [hki]
            clear hki
            go_wp2
            go_roundw
            case rel => exact ⟨k + 1, by omega, by go_num, hex.alloc _, Hc.out⟩
            case measure => simp [intOf]; omega
          · have d3 : ((k : Int) != (i : Int)) = true := by simp; omega
            by_cases hk1 : k = i1
            · have hc := Hnx.out (Hcvk.out.2 fun _ h => absurd hk1 h)
              have Hc := Lib.hid hc
              clear hc Hnx Hcvk Hbk Hdk
              have d4 : ((k : Int) != (i1 : Int)) = false := by simp [hk1]
              clear hk1 hki
              go_wp2
              go_roundw
              case rel => exact ⟨k + 1, by omega, by go_num, hex.alloc _, Hc.out⟩
              case measure => simp [intOf]; omega
            · have d4 : ((k : Int) != (i1 : Int)) = true := by simp; omega
              have hyes : 0 < sd (ptA l i) (ptA l i1) (ptA l k) → ∀ k', k' < k + 1 → cvxAt l i k' := fun h => Hnx.out (Hcvk.out.2 fun _ _ => h)
              have hno : ¬ 0 < sd (ptA l i) (ptA l i1) (ptA l k) → 50 = E := fun h => Hbk.out fun hc => h (Hcvk.out.1 hc hki hk1)
              have Hyes := Lib.hid hyes
              have Hno := Lib.hid hno
              clear hyes hno Hnx Hcvk Hbk hki hk1
              generalize sd (ptA l i) (ptA l i1) (ptA l k) = D at Hyes Hno Hdk
              by_cases hD : 0 < D
              · have d5 : ¬ D ≤ 0 := by omega
                have hc := Hyes.out hD
                have Hc := Lib.hid hc
                clear hc Hyes Hno
                go_wp2_with (go_at_call 56; refine (Hdk.out _).mono ?_; rintro e w8 ⟨rfl, hx8⟩)
                go_roundw
                case rel => exact ⟨k + 1, by omega, by go_num, (hex.alloc _).trans hx8, Hc.out⟩
                case measure => simp [intOf]; omega
              · have d5 : D ≤ 0 := by omega
                have hc := Hno.out hD
                have Hc := Lib.hid hc
                clear hc Hyes Hno
                go_wp2_with (go_at_call 56; refine (Hdk.out _).mono ?_; rintro e w8 ⟨rfl, hx8⟩)
                go_ret
                exact ⟨ret_i Hc.out, Hxc.out.trans (Hx6.out.trans ((hex.alloc _).trans hx8))⟩
        · obtain rfl : n = k := by omega
          go_wp2
          go_roundw
          case rel => exact ⟨i + 1, by omega, by go_num, Hx6.out.trans hex, fun i' h => by
            by_cases e : i' = i
            · subst e; exact Hall2.out
            · exact Hall.out i' (by omega)⟩
          case measure => simp [intOf]; omega
    · obtain rfl : n = i := by omega
      go_wp2
      go_ret
      exact ⟨ret_i (Good.out Hall.out), Hxc.out.trans hex⟩
theorem check_panel (A : Option Addr) (c : Nat) (l : List Sp) (w : World) (hA : SRow w A l) (hl : l.length ≤ 1000) :
    Calls Tryz.prog 18 #[.slice A l.length c] w fun e w' => e = .returned (.int .i64 (panelE l)) ∧ Ext w w' := by
  by_cases h : 3 ≤ l.length ∧ l.length ≤ 8 ∧ ∀ s ∈ l, spotB s
  · exact check_good A c l w hA h.1 h.2.1 h.2.2
  · rw [← panelE_bad fun hp => h ⟨hp.1.1, hp.1.2, hp.2.1⟩]
    exact check_bad A c l w hA hl h
end Go.Proofs.YtebkhdhhajjhfaaGreat

/- A linkage is valid: by the code. -/
namespace Go.Proofs.YtebkhdhhajjhfaaGreat
open Go.RowKit
def pnA (ps : List (List Sp)) (k : Nat) : List Sp := ps.getD k []
theorem pnA_at {ps : List (List Sp)} {k : Nat} (h : k < ps.length) : pnA ps k = ps[k] := by simp [pnA, List.getD, h]
theorem PnRow.at_ {w : World} {A : Option Addr} {ps : List (List Sp)} (h : PnRow w A ps) {k : Nat} (hk : k < ps.length) : ∃ ad B c, A = some ad ∧ (∀ w', Ext w w' → w'.cell? (ad.add k) = some (.slice B (pnA ps k).length c)) ∧ SRow w B (pnA ps k) := by
  rw [pnA_at hk]; exact h k hk
theorem linkP_iff {ps : List (List Sp)} {hs : List Hg} : linkP ps hs ↔ (1 ≤ ps.length ∧ ps.length ≤ 4) ∧ hs.length + 1 = ps.length ∧ (∀ k, k < ps.length → panelP (pnA ps k)) ∧ ∀ k, k < hs.length → hingeB (hgA hs k) := by
  unfold linkP
  constructor
  · rintro ⟨h1, h2, h3, h4⟩
    exact ⟨h1, h2, fun k hk => by rw [pnA_at hk]; exact h3 _ (List.getElem_mem hk), fun k hk => by rw [hgA_at hk]; exact h4 _ (List.getElem_mem hk)⟩
  · rintro ⟨h1, h2, h3, h4⟩
    refine ⟨h1, h2, fun p hp => ?_, fun h hh => ?_⟩
    · obtain ⟨k, hk, rfl⟩ := List.getElem_of_mem hp
      rw [← pnA_at hk]; exact h3 k hk
    · obtain ⟨k, hk, rfl⟩ := List.getElem_of_mem hh
      rw [← hgA_at hk]; exact h4 k hk
theorem checkE_good {ps : List (List Sp)} {hs : List Hg} (h : linkP ps hs) : (0 : Int) = checkE ps hs := by simp [checkE, linkB, h]
theorem checkE_bad {ps : List (List Sp)} {hs : List Hg} (h : ¬ linkP ps hs) : (50 : Int) = checkE ps hs := by simp [checkE, linkB, h]
theorem panelE_cases (l : List Sp) : panelE l = 0 ∧ panelP l ∨ panelE l = 50 ∧ ¬ panelP l := by
  unfold panelE panelB
  by_cases h : panelP l <;> simp [h]
set_option maxRecDepth 100000 in
set_option maxHeartbeats 4000000 in
theorem check_size (A : Option Addr) (c np nh : Nat) (B : Option Addr) (d : Nat) (w : World) (hp : np ≤ 1000) (hbad : ¬ ((1 ≤ np ∧ np ≤ 4) ∧ nh + 1 = np)) :
    Calls Tryz.prog 60 #[.agg #[.slice A np c, .slice B nh d]] w fun e w' => e = .returned (.int .i64 50) ∧ Ext w w' := by
  by_cases h1 : np < 1
  · have d1 : decide ((np : Int) < 1) = true := by simp; omega
    go_enter Tryz.func60, Tryz.ntmps60
    go_wp2
    all_goals go_ret
    all_goals exact ⟨rfl, (Ext.refl _).alloc _⟩
  · have d1 : decide ((np : Int) < 1) = false := by simp; omega
    by_cases h2 : 4 < np
    · have d2 : decide ((4 : Int) < (np : Int)) = true := by simp; omega
      go_enter Tryz.func60, Tryz.ntmps60
      go_wp2
      all_goals go_ret
      all_goals exact ⟨rfl, (Ext.refl _).alloc _⟩
    · have d2 : decide ((4 : Int) < (np : Int)) = false := by simp; omega
      have d3 : ((nh : Int) != (np : Int) - 1) = true := by simp; omega
      go_enter Tryz.func60, Tryz.ntmps60
      go_wp2
      all_goals go_ret
      all_goals exact ⟨rfl, (Ext.refl _).alloc _⟩
set_option maxRecDepth 100000 in
set_option maxHeartbeats 8000000 in
theorem check_loops (A : Option Addr) (c : Nat) (ps : List (List Sp)) (B : Option Addr) (d : Nat) (hs : List Hg) (w : World) (hA : PnRow w A ps) (hB : HRow w B hs) (hp : ∀ k, k < ps.length → (pnA ps k).length ≤ 1000) (hn : (1 ≤ ps.length ∧ ps.length ≤ 4) ∧ hs.length + 1 = ps.length) :
    Calls Tryz.prog 60 #[.agg #[.slice A ps.length c, .slice B hs.length d]] w fun e w' => e = .returned (.int .i64 (checkE ps hs)) ∧ Ext w w' := by
  have good : (∀ k, k < ps.length → panelP (pnA ps k)) → (∀ k, k < hs.length → hingeB (hgA hs k)) → (0 : Int) = checkE ps hs := fun h1 h2 => checkE_good (linkP_iff.2 ⟨hn.1, hn.2, h1, h2⟩)
  have bad1 : ∀ k, k < ps.length → ¬ panelP (pnA ps k) → (50 : Int) = checkE ps hs := fun k hk h => checkE_bad fun hl => h ((linkP_iff.1 hl).2.2.1 k hk)
  have bad2 : ∀ k, k < hs.length → ¬ hingeB (hgA hs k) → (50 : Int) = checkE ps hs := fun k hk h => checkE_bad fun hl => h ((linkP_iff.1 hl).2.2.2 k hk)
  have hpa := fun k (hk : k < ps.length) => hA.at_ hk
  have hha := fun k (hk : k < hs.length) => hB.at_ hk
  have hcp := fun (k : Nat) (hk : k < ps.length) (A : Option Addr) (c : Nat) (w' : World) (h : SRow w' A (pnA ps k)) => check_panel A c (pnA ps k) w' h (hp k hk)
  have Good := Lib.hid good
  have Bad1 := Lib.hid bad1
  have Bad2 := Lib.hid bad2
  have Hpa := Lib.hid hpa
  have Hha := Lib.hid hha
  have Hcp := Lib.hid hcp
  clear good bad1 bad2 hpa hha hcp hA hB hp
  generalize checkE ps hs = E at Good Bad1 Bad2 ⊢
  generalize ps.length = np at *
  generalize hs.length = nh at *
  have d1 : decide ((np : Int) < 1) = false := by simp; omega
  have d2 : decide ((4 : Int) < (np : Int)) = false := by simp; omega
  have d3 : ((nh : Int) != (np : Int) - 1) = false := by simp; omega
  have b0 : ∀ w', Ext (w.alloc (.cells #[.slice A np c, .slice B nh d] 67)) w' → w'.cell? ⟨w.heap.size, 1, none⟩ = some (.slice B nh d) := (Blk.new (W := w) #[.slice A np c, .slice B nh d] 67).at_ 1 rfl
  have hx0 : Ext w (w.alloc (.cells #[.slice A np c, .slice B nh d] 67)) := (Ext.refl _).alloc _
  have B0 := Lib.hid b0
  have Hx0 := Lib.hid hx0
  clear b0 hx0
  go_enter Tryz.func60, Tryz.ntmps60
  go_wp2
  generalize (w.alloc (.cells #[.slice A np c, .slice B nh d] 67)) = w0 at B0 Hx0 ⊢
  go_loopw [31] (fun i wr => ∃ k : Nat, k ≤ np ∧ i = .int .i64 k ∧ Ext w0 wr ∧ ∀ j, j < k → panelP (pnA ps j)) (fun i _ => np - (intOf i).toNat)
  case atStart => exact ⟨0, by omega, rfl, Ext.refl _, fun i h => absurd h (by omega)⟩
  case round =>
    obtain ⟨k, hk, rfl, hex, hall⟩ := hrel
    have Hall := Lib.hid hall
    clear hall
    by_cases hlt : k < np
    · obtain ⟨ad, B', c', rfl, r0, hrow⟩ := Hpa.out k hlt
      have hxr := Hx0.out.trans hex
      have q0 : ∀ w', Ext wr w' → _ := fun w' he => r0 w' (hxr.trans he)
      have hcp := fun (w' : World) (he : Ext wr w') => Hcp.out k hlt B' c' w' (hrow.ext (hxr.trans he))
      have Hc := Lib.hid hcp
      clear r0 hrow hcp Hpa Hcp
      rcases panelE_cases (pnA ps k) with ⟨h1, h2⟩ | ⟨h1, h2⟩
      · rw [h1] at Hc
        have hnx : ∀ j, j < k + 1 → panelP (pnA ps j) := fun j hj => by
          by_cases e : j = k
          · subst e; exact h2
          · exact Hall.out j (by omega)
        have Hnx := Lib.hid hnx
        clear hnx h1 h2
        go_wp2_with (go_at_call 18; refine (Hc.out _ (Ext.refl _)).mono ?_; rintro e w5 ⟨rfl, hx5⟩)
        go_roundw
        case rel => exact ⟨k + 1, by omega, by go_num, hex.trans hx5, Hnx.out⟩
        case measure => simp [intOf]; omega
      · rw [h1] at Hc
        have hb := Bad1.out k hlt h2
        have Hb := Lib.hid hb
        clear hb h1 h2
        go_wp2_with (go_at_call 18; refine (Hc.out _ (Ext.refl _)).mono ?_; rintro e w5 ⟨rfl, hx5⟩)
        go_ret
        exact ⟨ret_i Hb.out, hxr.trans hx5⟩
    · obtain rfl : np = k := by omega
      have Hps := Hall
      have b1 : ∀ w', Ext wr w' → _ := fun w' he => B0.out w' (hex.trans he)
      clear Hall Hpa Hcp Bad1
      go_wp2
      clear b1
      obtain ⟨wo, rfl⟩ : ∃ wo : World, wo = wr := ⟨_, rfl⟩
      go_loopw [44] (fun i wr => ∃ k : Nat, k ≤ nh ∧ i = .int .i64 k ∧ Ext w0 wr ∧ ∀ j, j < k → hingeB (hgA hs j)) (fun i _ => nh - (intOf i).toNat)
      case atStart => exact ⟨0, by omega, rfl, hex, fun i h => absurd h (by omega)⟩
      case round =>
        obtain ⟨k, hk, rfl, hex, hall⟩ := hrel
        have Hall := Lib.hid hall
        clear hall
        by_cases hlt : k < nh
        · obtain ⟨ad, rfl, r0, r1, r2, r3, r4⟩ := Hha.out k hlt
          have hxr := Hx0.out.trans hex
          have q0 : ∀ w', Ext wr w' → _ := fun w' he => r0 w' (hxr.trans he)
          have q1 : ∀ w', Ext wr w' → _ := fun w' he => r1 w' (hxr.trans he)
          have q2 : ∀ w', Ext wr w' → _ := fun w' he => r2 w' (hxr.trans he)
          have q3 : ∀ w', Ext wr w' → _ := fun w' he => r3 w' (hxr.trans he)
          have q4 : ∀ w', Ext wr w' → _ := fun w' he => r4 w' (hxr.trans he)
          clear r0 r1 r2 r3 r4 Hha
          have hsm : ∀ w' g, Blk w' g [vint (hgA hs k).a.x, vint (hgA hs k).a.y, vint (hgA hs k).b.x, vint (hgA hs k).b.y] → Calls Tryz.prog 54 #[.slice (some ⟨g, 0, none⟩) 2 2] w' fun e w'' => e = .returned (.bool (smallB [(hgA hs k).a, (hgA hs k).b])) ∧ Ext w' w'' := fun w' g hb =>
            small_any (some ⟨g, 0, none⟩) 2 [(hgA hs k).a, (hgA hs k).b] w' (fun j hj => by
              refine ⟨_, rfl, ?_⟩
              rw [add_zero']
              rcases (by simp [Sp.cells] at hj; omega : j = 0 ∨ j = 1 ∨ j = 2 ∨ j = 3) with rfl | rfl | rfl | rfl
              · exact hb.c 0 _ rfl
              · exact hb.c 1 _ rfl
              · exact hb.c 2 _ rfl
              · exact hb.c 3 _ rfl) (by simp)
          have hspec : hingeB (hgA hs k) ↔ smallB [(hgA hs k).a, (hgA hs k).b] = true ∧ 0 ≤ (hgA hs k).ang ∧ (hgA hs k).ang ≤ 35 := by
            rw [smallB_spec]; simp [hingeB, and_assoc]
          have hb2 := Bad2.out k hlt
          have Hsm := Lib.hid hsm
          have Hspec := Lib.hid hspec
          have Hb2 := Lib.hid hb2
          clear hsm hspec hb2
          have hnx : hingeB (hgA hs k) → ∀ j, j < k + 1 → hingeB (hgA hs j) := fun h j hj => by
            by_cases e : j = k
            · subst e; exact h
            · exact Hall.out j (by omega)
          have Hnx := Lib.hid hnx
          clear hnx
          generalize smallB [(hgA hs k).a, (hgA hs k).b] = S at Hsm Hspec
          have ARM : True := trivial
          cases S
          · have hb := Hb2.out (fun h => by have := Hspec.out.1 h; simp at this)
            have Hb := Lib.hid hb
            clear hb Hb2 Hspec Hnx
            go_wp2_with (go_at_call 54; refine (Hsm.out _ _ (Blk.new' (cs := #[vint (hgA hs k).a.x, vint (hgA hs k).a.y, vint (hgA hs k).b.x, vint (hgA hs k).b.y]) (by simp))).mono ?_; rintro e w5 ⟨rfl, hx5⟩; have h7 := ((Blk.new (W := wr) #[vint (hgA hs k).a.x, vint (hgA hs k).a.y, vint (hgA hs k).b.x, vint (hgA hs k).b.y, vint (hgA hs k).ang] 70).ext ((Ext.refl _).alloc _)).ext hx5; have s4 := h7.at_ 4 rfl)
            go_ret
            exact ⟨ret_i Hb.out, hxr.trans ((((Ext.refl _).alloc _).alloc _).trans hx5)⟩
          · have hcase : (hgA hs k).ang < 0 ∨ 35 < (hgA hs k).ang ∨ (0 ≤ (hgA hs k).ang ∧ (hgA hs k).ang ≤ 35) := by omega
            have Hbd := Lib.hid (fun h : ¬ (0 ≤ (hgA hs k).ang ∧ (hgA hs k).ang ≤ 35) => Hb2.out (fun hh => h (Hspec.out.1 hh).2))
            have Hgd := Lib.hid (fun h : 0 ≤ (hgA hs k).ang ∧ (hgA hs k).ang ≤ 35 => Hnx.out (Hspec.out.2 ⟨rfl, h⟩))
            clear Hb2 Hspec Hnx
            rcases hcase with ha | ha | ha
            · have hb := Lib.hid (Hbd.out (by omega))
              have e1 : decide ((hgA hs k).ang < 0) = true := by simpa using ha
              go_wp2_with (go_at_call 54; refine (Hsm.out _ _ (Blk.new' (cs := #[vint (hgA hs k).a.x, vint (hgA hs k).a.y, vint (hgA hs k).b.x, vint (hgA hs k).b.y]) (by simp))).mono ?_; rintro e w5 ⟨rfl, hx5⟩; have h7 := ((Blk.new (W := wr) #[vint (hgA hs k).a.x, vint (hgA hs k).a.y, vint (hgA hs k).b.x, vint (hgA hs k).b.y, vint (hgA hs k).ang] 70).ext ((Ext.refl _).alloc _)).ext hx5; have s4 := h7.at_ 4 rfl)
              go_ret
              exact ⟨ret_i hb, hxr.trans ((((Ext.refl _).alloc _).alloc _).trans hx5)⟩
            · have hb := Lib.hid (Hbd.out (by omega))
              have e1 : decide ((hgA hs k).ang < 0) = false := by simp; omega
              have e2 : 36 ≤ (hgA hs k).ang := by omega
              go_wp2_with (go_at_call 54; refine (Hsm.out _ _ (Blk.new' (cs := #[vint (hgA hs k).a.x, vint (hgA hs k).a.y, vint (hgA hs k).b.x, vint (hgA hs k).b.y]) (by simp))).mono ?_; rintro e w5 ⟨rfl, hx5⟩; have h7 := ((Blk.new (W := wr) #[vint (hgA hs k).a.x, vint (hgA hs k).a.y, vint (hgA hs k).b.x, vint (hgA hs k).b.y, vint (hgA hs k).ang] 70).ext ((Ext.refl _).alloc _)).ext hx5; have s4 := h7.at_ 4 rfl)
              go_ret
              exact ⟨ret_i hb, hxr.trans ((((Ext.refl _).alloc _).alloc _).trans hx5)⟩
            · have hb := Lib.hid (Hgd.out ha)
              have e1 : decide ((hgA hs k).ang < 0) = false := by simp; omega
              have e2 : ¬ 36 ≤ (hgA hs k).ang := by omega
              go_wp2_with (go_at_call 54; refine (Hsm.out _ _ (Blk.new' (cs := #[vint (hgA hs k).a.x, vint (hgA hs k).a.y, vint (hgA hs k).b.x, vint (hgA hs k).b.y]) (by simp))).mono ?_; rintro e w5 ⟨rfl, hx5⟩; have h7 := ((Blk.new (W := wr) #[vint (hgA hs k).a.x, vint (hgA hs k).a.y, vint (hgA hs k).b.x, vint (hgA hs k).b.y, vint (hgA hs k).ang] 70).ext ((Ext.refl _).alloc _)).ext hx5; have s4 := h7.at_ 4 rfl)
              go_roundw
              case rel => exact ⟨k + 1, by omega, by go_num, hex.trans ((((Ext.refl _).alloc _).alloc _).trans hx5), hb⟩
              case measure => simp [intOf]; omega
        · obtain rfl : nh = k := by omega
          go_wp2
          go_ret
          exact ⟨ret_i (Good.out Hps.out Hall.out), Hx0.out.trans hex⟩
end Go.Proofs.YtebkhdhhajjhfaaGreat

/- A linkage is valid: by the code, whatever its sizes. -/
namespace Go.Proofs.YtebkhdhhajjhfaaGreat
open Go.RowKit
theorem check_any (A : Option Addr) (c : Nat) (ps : List (List Sp)) (B : Option Addr) (d : Nat) (hs : List Hg) (w : World) (hA : PnRow w A ps) (hB : HRow w B hs) (hl : ps.length ≤ 1000) (hp : ∀ k, k < ps.length → (pnA ps k).length ≤ 1000) :
    Calls Tryz.prog 60 #[.agg #[.slice A ps.length c, .slice B hs.length d]] w fun e w' => e = .returned (.int .i64 (checkE ps hs)) ∧ Ext w w' := by
  by_cases h : (1 ≤ ps.length ∧ ps.length ≤ 4) ∧ hs.length + 1 = ps.length
  · exact check_loops A c ps B d hs w hA hB hp h
  · rw [← checkE_bad fun hl => h ⟨hl.1, hl.2.1⟩]
    exact check_size A c ps.length hs.length B d w hl h
end Go.Proofs.YtebkhdhhajjhfaaGreat

/- A panel is valid: by the reference. -/
namespace Go.Proofs.YtebkhdhhajjhfaaGreat
open Go.RowKit
section
variable {P : Program} {ops : Array Oper} {S : Spec} {w0 : World}
/-- An operation that is not wanted. -/
theorem calm_skip {Q : Act → Fx → Prop} {o : Oper} {l : List Oper} {k : Nat} {a : Act} {F : Fx} (hw : Region.wanted o (yielded ops a.tmps) = false)
    (hn : wpCalm P ops S w0 Q l (k + 1) (a.put o.dst undef) F) : wpCalm P ops S w0 Q (o :: l) k a F :=
  ⟨fun h => by (rw [hw] at h; cases h), fun h => by (rw [hw] at h; cases h), fun _ => hn⟩
end
end Go.Proofs.YtebkhdhhajjhfaaGreat

/- A linkage is valid: by the reference. -/
namespace Go.Proofs.YtebkhdhhajjhfaaGreat
open Go.RowKit
end Go.Proofs.YtebkhdhhajjhfaaGreat

/- Poses and corners: by both. -/
namespace Go.Proofs.YtebkhdhhajjhfaaGreat
open Go.RowKit
theorem spot_elem : ElemInfo 58 (.agg #[.int .i64 0, .int .i64 0]) 2 16 := ⟨info_parts (by kernel_rfl), rfl, by decide⟩
abbrev OwnS (w1 w : World) (v : Value) (xs : List Sp) : Prop := Own w1 w 58 2 v xs.length (xs.map Sp.cells).flatten
theorem OwnS.row {w1 w : World} {A : Option Addr} {m c : Nat} {xs : List Sp} (h : OwnS w1 w (.slice A m c) xs) : SRow w A xs := Own.row h
theorem OwnP.row {w1 w : World} {A : Option Addr} {m c : Nat} {xs : List Ps} (h : OwnP w1 w (.slice A m c) xs) : PRow w A xs := Own.row h
/-- A linkage in memory. -/
structure Lk (w : World) (A : Option Addr) (ps : List (List Sp)) (B : Option Addr) (hs : List Hg) : Prop where
  hA : PnRow w A ps
  hB : HRow w B hs
  np : ps.length ≤ 1000
  nh : hs.length ≤ 1000
  hp : ∀ k, k < ps.length → (pnA ps k).length ≤ 1000
theorem Lk.ext {w w' : World} {A : Option Addr} {ps : List (List Sp)} {B : Option Addr} {hs : List Hg} (h : Lk w A ps B hs) (he : Ext w w') : Lk w' A ps B hs := ⟨h.hA.ext he, h.hB.ext he, h.np, h.nh, h.hp⟩
theorem Lk.check {w : World} {A : Option Addr} {ps : List (List Sp)} {B : Option Addr} {hs : List Hg} (h : Lk w A ps B hs) (c d : Nat) :
    Calls Tryz.prog 60 #[.agg #[.slice A ps.length c, .slice B hs.length d]] w fun e w' => e = .returned (.int .i64 (checkE ps hs)) ∧ Ext w w' := check_any A c ps B d hs w h.hA h.hB h.np h.hp
theorem linkP.nh {ps : List (List Sp)} {hs : List Hg} (h : linkP ps hs) : hs.length ≤ 3 := by have := h.1; have := h.2.1; omega
theorem linkP.hinges {ps : List (List Sp)} {hs : List Hg} (h : linkP ps hs) : ∀ h ∈ hs, hingeB h := h.2.2.2
theorem linkB_eq {ps : List (List Sp)} {hs : List Hg} : (linkP ps hs ∧ linkB ps hs = true ∧ checkE ps hs = 0) ∨ (¬ linkP ps hs ∧ linkB ps hs = false ∧ checkE ps hs = 50) := by
  by_cases h : linkP ps hs
  · exact .inl ⟨h, decide_eq_true h, (checkE_good h).symm⟩
  · exact .inr ⟨h, decide_eq_false h, (checkE_bad h).symm⟩
def posesR (ps : List (List Sp)) (hs : List Hg) : List Ps := if linkB ps hs = true then posesL hs else []
set_option maxRecDepth 100000 in
set_option maxHeartbeats 4000000 in
theorem poses_all (A : Option Addr) (c : Nat) (ps : List (List Sp)) (B : Option Addr) (d : Nat) (hs : List Hg) (w : World) (hL : Lk w A ps B hs) :
    Calls Tryz.prog 21 #[.agg #[.slice A ps.length c, .slice B hs.length d]] w fun e w' => ∃ v, e = .returned (.tuple #[v, .int .i64 (checkE ps hs)]) ∧ OwnP w w' v (posesR ps hs) := by
  have hck := fun w' (he : Ext w w') => Lk.check (hL.ext he) c d
  have hpo := fun (h : linkP ps hs) w' (he : Ext w w') => poses_any A ps.length c B d hs w' (hL.hB.ext he) h.nh h.hinges
  unfold posesR
  rcases linkB_eq (ps := ps) (hs := hs) with ⟨h1, h2, h3⟩ | ⟨h1, h2, h3⟩
  · rw [h2, h3, if_pos rfl]
    rw [h3] at hck
    have hpo := hpo h1
    have Hck := Lib.hid hck
    have Hpo := Lib.hid hpo
    clear hck hpo hL h1 h2 h3
    generalize ps.length = np at *
    generalize hs.length = nh at *
    have kb : Blk (w.alloc (.cells #[.slice A np c, .slice B nh d] 67)) w.heap.size [.slice A np c, .slice B nh d] := Blk.new _ _
    have b0 := kb.at_ 0 rfl
    have b1 := kb.at_ 1 rfl
    have hx0 : Ext w (w.alloc (.cells #[.slice A np c, .slice B nh d] 67)) := (Ext.refl _).alloc _
    have Hx0 := Lib.hid hx0
    clear kb hx0
    go_enter Tryz.func21, Tryz.ntmps21
    go_wp2_with (first
      | (go_at_call 60; refine (Hck.out _ Hx0.out).mono ?_; rintro e w1 ⟨rfl, hx1⟩; have hxx := Hx0.out.trans hx1)
      | (go_at_call 61; refine (Hpo.out _ hxx).mono ?_; rintro e w2 ⟨v, rfl, hown⟩))
    go_ret2
    exact ⟨_, rfl, hown.since hxx⟩
  · rw [h2, h3, if_neg (by simp)]
    rw [h3] at hck
    have Hck := Lib.hid hck
    clear hck hpo hL h1 h2 h3
    generalize ps.length = np at *
    generalize hs.length = nh at *
    have kb : Blk (w.alloc (.cells #[.slice A np c, .slice B nh d] 67)) w.heap.size [.slice A np c, .slice B nh d] := Blk.new _ _
    have b0 := kb.at_ 0 rfl
    have b1 := kb.at_ 1 rfl
    have hx0 : Ext w (w.alloc (.cells #[.slice A np c, .slice B nh d] 67)) := (Ext.refl _).alloc _
    have Hx0 := Lib.hid hx0
    clear kb hx0
    go_enter Tryz.func21, Tryz.ntmps21
    go_wp2_with (go_at_call 60; refine (Hck.out _ Hx0.out).mono ?_; rintro e w1 ⟨rfl, hx1⟩; have hxx := Hx0.out.trans hx1)
    go_ret2
    exact ⟨_, rfl, Own.nil' hxx _ _⟩
/-- A panel's corners. -/
def crnS (p : Ps) (l : List Sp) : List Sp := l.map (plc p)
theorem crnS_len (p : Ps) (l : List Sp) : (crnS p l).length = l.length := by simp [crnS]
theorem crnS_take {p : Ps} {l : List Sp} {k : Nat} (hk : k < l.length) : (crnS p l).take (k + 1) = (crnS p l).take k ++ [plc p (ptA l k)] := by
  have h : k < (crnS p l).length := by rw [crnS_len]; exact hk
  rw [List.take_succ_eq_append_getElem h, ptA_at hk]
  simp [crnS]
theorem crn_crnS {p : Ps} {l : List Sp} {k : Nat} (hk : k < l.length) : cAt (crn p l) k = ⟨plc p (ptA l k), p.d⟩ := by rw [cAt_at (by rw [crn_len]; exact hk), crn_at]
theorem posesL_psA {hs : List Hg} {k : Nat} (h : k ≤ hs.length) : psA (posesL hs) k = posF hs k := by
  rw [psA_at (by rw [posesL_len]; omega), posesL_at]
end Go.Proofs.YtebkhdhhajjhfaaGreat
