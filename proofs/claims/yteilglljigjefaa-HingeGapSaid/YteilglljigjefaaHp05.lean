/- Places in their range: by both. -/
import Derived.Test.YteilglljigjefaaHp04
namespace Go.Proofs.Yteilglljigjefaa
open Go.RowKit
def spotD (s : Sp) : Bool := decide (spotB s)
theorem spotD_eq {s : Sp} {b : Bool} (h : b = true ↔ spotB s) : b = spotD s := by
  unfold spotD
  cases b <;> simp at h ⊢ <;> exact h
set_option maxHeartbeats 1000000 in
theorem far_any (s : Sp) (w : World) : Calls Try.prog 87 #[s.val] w fun e w' => e = .returned (.bool (!spotD s)) ∧ Ext w w' := by
  have hb : ∀ b : Bool, (b = true ↔ ¬ spotB s) → b = !spotD s := fun b h => by
    rw [← spotD_eq (s := s) (b := !b) (by cases b <;> simp at h ⊢ <;> exact h)]
    simp
  have Hb := Lib.hid hb
  clear hb
  obtain ⟨x, y⟩ := s
  generalize (!spotD ⟨x, y⟩) = R at Hb ⊢
  go_enter Try.func87, Try.ntmps87
  go_wp2
  all_goals go_ret
  all_goals refine ⟨ret_b (Hb.out _ ?_), (Ext.refl _).alloc _⟩
  all_goals simp only [spotB]
  all_goals simp
  all_goals omega
set_option maxHeartbeats 1000000 in
theorem index_far (A : Option Addr) (c : Nat) (l : List Sp) (w : World) (hA : SRow w A l) (hl : l.length ≤ 1000) :
    Calls Try.prog 108 #[.slice A l.length c, .func (.func 87) #[] #[]] w fun e w' => ∃ i : Int, e = .returned (.int .i64 i) ∧ (0 ≤ i ↔ ∃ k, k < l.length ∧ spotD (ptA l k) = false) ∧ Ext w w' := by
  have ha := fun k (hk : k < l.length) => hA.at_ hk
  have hc := fun (s : Sp) (w' : World) => far_any s w'
  have Ha := Lib.hid ha
  have Hc := Lib.hid hc
  clear ha hc hA
  generalize l.length = n at *
  go_enter Try.func108, Try.ntmps108
  go_wp2
  go_loopw [8] (fun i wr => ∃ k : Nat, k ≤ n ∧ i = .int .i64 k ∧ Ext w wr ∧ ∀ j, j < k → spotD (ptA l j) = true) (fun i _ => n - (intOf i).toNat)
  case atStart => exact ⟨0, by omega, rfl, Ext.refl _, fun j h => absurd h (by omega)⟩
  case round =>
    obtain ⟨k, hk, rfl, hex, hall⟩ := hrel
    have Hall := Lib.hid hall
    clear hall
    by_cases hlt : k < n
    · obtain ⟨ad, rfl, r0, r1⟩ := Ha.out k hlt
      have c0 : ∀ w', Ext wr w' → _ := fun w' he => r0 w' (hex.trans he)
      have c1 : ∀ w', Ext wr w' → _ := fun w' he => r1 w' (hex.trans he)
      have hcc := fun w' => Hc.out (ptA l k) w'
      have Hp := Lib.hid (show ∀ b, spotD (ptA l k) = b → spotD (ptA l k) = b from fun _ h => h)
      clear r0 r1 Ha Hc
      have hnx : spotD (ptA l k) = true → ∀ j, j < k + 1 → spotD (ptA l j) = true := fun h j hj => by
        by_cases e : j = k
        · subst e; exact h
        · exact Hall.out j (by omega)
      have hyes : spotD (ptA l k) = false → ∃ k, k < n ∧ spotD (ptA l k) = false := fun h => ⟨k, hlt, h⟩
      have Hnx := Lib.hid hnx
      have Hyes := Lib.hid hyes
      clear hnx hyes Hall Hp
      generalize ptA l k = s at c0 c1 hcc Hnx Hyes
      cases hs : spotD s
      · rw [hs] at hcc
        have Hcc := Lib.hid hcc
        have hy := Hyes.out hs
        have Hy := Lib.hid hy
        clear hcc hs hy Hnx Hyes
        go_wp2_with (go_at_call 87; refine (Hcc.out _).mono ?_; rintro e w5 ⟨rfl, hx5⟩)
        go_ret
        exact ⟨k, rfl, ⟨fun _ => Hy.out, fun _ => by omega⟩, hex.trans hx5⟩
      · rw [hs] at hcc
        have Hcc := Lib.hid hcc
        have hy := Hnx.out hs
        have Hy := Lib.hid hy
        clear hcc hs hy Hnx Hyes
        go_wp2_with (go_at_call 87; refine (Hcc.out _).mono ?_; rintro e w5 ⟨rfl, hx5⟩)
        go_roundw
        case rel => exact ⟨k + 1, by omega, by go_num, hex.trans hx5, Hy.out⟩
        case measure => simp [intOf]; omega
    · obtain rfl : n = k := by omega
      go_wp2
      go_ret
      exact ⟨-1, rfl, ⟨fun h => absurd h (by omega), fun ⟨j, h1, h2⟩ => by rw [Hall.out j h1] at h2; cases h2⟩, hex⟩
def smallB (l : List Sp) : Bool := l.all spotD
theorem smallB_iff {l : List Sp} {i : Int} (h : 0 ≤ i ↔ ∃ k, k < l.length ∧ spotD (ptA l k) = false) : decide (0 ≤ i) = !smallB l := by
  by_cases hi : 0 ≤ i
  · obtain ⟨k, hk, hf⟩ := h.1 hi
    rw [decide_eq_true hi]
    have : smallB l = false := by
      unfold smallB
      rw [List.all_eq_false]
      exact ⟨ptA l k, by rw [ptA_at hk]; exact List.getElem_mem hk, by simp [hf]⟩
    rw [this]; rfl
  · rw [decide_eq_false hi]
    have : smallB l = true := by
      unfold smallB
      rw [List.all_eq_true]
      intro s hs
      obtain ⟨k, hk, rfl⟩ := List.getElem_of_mem hs
      cases e : spotD l[k]
      · exact absurd (h.2 ⟨k, hk, by rw [ptA_at hk]; exact e⟩) hi
      · rfl
    rw [this]; rfl
theorem smallB_spec {l : List Sp} : smallB l = true ↔ ∀ s ∈ l, spotB s := by simp [smallB, spotD]
set_option maxHeartbeats 1000000 in
theorem small_any (A : Option Addr) (c : Nat) (l : List Sp) (w : World) (hA : SRow w A l) (hl : l.length ≤ 1000) :
    Calls Try.prog 60 #[.slice A l.length c] w fun e w' => e = .returned (.bool (smallB l)) ∧ Ext w w' := by
  have hc := fun (w' : World) (he : Ext w w') => index_far A c l w' (hA.ext he) hl
  have hd := fun (i : Int) (h : 0 ≤ i ↔ ∃ k, k < l.length ∧ spotD (ptA l k) = false) => smallB_iff h
  have Hc := Lib.hid hc
  have Hd := Lib.hid hd
  clear hc hd hA
  generalize smallB l = S at *
  have cc : ∀ w' : World, Ext w w' → Calls Try.prog 86 #[.slice A l.length c, .func (.func 87) #[] #[]] w' fun e w'' => e = .returned (.bool (!S)) ∧ Ext w' w'' := fun w' he => by
    have hq := Hc.out w' he
    have Hq := Lib.hid hq
    clear hq Hc
    generalize l.length = n at *
    go_enter Try.func86, Try.ntmps86
    go_wp2_with (go_at_call 108; refine Hq.out.mono ?_; rintro e w1 ⟨i, rfl, hi, h1⟩; have Hi := Lib.hid hi; clear hi)
    go_ret
    exact ⟨ret_b (Hd.out _ Hi.out), h1⟩
  have Cc := Lib.hid cc
  clear cc Hc Hd
  generalize l.length = n at *
  go_enter Try.func60, Try.ntmps60
  go_wp2_with (go_at_call 86; refine (Cc.out _ (Ext.refl _)).mono ?_; rintro e w1 ⟨rfl, h1⟩)
  go_ret
  exact ⟨ret_b (by simp), h1⟩
set_option maxHeartbeats 1000000 in
theorem spot_any (s : Sp) (w : World) : Calls Try.prog 83 #[s.val] w fun e w' => e = .returned (.bool (spotD s)) ∧ Ext w w' := by
  have hb : (withinB s.x (-50) 50 && withinB s.y (-50) 50) = spotD s := spotD_eq (by rw [Bool.and_eq_true, withinB_true, withinB_true]; exact Iff.rfl)
  obtain ⟨x, y⟩ := s
  simp only at hb
  have Hb := Lib.hid hb
  clear hb
  generalize spotD ⟨x, y⟩ = R at Hb ⊢
  cases h1 : withinB x (-50) 50
  all_goals
    rw [h1] at Hb
    go_enter Try.func83, Try.ntmps83
    go_wp2_with (go_at_call 58; refine (within_any _ _ _ _).mono ?_; rintro e w' ⟨rfl, rfl⟩)
    go_ret
    exact ⟨ret_b (by rw [← Hb.out]; simp), (Ext.refl _).alloc _⟩
end Go.Proofs.Yteilglljigjefaa

/- The corners of a panel with a pose, by the code. -/
namespace Go.Proofs.Yteilglljigjefaa
open Go.RowKit
theorem corner_elem : ElemInfo 114 (.agg #[.int .i64 0, .int .i64 0, .int .i64 0]) 3 24 := ⟨info_parts (by kernel_rfl), rfl, by decide⟩
abbrev OwnC (w1 w : World) (v : Value) (xs : List Cn) : Prop := Own w1 w 114 3 v xs.length (xs.map Cn.cells).flatten
theorem set_three (pre post : List Value) (m : Nat) (h : pre.length = m) (x y z a b c : Value) : (((pre ++ x :: y :: z :: post).set m a).set (m + 1) b).set (m + 2) c = pre ++ a :: b :: c :: post := by
  subst h
  rw [List.set_append_right _ _ (Nat.le_refl _), List.set_append_right _ _ (by omega), List.set_append_right _ _ (by omega)]
  simp
/-- The first k corners, and then zeros. -/
def fillC (l : List Cn) (k : Nat) : List Value := ((l.take k).map Cn.cells).flatten ++ List.replicate ((l.length - k) * 3) (vint 0)
theorem fillC_len (l : List Cn) {k : Nat} (hk : k ≤ l.length) : (fillC l k).length = l.length * 3 := by
  unfold fillC
  rw [List.length_append, Cn.cells_len, List.length_take, List.length_replicate, ← Nat.add_mul]
  congr 1
  omega
theorem fillC_set (l : List Cn) {k : Nat} (hk : k < l.length) {c : Cn} (hc : cAt l k = c) : (((fillC l k).set (k * 3) (vint c.at_.x)).set (k * 3 + 1) (vint c.at_.y)).set (k * 3 + 2) (vint c.d) = fillC l (k + 1) := by
  have e : (l.length - k) * 3 = (l.length - (k + 1)) * 3 + 1 + 1 + 1 := by omega
  have hp : ((l.take k).map Cn.cells).flatten.length = k * 3 := by rw [Cn.cells_len, List.length_take]; congr 1; omega
  unfold fillC
  rw [e, List.replicate_succ, List.replicate_succ, List.replicate_succ, set_three _ _ _ hp, List.take_succ_eq_append_getElem hk]
  rw [cAt_at hk] at hc
  rw [hc]
  simp [Cn.cells]
theorem fillC_zero (l : List Cn) : (madeCells (Value.cells (.agg #[.int .i64 0, .int .i64 0, .int .i64 0])) (l.length * 3)).toList = fillC l 0 := by
  apply List.ext_getElem
  · simp [fillC, madeCells]
  · intro i h1 h2
    have h3 : i % 3 < 3 := Nat.mod_lt _ (by omega)
    rcases (by omega : i % 3 = 0 ∨ i % 3 = 1 ∨ i % 3 = 2) with h | h | h <;> simp [fillC, madeCells, Value.cells, h]
theorem fillC_all (l : List Cn) : fillC l l.length = (l.map Cn.cells).flatten := by simp [fillC]
theorem fillC_get (l : List Cn) {k j : Nat} (hk : k < l.length) (hj : j < 3) : ∃ v, (fillC l k)[k * 3 + j]? = some v := by
  have := fillC_len l (Nat.le_of_lt hk)
  exact ⟨_, List.getElem?_eq_getElem (by rw [this]; have : (k + 1) * 3 ≤ l.length * 3 := Nat.mul_le_mul_right _ hk; omega)⟩

set_option maxRecDepth 100000 in
set_option maxHeartbeats 4000000 in
theorem corners_any (p : Ps) (A : Option Addr) (c : Nat) (l : List Sp) (w : World) (hA : SRow w A l) (hl : l.length ≤ 1000) (hp : PsOk p) (hs : ∀ s ∈ l, spotB s) :
    Calls Try.prog 61 #[p.val, .slice A l.length c] w fun e w' => ∃ v, e = .returned v ∧ OwnC w w' v (crn p l) := by
  have ha := fun k (hk : k < l.length) => hA.at_ hk
  have hcf := fun k (hk : k < l.length) (w' : World) => place_any p (ptA l k) w' hp (by rw [ptA_at hk]; exact hs _ (List.getElem_mem hk))
  have hlen := crn_len p l
  have hset := fun k (hk : k < l.length) => fillC_set (crn p l) (k := k) (c := ⟨plc p (ptA l k), p.d⟩) (by rw [hlen]; exact hk) (by rw [cAt_at (by rw [hlen]; exact hk), crn_at])
  have hget := fun k (hk : k < l.length) j (hj : j < 3) => fillC_get (crn p l) (k := k) (j := j) (by rw [hlen]; exact hk) hj
  have hfl := fun k (hk : k ≤ l.length) => fillC_len (crn p l) (k := k) (by rw [hlen]; exact hk)
  have hz := fillC_zero (crn p l)
  have hall := fillC_all (crn p l)
  rw [hlen] at hz hall
  simp only [hlen] at hfl
  have Ha := Lib.hid ha
  have Hcf := Lib.hid hcf
  have Hset := Lib.hid hset
  have Hget := Lib.hid hget
  have Hfl := Lib.hid hfl
  have Hz := Lib.hid hz
  have Hall := Lib.hid hall
  have Hlen := Lib.hid hlen
  clear ha hcf hset hget hfl hz hall hlen hA hp hs
  generalize crn p l = C at *
  generalize l.length = n at *
  have k2 : Blk (w.alloc (.cells #[vint p.p, vint p.q, vint p.x, vint p.y, vint p.d] 82)) w.heap.size [vint p.p, vint p.q, vint p.x, vint p.y, vint p.d] := Blk.new _ _
  have hx0 : Ext w (w.alloc (.cells #[vint p.p, vint p.q, vint p.x, vint p.y, vint p.d] 82)) := (Ext.refl _).alloc _
  go_enter Try.func61, Try.ntmps61
  go_wp2_with (refine own_make (w1 := w) corner_elem rfl _ _ rfl Try.underlying111 _ n rfl rfl (by omega) (by unfold maxLen; omega) hx0 ?_; intro w2 hown hx2)
  have k22 := k2.ext hx2
  rw [Hz.out] at hown
  have hs1 : ((w.alloc (.cells #[vint p.p, vint p.q, vint p.x, vint p.y, vint p.d] 82))).heap.size = w.heap.size + 1 := by simp
  rw [hs1] at hown
  clear hs1 k2 hx0 hx2
  obtain ⟨g, hg⟩ : ∃ g, g = w.heap.size + 1 := ⟨_, rfl⟩
  rw [← hg] at hown ⊢
  have Hg := Lib.hid hg
  clear hg
  go_loopw [13] (fun i wr => ∃ k : Nat, k ≤ n ∧ i = .int .i64 k ∧ Own w wr 114 3 (.slice (some ⟨g, 0, none⟩) n n) n (fillC C k) ∧ Blk wr w.heap.size [vint p.p, vint p.q, vint p.x, vint p.y, vint p.d]) (fun i _ => n - (intOf i).toNat)
  case atStart => exact ⟨0, by omega, rfl, hown, k22⟩
  case round =>
    obtain ⟨k, hk, rfl, hown, k22⟩ := hrel
    by_cases hlt : k < n
    · obtain ⟨ad, rfl, r0, r1⟩ := Ha.out k hlt
      have hex := hown.ext
      have c0 : ∀ w', Ext wr w' → _ := fun w' he => r0 w' (hex.trans he)
      have c1 : ∀ w', Ext wr w' → _ := fun w' he => r1 w' (hex.trans he)
      have hset := Hset.out k hlt
      have hpl := Hcf.out k hlt
      have Hset' := Lib.hid hset
      have Hpl := Lib.hid hpl
      have hki : (k : Int) < (n : Int) := by omega
      clear r0 r1 hset hpl Ha Hset Hcf Hz
      generalize plc p (ptA l k) = z at Hset' Hpl
      generalize ptA l k = s at c0 c1 Hpl
      have HW := Lib.hid (And.intro hown k22)
      clear hown k22
      go_wp2
      have hx7 : Ext wr (wr.alloc (.cells #[vint s.x, vint s.y] 27)) := (Ext.refl _).alloc _
      have k7 : Blk (wr.alloc (.cells #[vint s.x, vint s.y] 27)) wr.heap.size [vint s.x, vint s.y] := Blk.new _ _
      generalize (wr.alloc (.cells #[vint s.x, vint s.y] 27)) = w7 at hx7 k7 ⊢
      have hown7 := HW.out.1.later hx7
      have k27 := HW.out.2.ext hx7
      have s0 := k7.at_ 0 rfl
      have s1 := k7.at_ 1 rfl
      have q0 := k27.at_ 0 rfl
      have q1 := k27.at_ 1 rfl
      have q2 := k27.at_ 2 rfl
      have q3 := k27.at_ 3 rfl
      have q4 := k27.at_ 4 rfl
      have Hown7 := Lib.hid hown7
      clear hown7 c0 c1
      refine Cg.wp_region_calm (p := Cg.extPre) (fr := (fun _ => false)) 8 (fun j _ v _ => j = 4 → v = z.val) (fun _ _ _ _ _ _ h => h) (by kernel_rfl) (by kernel_rfl) ?_
      simp only [List.take_succ_cons, List.take_zero, List.drop_succ_cons, List.drop_zero]
      refine Cg.calm_quiet Cg.calm_mono_final w7 (fun _ h => h) 4 (by kernel_rfl) ?_
      simp only [List.take_succ_cons, List.take_zero, List.drop_succ_cons, List.drop_zero]
      repeat (go_big_quiet_step (fail))
      refine wpQuiet_nil ?_
      refine Cg.calm_call Cg.calm_mono_final 81 #[p.val, s.val] rfl (fun w => ?_) (fun w he hF => ?_) ?_
      · go_simp
      · exact (Hpl.out w).mono fun e w'' ⟨he', hx⟩ => ⟨_, he', hx, fun _ => rfl, fun h => by cases h⟩
      rintro _ _ _ h _
      cases h rfl
      simp only [Act.put, List.setIfInBounds_toArray, List.set_cons_succ, List.set_cons_zero]
      refine Cg.calm_quiet Cg.calm_mono_final w7 (fun _ h => h) 2 (by kernel_rfl) ?_
      simp only [List.take_succ_cons, List.take_zero, List.drop_succ_cons, List.drop_zero]
      repeat (go_big_quiet_step (fail))
      refine wpQuiet_nil ?_
      refine Cg.calm_value Cg.calm_mono_final (fun v _ => v = .agg #[vint z.x, vint z.y, vint p.d]) (fun _ _ _ _ h => h) rfl (fun w' _ _ => ⟨.agg #[vint z.x, vint z.y, vint p.d], w', by go_simp, Ext.refl _, rfl, fun h => by cases h⟩) ?_
      rintro _ _ _ rfl _
      simp only [Act.put, List.setIfInBounds_toArray, List.set_cons_succ, List.set_cons_zero]
      refine Cg.calm_nil fun w3 he3 _ => ?_
      have he3 : Ext w7 w3 := he3
      have hown3 := Hown7.out.later he3
      have k23 := k27.ext he3
      obtain ⟨v0, g0⟩ := Hget.out k hlt 0 (by omega)
      obtain ⟨v1, g1⟩ := Hget.out k hlt 1 (by omega)
      obtain ⟨v2, g2⟩ := Hget.out k hlt 2 (by omega)
      have hfl := Hfl.out k (by omega)
      have e0 : w3.cell? ⟨g, k * 3, none⟩ = some v0 := (hown3.cell (j := k * 3) (by omega)).trans g0
      have e1 : w3.cell? ⟨g, k * 3 + 1, none⟩ = some v1 := (hown3.cell (j := k * 3 + 1) (by omega)).trans g1
      have e2 : w3.cell? ⟨g, k * 3 + 2, none⟩ = some v2 := (hown3.cell (j := k * 3 + 2) (by omega)).trans g2
      have hf := hown3.free
      have hown4 := ((hown3.store (k * 3) (vint z.x)).store (k * 3 + 1) (vint z.y)).store (k * 3 + 2) (vint p.d)
      rw [Hset'.out] at hown4
      have hgne : g ≠ w.heap.size := by have := Hg.out; omega
      have k24 := ((k23.other (b := g) (k := k * 3) hgne (vint z.x)).other (b := g) (k := k * 3 + 1) hgne (vint z.y)).other (b := g) (k := k * 3 + 2) hgne (vint p.d)
      have H4 := Lib.hid (And.intro hown4 k24)
      clear hown4 k24 hown3 k23 g0 g1 g2 hfl s0 s1 q0 q1 q2 q3 q4 k27 k7
      go_wp2
      go_roundw
      case rel => exact ⟨k + 1, by omega, by go_num, H4.out.1, H4.out.2⟩
      case measure => simp [intOf]; omega
    · obtain rfl : n = k := by omega
      have hall := Hall.out
      rw [hall] at hown
      have Hown := Lib.hid hown
      clear hall hown
      go_wp2
      go_ret
      refine ⟨_, rfl, ?_⟩
      show Own w wr _ 3 _ C.length _
      rw [Hlen.out]
      exact Hown.out
end Go.Proofs.Yteilglljigjefaa

/- Panels in their own plane. Plain Lean. -/
namespace Go.Proofs.Yteilglljigjefaa
theorem plc_pose0 (s : Sp) : plc pose0 s = s := by simp [plc, pose0]
theorem crn_edge {p : Ps} {l : List Sp} (hp : PoseOk p 3) (hs : ∀ s ∈ l, spotB s) : ∀ i (hi : i < (crn p l).length) k (hk : k < (crn p l).length), EdgeOk (crn p l)[i] (crn p l)[k] := by
  have hc : ∀ s, spotB s → CnOk ⟨plc p s, p.d⟩ := fun s hs => ⟨(pose_small hp).1, (plc_small hp hs).1, (plc_small hp hs).2⟩
  intro i hi k hk
  rw [crn_at hi, crn_at hk]
  rw [crn_len] at hi hk
  have h1 : spotB (ptA l i) := by rw [ptA_at hi]; exact hs _ (List.getElem_mem hi)
  have h2 : spotB (ptA l k) := by rw [ptA_at hk]; exact hs _ (List.getElem_mem hk)
  exact ⟨hc _ h1, hc _ h2, (edge_small hp h1 h2).1, (edge_small hp h1 h2).2, rfl⟩
theorem cAt_crn {p : Ps} {l : List Sp} {k : Nat} (hk : k < l.length) : cAt (crn p l) k = ⟨plc p (ptA l k), p.d⟩ := by rw [cAt_at (by rw [crn_len]; exact hk), crn_at]
theorem cAt_crn0 {l : List Sp} {k : Nat} (hk : k < l.length) : cAt (crn pose0 l) k = ⟨ptA l k, 1⟩ := by rw [cAt_crn hk, plc_pose0]; rfl
theorem side_sd (a b c : Sp) : sideC ⟨a, 1⟩ ⟨b, 1⟩ ⟨c, 1⟩ = sd a b c := by unfold sideC sideS sd; simp
def panelE (l : List Sp) : Int := if panelB l = true then 0 else 50
theorem panelE_bad {l : List Sp} (h : ¬ panelP l) : (50 : Int) = panelE l := by simp [panelE, panelB, h]
theorem panelE_good {l : List Sp} (h : panelP l) : (0 : Int) = panelE l := by simp [panelE, panelB, h]
end Go.Proofs.Yteilglljigjefaa

/- A panel is valid: by the code. -/
namespace Go.Proofs.Yteilglljigjefaa
open Go.RowKit
theorem OwnC.row {w1 w : World} {A : Option Addr} {m c : Nat} {xs : List Cn} (h : OwnC w1 w (.slice A m c) xs) : CRow w A xs := Own.row h
set_option maxRecDepth 100000 in
set_option maxHeartbeats 4000000 in
theorem check_bad (A : Option Addr) (c : Nat) (l : List Sp) (w : World) (hA : SRow w A l) (hl : l.length ≤ 1000) (hbad : ¬ (3 ≤ l.length ∧ l.length ≤ 8 ∧ ∀ s ∈ l, spotB s)) :
    Calls Try.prog 25 #[.slice A l.length c] w fun e w' => e = .returned (.int .i64 50) ∧ Ext w w' := by
  have cs := fun w' (he : Ext w w') => small_any A c l w' (hA.ext he) hl
  have hb : 3 ≤ l.length → l.length ≤ 8 → smallB l = false := fun h1 h2 => by
    cases h : smallB l
    · rfl
    · exact absurd ⟨h1, h2, smallB_spec.1 h⟩ hbad
  have Cs := Lib.hid cs
  have Hb := Lib.hid hb
  clear cs hb hbad hA
  generalize smallB l = S at *
  generalize l.length = n at *
  by_cases h1 : n < 3
  · have d1 : decide ((n : Int) < 3) = true := by simp; omega
    go_enter Try.func25, Try.ntmps25
    go_wp2
    go_ret
    exact ⟨rfl, Ext.refl _⟩
  · have d1 : decide ((n : Int) < 3) = false := by simp; omega
    by_cases h2 : 8 < n
    · have d2 : decide ((8 : Int) < (n : Int)) = true := by simp; omega
      go_enter Try.func25, Try.ntmps25
      go_wp2
      go_ret
      exact ⟨rfl, Ext.refl _⟩
    · have d2 : decide ((8 : Int) < (n : Int)) = false := by simp; omega
      have hS := Hb.out (by omega) (by omega)
      subst hS
      go_enter Try.func25, Try.ntmps25
      go_wp2_with (go_at_call 60; refine (Cs.out _ (Ext.refl _)).mono ?_; rintro e w1 ⟨rfl, h1⟩)
      go_ret
      exact ⟨rfl, h1⟩
set_option maxRecDepth 100000 in
set_option maxHeartbeats 8000000 in
theorem check_good (A : Option Addr) (c : Nat) (l : List Sp) (w : World) (hA : SRow w A l) (h3 : 3 ≤ l.length) (h8 : l.length ≤ 8) (hs : ∀ s ∈ l, spotB s) :
    Calls Try.prog 25 #[.slice A l.length c] w fun e w' => e = .returned (.int .i64 (panelE l)) ∧ Ext w w' := by
  have cs := fun w' (he : Ext w w') => small_any A c l w' (hA.ext he) (by omega)
  rw [smallB_spec.2 hs] at cs
  have hp0 : PoseOk pose0 3 := pose_mono pose0_ok (by omega)
  have cc := fun w' (he : Ext w w') => corners_any pose0 A c l w' (hA.ext he) (by omega) (psOk hp0) hs
  have hlen := crn_len pose0 l
  have hed := crn_edge hp0 hs
  have hD : ∀ i, i < l.length → ∀ k, k < l.length → ∀ w' : World, Calls Try.prog 62 #[(cAt (crn pose0 l) i).val, (cAt (crn pose0 l) ((i + 1) % l.length)).val, (cAt (crn pose0 l) k).val] w' fun e w'' => e = .returned (.int .i64 (sd (ptA l i) (ptA l ((i + 1) % l.length)) (ptA l k))) ∧ Ext w' w'' := fun i hi k hk w' => by
    have hi1 : (i + 1) % l.length < l.length := Nat.mod_lt _ (by omega)
    have e1 := hed i (by rw [hlen]; exact hi) _ (by rw [hlen]; exact hi1)
    have e2 := (hed k (by rw [hlen]; exact hk) k (by rw [hlen]; exact hk)).ca
    rw [← cAt_at, ← cAt_at] at e1
    rw [← cAt_at] at e2
    have := side_any _ _ _ w' e1 e2
    rw [show sideC (cAt (crn pose0 l) i) (cAt (crn pose0 l) ((i + 1) % l.length)) (cAt (crn pose0 l) k) = sd (ptA l i) (ptA l ((i + 1) % l.length)) (ptA l k) by rw [cAt_crn0 hi, cAt_crn0 hi1, cAt_crn0 hk, side_sd]] at this
    exact this
  have good : (∀ i, i < l.length → ∀ k, k < l.length → cvxAt l i k) → (0 : Int) = panelE l := fun h => panelE_good ⟨⟨h3, h8⟩, hs, h⟩
  have bad : ∀ i, i < l.length → ∀ k, k < l.length → ¬ cvxAt l i k → (50 : Int) = panelE l := fun i hi k hk h => panelE_bad fun hp => h (hp.2.2 i hi k hk)
  have hcv : ∀ i k, cvxAt l i k ↔ (k ≠ i → k ≠ (i + 1) % l.length → 0 < sd (ptA l i) (ptA l ((i + 1) % l.length)) (ptA l k)) := fun _ _ => Iff.rfl
  have Cs := Lib.hid cs
  have Cc := Lib.hid cc
  have HD := Lib.hid hD
  have Good := Lib.hid good
  have Bad := Lib.hid bad
  have Hcv := Lib.hid hcv
  have Hlen := Lib.hid hlen
  clear cs cc hD good bad hcv hlen hed hp0 hs hA
  generalize crn pose0 l = C at Cc HD Hlen
  generalize panelE l = E at Good Bad ⊢
  generalize l.length = n at *
  have d1 : decide ((n : Int) < 3) = false := by simp; omega
  have d2 : decide ((8 : Int) < (n : Int)) = false := by simp; omega
  go_enter Try.func25, Try.ntmps25
  go_wp2_with (first
    | (go_at_call 60; refine (Cs.out _ (Ext.refl _)).mono ?_; rintro e w1 ⟨rfl, h1⟩)
    | (go_at_call 61; refine (Cc.out _ h1).mono ?_; rintro e wc ⟨v, rfl, hown0⟩; have hown := hown0; unfold OwnC at hown; rw [Hlen.out] at hown; clear hown0; obtain ⟨g, cg, rfl, _, _⟩ := hown.at_ (by omega)))
  have hrow : CRow wc (some ⟨g, 0, none⟩) C := Own.row hown
  have hxc := h1.trans hown.ext
  have hat := fun k (hk : k < n) => hrow.at_ (k := k) (by rw [Hlen.out]; exact hk)
  have Hat := Lib.hid hat
  have Hxc := Lib.hid hxc
  clear hrow hxc hat hown h1 Cs Cc
  go_loopw [27] (fun i wr => ∃ k : Nat, k ≤ n ∧ i = .int .i64 k ∧ Ext wc wr ∧ ∀ i, i < k → ∀ k, k < n → cvxAt l i k) (fun i _ => n - (intOf i).toNat)
  case atStart => exact ⟨0, by omega, rfl, Ext.refl _, fun i h => absurd h (by omega)⟩
  case round =>
    obtain ⟨i, hi, rfl, hex, hall⟩ := hrel
    have Hall := Lib.hid hall
    clear hall
    by_cases hlt : i < n
    · obtain ⟨_, ee, a0, a1, a2⟩ := Hat.out i hlt
      cases ee
      obtain ⟨_, ee, m0, m1, m2⟩ := Hat.out ((i + 1) % n) (Nat.mod_lt _ (by omega))
      cases ee
      simp only [add_zero'] at a0 a1 a2 m0 m1 m2
      have hi1 := Nat.mod_lt (i + 1) (show 0 < n by omega)
      have q0 : ∀ w', Ext wr w' → _ := fun w' he => a0 w' (hex.trans he)
      have q1 : ∀ w', Ext wr w' → _ := fun w' he => a1 w' (hex.trans he)
      have q2 : ∀ w', Ext wr w' → _ := fun w' he => a2 w' (hex.trans he)
      have r0 : ∀ w', Ext wr w' → _ := fun w' he => m0 w' (hex.trans he)
      have r1 : ∀ w', Ext wr w' → _ := fun w' he => m1 w' (hex.trans he)
      have r2 : ∀ w', Ext wr w' → _ := fun w' he => m2 w' (hex.trans he)
      clear a0 a1 a2 m0 m1 m2
      have hd := HD.out i hlt
      have hcv := Hcv.out i
      have hbd := Bad.out i hlt
      have e2 : ((i : Int) + 1).tmod (n : Int) = (((i + 1) % n : Nat) : Int) := by
        rw [Int.tmod_eq_emod_of_nonneg (by omega)]; exact (by push_cast; rfl)
      have e3 : ((n : Int) = 0) = False := by simp; omega
      have Hd := Lib.hid hd
      have Hcv' := Lib.hid hcv
      have Hbd := Lib.hid hbd
      clear hd hcv hbd HD Hcv Bad
      generalize (i + 1) % n = i1 at *
      have b1 : (i1 : Int) < (n : Int) := by omega
      have b2 : (i : Int) < (n : Int) := by omega
      go_wp2
      have k5 : Blk ((wr.alloc (.cells #[vint (cAt C i).at_.x, vint (cAt C i).at_.y, vint (cAt C i).d] 114)).alloc (.cells #[vint (cAt C i1).at_.x, vint (cAt C i1).at_.y, vint (cAt C i1).d] 114)) wr.heap.size [vint (cAt C i).at_.x, vint (cAt C i).at_.y, vint (cAt C i).d] := (Blk.new _ _).ext ((Ext.refl _).alloc _)
      have k6 : Blk ((wr.alloc (.cells #[vint (cAt C i).at_.x, vint (cAt C i).at_.y, vint (cAt C i).d] 114)).alloc (.cells #[vint (cAt C i1).at_.x, vint (cAt C i1).at_.y, vint (cAt C i1).d] 114)) (wr.heap.size + 1) [vint (cAt C i1).at_.x, vint (cAt C i1).at_.y, vint (cAt C i1).d] := Blk.new' (cs := #[vint (cAt C i1).at_.x, vint (cAt C i1).at_.y, vint (cAt C i1).d]) (by simp)
      have hx6 : Ext wr ((wr.alloc (.cells #[vint (cAt C i).at_.x, vint (cAt C i).at_.y, vint (cAt C i).d] 114)).alloc (.cells #[vint (cAt C i1).at_.x, vint (cAt C i1).at_.y, vint (cAt C i1).d] 114)) := ((Ext.refl _).alloc _).alloc _
      generalize ((wr.alloc (.cells #[vint (cAt C i).at_.x, vint (cAt C i).at_.y, vint (cAt C i).d] 114)).alloc (.cells #[vint (cAt C i1).at_.x, vint (cAt C i1).at_.y, vint (cAt C i1).d] 114)) = w6 at k5 k6 hx6 ⊢
      generalize wr.heap.size + 1 = g6 at k6 ⊢
      generalize wr.heap.size = g5 at k5 ⊢
      have Hx6 := Lib.hid (hex.trans hx6)
      clear q0 q1 q2 r0 r1 r2 hx6 hex
      go_loopw [42] (fun i' wr => ∃ k : Nat, k ≤ n ∧ i' = .int .i64 k ∧ Ext w6 wr ∧ ∀ k', k' < k → cvxAt l i k') (fun i _ => n - (intOf i).toNat)
      case atStart => exact ⟨0, by omega, rfl, Ext.refl _, fun i h => absurd h (by omega)⟩
      case round =>
        obtain ⟨k, hk, rfl, hex, hall2⟩ := hrel
        have Hall2 := Lib.hid hall2
        clear hall2
        by_cases hlt2 : k < n
        · obtain ⟨_, ee, a0, a1, a2⟩ := Hat.out k hlt2
          cases ee
          simp only [add_zero'] at a0 a1 a2
          have hxw := Hx6.out.trans hex
          have q0 : ∀ w', Ext wr w' → _ := fun w' he => a0 w' (hxw.trans he)
          have q1 : ∀ w', Ext wr w' → _ := fun w' he => a1 w' (hxw.trans he)
          have q2 : ∀ w', Ext wr w' → _ := fun w' he => a2 w' (hxw.trans he)
          have s0 := (k5.ext hex).at_ 0 rfl
          have s1 := (k5.ext hex).at_ 1 rfl
          have s2 := (k5.ext hex).at_ 2 rfl
          have m0 := (k6.ext hex).at_ 0 rfl
          have m1 := (k6.ext hex).at_ 1 rfl
          have m2 := (k6.ext hex).at_ 2 rfl
          clear a0 a1 a2 hxw
          have hcvk := Hcv'.out k
          have hbk := Hbd.out k hlt2
          have hdk := Hd.out k hlt2
          have hnx : cvxAt l i k → ∀ k', k' < k + 1 → cvxAt l i k' := fun h k' hj => by
            by_cases e : k' = k
            · subst e; exact h
            · exact Hall2.out k' (by omega)
          have Hcvk := Lib.hid hcvk
          have Hbk := Lib.hid hbk
          have Hdk := Lib.hid hdk
          have Hnx := Lib.hid hnx
          clear hcvk hbk hdk hnx
          have b3 : (k : Int) < (n : Int) := by omega
          by_cases hki : k = i
          · have hc := Hnx.out (Hcvk.out.2 fun h => absurd hki h)
            have Hc := Lib.hid hc
            clear hc Hnx Hcvk Hbk Hdk
            have d3 : ((k : Int) != (i : Int)) = false := by simp [hki]
            clear hki
            go_wp2
            go_roundw
            case rel => exact ⟨k + 1, by omega, by go_num, hex.alloc _, Hc.out⟩
            case measure => simp [intOf]; omega
          · have d3 : ((k : Int) != (i : Int)) = true := by simp; omega
            by_cases hk1 : k = i1
            · have hc := Hnx.out (Hcvk.out.2 fun _ h => absurd hk1 h)
              have Hc := Lib.hid hc
              clear hc Hnx Hcvk Hbk Hdk
              have d4 : ((k : Int) != (i1 : Int)) = false := by simp [hk1]
              clear hk1 hki
              go_wp2
              go_roundw
              case rel => exact ⟨k + 1, by omega, by go_num, hex.alloc _, Hc.out⟩
              case measure => simp [intOf]; omega
            · have d4 : ((k : Int) != (i1 : Int)) = true := by simp; omega
              have hyes : 0 < sd (ptA l i) (ptA l i1) (ptA l k) → ∀ k', k' < k + 1 → cvxAt l i k' := fun h => Hnx.out (Hcvk.out.2 fun _ _ => h)
              have hno : ¬ 0 < sd (ptA l i) (ptA l i1) (ptA l k) → 50 = E := fun h => Hbk.out fun hc => h (Hcvk.out.1 hc hki hk1)
              have Hyes := Lib.hid hyes
              have Hno := Lib.hid hno
              clear hyes hno Hnx Hcvk Hbk hki hk1
              generalize sd (ptA l i) (ptA l i1) (ptA l k) = D at Hyes Hno Hdk
              by_cases hD : 0 < D
              · have d5 : ¬ D ≤ 0 := by omega
                have hc := Hyes.out hD
                have Hc := Lib.hid hc
                clear hc Hyes Hno
                go_wp2_with (go_at_call 62; refine (Hdk.out _).mono ?_; rintro e w8 ⟨rfl, hx8⟩)
                go_roundw
                case rel => exact ⟨k + 1, by omega, by go_num, (hex.alloc _).trans hx8, Hc.out⟩
                case measure => simp [intOf]; omega
              · have d5 : D ≤ 0 := by omega
                have hc := Hno.out hD
                have Hc := Lib.hid hc
                clear hc Hyes Hno
                go_wp2_with (go_at_call 62; refine (Hdk.out _).mono ?_; rintro e w8 ⟨rfl, hx8⟩)
                go_ret
                exact ⟨ret_i Hc.out, Hxc.out.trans (Hx6.out.trans ((hex.alloc _).trans hx8))⟩
        · obtain rfl : n = k := by omega
          go_wp2
          go_roundw
          case rel => exact ⟨i + 1, by omega, by go_num, Hx6.out.trans hex, fun i' h => by
            by_cases e : i' = i
            · subst e; exact Hall2.out
            · exact Hall.out i' (by omega)⟩
          case measure => simp [intOf]; omega
    · obtain rfl : n = i := by omega
      go_wp2
      go_ret
      exact ⟨ret_i (Good.out Hall.out), Hxc.out.trans hex⟩
theorem check_panel (A : Option Addr) (c : Nat) (l : List Sp) (w : World) (hA : SRow w A l) (hl : l.length ≤ 1000) :
    Calls Try.prog 25 #[.slice A l.length c] w fun e w' => e = .returned (.int .i64 (panelE l)) ∧ Ext w w' := by
  by_cases h : 3 ≤ l.length ∧ l.length ≤ 8 ∧ ∀ s ∈ l, spotB s
  · exact check_good A c l w hA h.1 h.2.1 h.2.2
  · rw [← panelE_bad fun hp => h ⟨hp.1.1, hp.1.2, hp.2.1⟩]
    exact check_bad A c l w hA hl h
end Go.Proofs.Yteilglljigjefaa

/- A linkage is valid: by the code. -/
namespace Go.Proofs.Yteilglljigjefaa
open Go.RowKit
def pnA (ps : List (List Sp)) (k : Nat) : List Sp := ps.getD k []
theorem pnA_at {ps : List (List Sp)} {k : Nat} (h : k < ps.length) : pnA ps k = ps[k] := by simp [pnA, List.getD, h]
theorem PnRow.at_ {w : World} {A : Option Addr} {ps : List (List Sp)} (h : PnRow w A ps) {k : Nat} (hk : k < ps.length) : ∃ ad B c, A = some ad ∧ (∀ w', Ext w w' → w'.cell? (ad.add k) = some (.slice B (pnA ps k).length c)) ∧ SRow w B (pnA ps k) := by
  rw [pnA_at hk]; exact h k hk
theorem linkP_iff {ps : List (List Sp)} {hs : List Hg} : linkP ps hs ↔ (1 ≤ ps.length ∧ ps.length ≤ 4) ∧ hs.length + 1 = ps.length ∧ (∀ k, k < ps.length → panelP (pnA ps k)) ∧ ∀ k, k < hs.length → hingeB (hgA hs k) := by
  unfold linkP
  constructor
  · rintro ⟨h1, h2, h3, h4⟩
    exact ⟨h1, h2, fun k hk => by rw [pnA_at hk]; exact h3 _ (List.getElem_mem hk), fun k hk => by rw [hgA_at hk]; exact h4 _ (List.getElem_mem hk)⟩
  · rintro ⟨h1, h2, h3, h4⟩
    refine ⟨h1, h2, fun p hp => ?_, fun h hh => ?_⟩
    · obtain ⟨k, hk, rfl⟩ := List.getElem_of_mem hp
      rw [← pnA_at hk]; exact h3 k hk
    · obtain ⟨k, hk, rfl⟩ := List.getElem_of_mem hh
      rw [← hgA_at hk]; exact h4 k hk
theorem checkE_good {ps : List (List Sp)} {hs : List Hg} (h : linkP ps hs) : (0 : Int) = checkE ps hs := by simp [checkE, linkB, h]
theorem checkE_bad {ps : List (List Sp)} {hs : List Hg} (h : ¬ linkP ps hs) : (50 : Int) = checkE ps hs := by simp [checkE, linkB, h]
theorem panelE_cases (l : List Sp) : panelE l = 0 ∧ panelP l ∨ panelE l = 50 ∧ ¬ panelP l := by
  unfold panelE panelB
  by_cases h : panelP l <;> simp [h]
set_option maxRecDepth 100000 in
set_option maxHeartbeats 4000000 in
theorem check_size (A : Option Addr) (c np nh : Nat) (B : Option Addr) (d : Nat) (w : World) (hp : np ≤ 1000) (hbad : ¬ ((1 ≤ np ∧ np ≤ 4) ∧ nh + 1 = np)) :
    Calls Try.prog 30 #[.agg #[.slice A np c, .slice B nh d]] w fun e w' => e = .returned (.int .i64 50) ∧ Ext w w' := by
  by_cases h1 : np < 1
  · have d1 : decide ((np : Int) < 1) = true := by simp; omega
    go_enter Try.func30, Try.ntmps30
    go_wp2
    all_goals go_ret
    all_goals exact ⟨rfl, (Ext.refl _).alloc _⟩
  · have d1 : decide ((np : Int) < 1) = false := by simp; omega
    by_cases h2 : 4 < np
    · have d2 : decide ((4 : Int) < (np : Int)) = true := by simp; omega
      go_enter Try.func30, Try.ntmps30
      go_wp2
      all_goals go_ret
      all_goals exact ⟨rfl, (Ext.refl _).alloc _⟩
    · have d2 : decide ((4 : Int) < (np : Int)) = false := by simp; omega
      have d3 : ((nh : Int) != (np : Int) - 1) = true := by simp; omega
      go_enter Try.func30, Try.ntmps30
      go_wp2
      all_goals go_ret
      all_goals exact ⟨rfl, (Ext.refl _).alloc _⟩
set_option maxRecDepth 100000 in
set_option maxHeartbeats 8000000 in
theorem check_loops (A : Option Addr) (c : Nat) (ps : List (List Sp)) (B : Option Addr) (d : Nat) (hs : List Hg) (w : World) (hA : PnRow w A ps) (hB : HRow w B hs) (hp : ∀ k, k < ps.length → (pnA ps k).length ≤ 1000) (hn : (1 ≤ ps.length ∧ ps.length ≤ 4) ∧ hs.length + 1 = ps.length) :
    Calls Try.prog 30 #[.agg #[.slice A ps.length c, .slice B hs.length d]] w fun e w' => e = .returned (.int .i64 (checkE ps hs)) ∧ Ext w w' := by
  have good : (∀ k, k < ps.length → panelP (pnA ps k)) → (∀ k, k < hs.length → hingeB (hgA hs k)) → (0 : Int) = checkE ps hs := fun h1 h2 => checkE_good (linkP_iff.2 ⟨hn.1, hn.2, h1, h2⟩)
  have bad1 : ∀ k, k < ps.length → ¬ panelP (pnA ps k) → (50 : Int) = checkE ps hs := fun k hk h => checkE_bad fun hl => h ((linkP_iff.1 hl).2.2.1 k hk)
  have bad2 : ∀ k, k < hs.length → ¬ hingeB (hgA hs k) → (50 : Int) = checkE ps hs := fun k hk h => checkE_bad fun hl => h ((linkP_iff.1 hl).2.2.2 k hk)
  have hpa := fun k (hk : k < ps.length) => hA.at_ hk
  have hha := fun k (hk : k < hs.length) => hB.at_ hk
  have hcp := fun (k : Nat) (hk : k < ps.length) (A : Option Addr) (c : Nat) (w' : World) (h : SRow w' A (pnA ps k)) => check_panel A c (pnA ps k) w' h (hp k hk)
  have Good := Lib.hid good
  have Bad1 := Lib.hid bad1
  have Bad2 := Lib.hid bad2
  have Hpa := Lib.hid hpa
  have Hha := Lib.hid hha
  have Hcp := Lib.hid hcp
  clear good bad1 bad2 hpa hha hcp hA hB hp
  generalize checkE ps hs = E at Good Bad1 Bad2 ⊢
  generalize ps.length = np at *
  generalize hs.length = nh at *
  have d1 : decide ((np : Int) < 1) = false := by simp; omega
  have d2 : decide ((4 : Int) < (np : Int)) = false := by simp; omega
  have d3 : ((nh : Int) != (np : Int) - 1) = false := by simp; omega
  have b0 : ∀ w', Ext (w.alloc (.cells #[.slice A np c, .slice B nh d] 25)) w' → w'.cell? ⟨w.heap.size, 1, none⟩ = some (.slice B nh d) := (Blk.new (W := w) #[.slice A np c, .slice B nh d] 25).at_ 1 rfl
  have hx0 : Ext w (w.alloc (.cells #[.slice A np c, .slice B nh d] 25)) := (Ext.refl _).alloc _
  have B0 := Lib.hid b0
  have Hx0 := Lib.hid hx0
  clear b0 hx0
  go_enter Try.func30, Try.ntmps30
  go_wp2
  generalize (w.alloc (.cells #[.slice A np c, .slice B nh d] 25)) = w0 at B0 Hx0 ⊢
  go_loopw [31] (fun i wr => ∃ k : Nat, k ≤ np ∧ i = .int .i64 k ∧ Ext w0 wr ∧ ∀ j, j < k → panelP (pnA ps j)) (fun i _ => np - (intOf i).toNat)
  case atStart => exact ⟨0, by omega, rfl, Ext.refl _, fun i h => absurd h (by omega)⟩
  case round =>
    obtain ⟨k, hk, rfl, hex, hall⟩ := hrel
    have Hall := Lib.hid hall
    clear hall
    by_cases hlt : k < np
    · obtain ⟨ad, B', c', rfl, r0, hrow⟩ := Hpa.out k hlt
      have hxr := Hx0.out.trans hex
      have q0 : ∀ w', Ext wr w' → _ := fun w' he => r0 w' (hxr.trans he)
      have hcp := fun (w' : World) (he : Ext wr w') => Hcp.out k hlt B' c' w' (hrow.ext (hxr.trans he))
      have Hc := Lib.hid hcp
      clear r0 hrow hcp Hpa Hcp
      rcases panelE_cases (pnA ps k) with ⟨h1, h2⟩ | ⟨h1, h2⟩
      · rw [h1] at Hc
        have hnx : ∀ j, j < k + 1 → panelP (pnA ps j) := fun j hj => by
          by_cases e : j = k
          · subst e; exact h2
          · exact Hall.out j (by omega)
        have Hnx := Lib.hid hnx
        clear hnx h1 h2
        go_wp2_with (go_at_call 25; refine (Hc.out _ (Ext.refl _)).mono ?_; rintro e w5 ⟨rfl, hx5⟩)
        go_roundw
        case rel => exact ⟨k + 1, by omega, by go_num, hex.trans hx5, Hnx.out⟩
        case measure => simp [intOf]; omega
      · rw [h1] at Hc
        have hb := Bad1.out k hlt h2
        have Hb := Lib.hid hb
        clear hb h1 h2
        go_wp2_with (go_at_call 25; refine (Hc.out _ (Ext.refl _)).mono ?_; rintro e w5 ⟨rfl, hx5⟩)
        go_ret
        exact ⟨ret_i Hb.out, hxr.trans hx5⟩
    · obtain rfl : np = k := by omega
      have Hps := Hall
      have b1 : ∀ w', Ext wr w' → _ := fun w' he => B0.out w' (hex.trans he)
      clear Hall Hpa Hcp Bad1
      go_wp2
      clear b1
      obtain ⟨wo, rfl⟩ : ∃ wo : World, wo = wr := ⟨_, rfl⟩
      go_loopw [44] (fun i wr => ∃ k : Nat, k ≤ nh ∧ i = .int .i64 k ∧ Ext w0 wr ∧ ∀ j, j < k → hingeB (hgA hs j)) (fun i _ => nh - (intOf i).toNat)
      case atStart => exact ⟨0, by omega, rfl, hex, fun i h => absurd h (by omega)⟩
      case round =>
        obtain ⟨k, hk, rfl, hex, hall⟩ := hrel
        have Hall := Lib.hid hall
        clear hall
        by_cases hlt : k < nh
        · obtain ⟨ad, rfl, r0, r1, r2, r3, r4⟩ := Hha.out k hlt
          have hxr := Hx0.out.trans hex
          have q0 : ∀ w', Ext wr w' → _ := fun w' he => r0 w' (hxr.trans he)
          have q1 : ∀ w', Ext wr w' → _ := fun w' he => r1 w' (hxr.trans he)
          have q2 : ∀ w', Ext wr w' → _ := fun w' he => r2 w' (hxr.trans he)
          have q3 : ∀ w', Ext wr w' → _ := fun w' he => r3 w' (hxr.trans he)
          have q4 : ∀ w', Ext wr w' → _ := fun w' he => r4 w' (hxr.trans he)
          clear r0 r1 r2 r3 r4 Hha
          have hsm : ∀ w' g, Blk w' g [vint (hgA hs k).a.x, vint (hgA hs k).a.y, vint (hgA hs k).b.x, vint (hgA hs k).b.y] → Calls Try.prog 60 #[.slice (some ⟨g, 0, none⟩) 2 2] w' fun e w'' => e = .returned (.bool (smallB [(hgA hs k).a, (hgA hs k).b])) ∧ Ext w' w'' := fun w' g hb =>
            small_any (some ⟨g, 0, none⟩) 2 [(hgA hs k).a, (hgA hs k).b] w' (fun j hj => by
              refine ⟨_, rfl, ?_⟩
              rw [add_zero']
              rcases (by simp [Sp.cells] at hj; omega : j = 0 ∨ j = 1 ∨ j = 2 ∨ j = 3) with rfl | rfl | rfl | rfl
              · exact hb.c 0 _ rfl
              · exact hb.c 1 _ rfl
              · exact hb.c 2 _ rfl
              · exact hb.c 3 _ rfl) (by simp)
          have hspec : hingeB (hgA hs k) ↔ smallB [(hgA hs k).a, (hgA hs k).b] = true ∧ 0 ≤ (hgA hs k).ang ∧ (hgA hs k).ang ≤ 35 := by
            rw [smallB_spec]; simp [hingeB, and_assoc]
          have hb2 := Bad2.out k hlt
          have Hsm := Lib.hid hsm
          have Hspec := Lib.hid hspec
          have Hb2 := Lib.hid hb2
          clear hsm hspec hb2
          have hnx : hingeB (hgA hs k) → ∀ j, j < k + 1 → hingeB (hgA hs j) := fun h j hj => by
            by_cases e : j = k
            · subst e; exact h
            · exact Hall.out j (by omega)
          have Hnx := Lib.hid hnx
          clear hnx
          generalize smallB [(hgA hs k).a, (hgA hs k).b] = S at Hsm Hspec
          have ARM : True := trivial
          cases S
          · have hb := Hb2.out (fun h => by have := Hspec.out.1 h; simp at this)
            have Hb := Lib.hid hb
            clear hb Hb2 Hspec Hnx
            go_wp2_with (go_at_call 60; refine (Hsm.out _ _ (Blk.new' (cs := #[vint (hgA hs k).a.x, vint (hgA hs k).a.y, vint (hgA hs k).b.x, vint (hgA hs k).b.y]) (by simp))).mono ?_; rintro e w5 ⟨rfl, hx5⟩; have h7 := ((Blk.new (W := wr) #[vint (hgA hs k).a.x, vint (hgA hs k).a.y, vint (hgA hs k).b.x, vint (hgA hs k).b.y, vint (hgA hs k).ang] 85).ext ((Ext.refl _).alloc _)).ext hx5; have s4 := h7.at_ 4 rfl)
            go_ret
            exact ⟨ret_i Hb.out, hxr.trans ((((Ext.refl _).alloc _).alloc _).trans hx5)⟩
          · have hcase : (hgA hs k).ang < 0 ∨ 35 < (hgA hs k).ang ∨ (0 ≤ (hgA hs k).ang ∧ (hgA hs k).ang ≤ 35) := by omega
            have Hbd := Lib.hid (fun h : ¬ (0 ≤ (hgA hs k).ang ∧ (hgA hs k).ang ≤ 35) => Hb2.out (fun hh => h (Hspec.out.1 hh).2))
            have Hgd := Lib.hid (fun h : 0 ≤ (hgA hs k).ang ∧ (hgA hs k).ang ≤ 35 => Hnx.out (Hspec.out.2 ⟨rfl, h⟩))
            clear Hb2 Hspec Hnx
            rcases hcase with ha | ha | ha
            · have hb := Lib.hid (Hbd.out (by omega))
              have e1 : decide ((hgA hs k).ang < 0) = true := by simpa using ha
              go_wp2_with (go_at_call 60; refine (Hsm.out _ _ (Blk.new' (cs := #[vint (hgA hs k).a.x, vint (hgA hs k).a.y, vint (hgA hs k).b.x, vint (hgA hs k).b.y]) (by simp))).mono ?_; rintro e w5 ⟨rfl, hx5⟩; have h7 := ((Blk.new (W := wr) #[vint (hgA hs k).a.x, vint (hgA hs k).a.y, vint (hgA hs k).b.x, vint (hgA hs k).b.y, vint (hgA hs k).ang] 85).ext ((Ext.refl _).alloc _)).ext hx5; have s4 := h7.at_ 4 rfl)
              go_ret
              exact ⟨ret_i hb, hxr.trans ((((Ext.refl _).alloc _).alloc _).trans hx5)⟩
            · have hb := Lib.hid (Hbd.out (by omega))
              have e1 : decide ((hgA hs k).ang < 0) = false := by simp; omega
              have e2 : 36 ≤ (hgA hs k).ang := by omega
              go_wp2_with (go_at_call 60; refine (Hsm.out _ _ (Blk.new' (cs := #[vint (hgA hs k).a.x, vint (hgA hs k).a.y, vint (hgA hs k).b.x, vint (hgA hs k).b.y]) (by simp))).mono ?_; rintro e w5 ⟨rfl, hx5⟩; have h7 := ((Blk.new (W := wr) #[vint (hgA hs k).a.x, vint (hgA hs k).a.y, vint (hgA hs k).b.x, vint (hgA hs k).b.y, vint (hgA hs k).ang] 85).ext ((Ext.refl _).alloc _)).ext hx5; have s4 := h7.at_ 4 rfl)
              go_ret
              exact ⟨ret_i hb, hxr.trans ((((Ext.refl _).alloc _).alloc _).trans hx5)⟩
            · have hb := Lib.hid (Hgd.out ha)
              have e1 : decide ((hgA hs k).ang < 0) = false := by simp; omega
              have e2 : ¬ 36 ≤ (hgA hs k).ang := by omega
              go_wp2_with (go_at_call 60; refine (Hsm.out _ _ (Blk.new' (cs := #[vint (hgA hs k).a.x, vint (hgA hs k).a.y, vint (hgA hs k).b.x, vint (hgA hs k).b.y]) (by simp))).mono ?_; rintro e w5 ⟨rfl, hx5⟩; have h7 := ((Blk.new (W := wr) #[vint (hgA hs k).a.x, vint (hgA hs k).a.y, vint (hgA hs k).b.x, vint (hgA hs k).b.y, vint (hgA hs k).ang] 85).ext ((Ext.refl _).alloc _)).ext hx5; have s4 := h7.at_ 4 rfl)
              go_roundw
              case rel => exact ⟨k + 1, by omega, by go_num, hex.trans ((((Ext.refl _).alloc _).alloc _).trans hx5), hb⟩
              case measure => simp [intOf]; omega
        · obtain rfl : nh = k := by omega
          go_wp2
          go_ret
          exact ⟨ret_i (Good.out Hps.out Hall.out), Hx0.out.trans hex⟩
end Go.Proofs.Yteilglljigjefaa

/- A linkage is valid: by the code, whatever its sizes. -/
namespace Go.Proofs.Yteilglljigjefaa
open Go.RowKit
theorem check_any (A : Option Addr) (c : Nat) (ps : List (List Sp)) (B : Option Addr) (d : Nat) (hs : List Hg) (w : World) (hA : PnRow w A ps) (hB : HRow w B hs) (hl : ps.length ≤ 1000) (hp : ∀ k, k < ps.length → (pnA ps k).length ≤ 1000) :
    Calls Try.prog 30 #[.agg #[.slice A ps.length c, .slice B hs.length d]] w fun e w' => e = .returned (.int .i64 (checkE ps hs)) ∧ Ext w w' := by
  by_cases h : (1 ≤ ps.length ∧ ps.length ≤ 4) ∧ hs.length + 1 = ps.length
  · exact check_loops A c ps B d hs w hA hB hp h
  · rw [← checkE_bad fun hl => h ⟨hl.1, hl.2.1⟩]
    exact check_size A c ps.length hs.length B d w hl h
end Go.Proofs.Yteilglljigjefaa

/- A panel is valid: by the reference. -/
namespace Go.Proofs.Yteilglljigjefaa
open Go.RowKit
section
variable {P : Program} {ops : Array Oper} {S : Spec} {w0 : World}
/-- An operation that is not wanted. -/
theorem calm_skip {Q : Act → Fx → Prop} {o : Oper} {l : List Oper} {k : Nat} {a : Act} {F : Fx} (hw : Region.wanted o (yielded ops a.tmps) = false)
    (hn : wpCalm P ops S w0 Q l (k + 1) (a.put o.dst undef) F) : wpCalm P ops S w0 Q (o :: l) k a F :=
  ⟨fun h => by (rw [hw] at h; cases h), fun h => by (rw [hw] at h; cases h), fun _ => hn⟩
end
theorem panelB_good {l : List Sp} (h : panelP l) : true = panelB l := (decide_eq_true h).symm
theorem panelB_bad {l : List Sp} (h : ¬ panelP l) : false = panelB l := (decide_eq_false h).symm
set_option maxRecDepth 100000 in
set_option maxHeartbeats 4000000 in
theorem vpanel_size (A : Option Addr) (c n : Nat) (w : World) (hl : n ≤ 1000) (h : ¬ (3 ≤ n ∧ n ≤ 8)) :
    Calls Try.prog 63 #[.slice A n c] w fun e w' => e = .returned (.bool false) ∧ Ext w w' := by
  by_cases h1 : n < 3
  · have d1 : decide ((n : Int) < 3) = true := by simp; omega
    go_enter Try.func63, Try.ntmps63
    go_wp2
    go_ret
    exact ⟨rfl, Ext.refl _⟩
  · have d1 : decide ((n : Int) < 3) = false := by simp; omega
    have d2 : decide ((8 : Int) < (n : Int)) = true := by simp; omega
    go_enter Try.func63, Try.ntmps63
    go_wp2
    go_ret
    exact ⟨rfl, Ext.refl _⟩
set_option maxRecDepth 100000 in
set_option maxHeartbeats 8000000 in
theorem vpanel_loops (A : Option Addr) (c : Nat) (l : List Sp) (w : World) (hA : SRow w A l) (h3 : 3 ≤ l.length) (h8 : l.length ≤ 8) :
    Calls Try.prog 63 #[.slice A l.length c] w fun e w' => e = .returned (.bool (panelB l)) ∧ Ext w w' := by
  have good : (∀ k, k < l.length → spotD (ptA l k) = true) → (∀ i, i < l.length → ∀ k, k < l.length → cvxAt l i k) → true = panelB l := fun h1 h2 => panelB_good ⟨⟨h3, h8⟩, fun s hs => by
    obtain ⟨k, hk, rfl⟩ := List.getElem_of_mem hs
    have := h1 k hk
    rw [ptA_at hk] at this
    simpa [spotD] using this, h2⟩
  have bad1 : ∀ k, k < l.length → spotD (ptA l k) = false → false = panelB l := fun k hk h => panelB_bad fun hp => by
    have := hp.spot hk
    simp [spotD, this] at h
  have bad : ∀ i, i < l.length → ∀ k, k < l.length → ¬ cvxAt l i k → false = panelB l := fun i hi k hk h => panelB_bad fun hp => h (hp.2.2 i hi k hk)
  have hcv : ∀ i k, cvxAt l i k ↔ (k ≠ i → k ≠ (i + 1) % l.length → 0 < sd (ptA l i) (ptA l ((i + 1) % l.length)) (ptA l k)) := fun _ _ => Iff.rfl
  have hat := fun k (hk : k < l.length) => hA.at_ hk
  have hsp := fun k (w' : World) => spot_any (ptA l k) w'
  have hlf : (∀ k, k < l.length → spotD (ptA l k) = true) → ∀ i, i < l.length → ∀ k, k < l.length → ∀ w' : World, Calls Try.prog 88 #[(ptA l i).val, (ptA l ((i + 1) % l.length)).val, (ptA l k).val] w' fun e w'' => e = .returned (.int .i64 (sd (ptA l i) (ptA l ((i + 1) % l.length)) (ptA l k))) ∧ Ext w' w'' := fun h i hi k hk w' => by
    have hq : ∀ k, k < l.length → spotB (ptA l k) := fun k hk => by have := h k hk; simpa [spotD] using this
    exact left_any _ _ _ w' (hq i hi) (hq _ (Nat.mod_lt _ (by omega))) (hq k hk)
  have Good := Lib.hid good
  have Bad1 := Lib.hid bad1
  have Bad := Lib.hid bad
  have Hcv := Lib.hid hcv
  have Hat := Lib.hid hat
  have Hsp := Lib.hid hsp
  have Hlf := Lib.hid hlf
  clear good bad1 bad hcv hat hsp hlf hA
  generalize panelB l = E at Good Bad1 Bad ⊢
  generalize l.length = n at *
  have d1 : decide ((n : Int) < 3) = false := by simp; omega
  have d2 : decide ((8 : Int) < (n : Int)) = false := by simp; omega
  go_enter Try.func63, Try.ntmps63
  go_wp2
  go_loopw [3] (fun i wr => ∃ k : Nat, k ≤ n ∧ i = .int .i64 k ∧ Ext w wr ∧ ∀ j, j < k → spotD (ptA l j) = true) (fun i _ => n - (intOf i).toNat)
  case atStart => exact ⟨0, by omega, rfl, Ext.refl _, fun i h => absurd h (by omega)⟩
  case round =>
    obtain ⟨k, hk, rfl, hex, hall⟩ := hrel
    have Hall := Lib.hid hall
    clear hall
    by_cases hlt : k < n
    · obtain ⟨ad, rfl, r0, r1⟩ := Hat.out k hlt
      have q0 : ∀ w', Ext wr w' → _ := fun w' he => r0 w' (hex.trans he)
      have q1 : ∀ w', Ext wr w' → _ := fun w' he => r1 w' (hex.trans he)
      have hs := Hsp.out k
      have hb := Bad1.out k hlt
      have hnx : spotD (ptA l k) = true → ∀ j, j < k + 1 → spotD (ptA l j) = true := fun h j hj => by
        by_cases e : j = k
        · subst e; exact h
        · exact Hall.out j (by omega)
      have Hs := Lib.hid hs
      have Hb := Lib.hid hb
      have Hnx := Lib.hid hnx
      clear r0 r1 hs hb hnx Hat Hsp Good Bad1 Bad Hcv Hlf
      generalize spotD (ptA l k) = S at Hs Hb Hnx
      generalize ptA l k = s at q0 q1 Hs
      cases S
      · have hb := Hb.out rfl
        have Hb' := Lib.hid hb
        clear hb Hb Hnx
        go_wp2_with (go_at_call 83; refine (Hs.out _).mono ?_; rintro e w5 ⟨rfl, hx5⟩)
        go_ret
        exact ⟨ret_b Hb'.out, hex.trans hx5⟩
      · have hb := Hnx.out rfl
        have Hb' := Lib.hid hb
        clear hb Hb Hnx
        go_wp2_with (go_at_call 83; refine (Hs.out _).mono ?_; rintro e w5 ⟨rfl, hx5⟩)
        go_roundw
        case rel => exact ⟨k + 1, by omega, by go_num, hex.trans hx5, Hb'.out⟩
        case measure => simp [intOf]; omega
    · obtain rfl : n = k := by omega
      have hlf := Hlf.out Hall.out
      have hgd := Good.out Hall.out
      have Hlf' := Lib.hid hlf
      have Hgd := Lib.hid hgd
      clear hlf hgd Hlf Good Hall Bad1 Hsp
      go_wp2
      obtain ⟨wo, rfl⟩ : ∃ wo : World, wo = wr := ⟨_, rfl⟩
      go_loopw [4] (fun i wr => ∃ k : Nat, k ≤ n ∧ i = .int .i64 k ∧ Ext w wr ∧ ∀ i, i < k → ∀ k, k < n → cvxAt l i k) (fun i _ => n - (intOf i).toNat)
      case atStart => exact ⟨0, by omega, rfl, hex, fun i h => absurd h (by omega)⟩
      case round =>
        obtain ⟨i, hi, rfl, hex, hall⟩ := hrel
        have Hall := Lib.hid hall
        clear hall
        by_cases hlt : i < n
        · have e2 : ((i : Int) + 1).tmod (n : Int) = (((i + 1) % n : Nat) : Int) := by
            rw [Int.tmod_eq_emod_of_nonneg (by omega)]; exact (by push_cast; rfl)
          have e3 : ((n : Int) = 0) = False := by simp; omega
          have hi1 := Nat.mod_lt (i + 1) (show 0 < n by omega)
          have hd := Hlf'.out i hlt
          have hcv := Hcv.out i
          have hbd := Bad.out i hlt
          have Hd := Lib.hid hd
          have Hcv' := Lib.hid hcv
          have Hbd := Lib.hid hbd
          clear hd hcv hbd Hlf' Hcv Bad
          generalize (i + 1) % n = i1 at *
          have b1 : (i1 : Int) < (n : Int) := by omega
          have b2 : (i : Int) < (n : Int) := by omega
          go_wp2
          obtain ⟨wo, rfl⟩ : ∃ wo : World, wo = wr := ⟨_, rfl⟩
          go_loopw [6] (fun i' wr => ∃ k : Nat, k ≤ n ∧ i' = .int .i64 k ∧ Ext w wr ∧ ∀ k', k' < k → cvxAt l i k') (fun i _ => n - (intOf i).toNat)
          case atStart => exact ⟨0, by omega, rfl, hex, fun i h => absurd h (by omega)⟩
          case round =>
            obtain ⟨k, hk, rfl, hex, hall2⟩ := hrel
            have Hall2 := Lib.hid hall2
            clear hall2
            by_cases hlt2 : k < n
            · have b3 : (k : Int) < (n : Int) := by omega
              have hnx : cvxAt l i k → ∀ k', k' < k + 1 → cvxAt l i k' := fun h k' hj => by
                by_cases e : k' = k
                · subst e; exact h
                · exact Hall2.out k' (by omega)
              have hcvk := Hcv'.out k
              have hbk := Hbd.out k hlt2
              have hdk := Hd.out k hlt2
              obtain ⟨ad, rfl, a0, a1⟩ := Hat.out i hlt
              obtain ⟨_, ee, m0, m1⟩ := Hat.out i1 hi1
              cases ee
              obtain ⟨_, ee, c0, c1⟩ := Hat.out k hlt2
              cases ee
              have p0 : ∀ w', Ext wr w' → _ := fun w' he => a0 w' (hex.trans he)
              have p1 : ∀ w', Ext wr w' → _ := fun w' he => a1 w' (hex.trans he)
              have p2 : ∀ w', Ext wr w' → _ := fun w' he => m0 w' (hex.trans he)
              have p3 : ∀ w', Ext wr w' → _ := fun w' he => m1 w' (hex.trans he)
              have p4 : ∀ w', Ext wr w' → _ := fun w' he => c0 w' (hex.trans he)
              have p5 : ∀ w', Ext wr w' → _ := fun w' he => c1 w' (hex.trans he)
              have Hnx := Lib.hid hnx
              have Hcvk := Lib.hid hcvk
              have Hbk := Lib.hid hbk
              have Hdk := Lib.hid hdk
              clear a0 a1 m0 m1 c0 c1 hnx hcvk hbk hdk Hat Hcv' Hbd Hd
              generalize hD : sd (ptA l i) (ptA l i1) (ptA l k) = D at Hdk Hcvk
              clear hD
              generalize ptA l i = u at *
              generalize ptA l i1 = v at *
              generalize ptA l k = z at *
              by_cases hki : k = i
              · have hc := Hnx.out (Hcvk.out.2 fun h => absurd hki h)
                have Hc := Lib.hid hc
                have d3 : ((k : Int) != (i : Int)) = false := by simp [hki]
                clear hc Hnx Hcvk Hbk Hdk hki
                go_wp2
                refine wp_region_calm 24 (fun _ _ _ _ => True) (fun _ _ _ _ _ _ h => h) (by kernel_rfl) (by kernel_rfl) ?_
                simp only [List.take_succ_cons, List.take_zero, List.drop_succ_cons, List.drop_zero]
                refine calm_quiet calm_mono_final 21 (by kernel_rfl) ?_
                simp only [List.take_succ_cons, List.take_zero, List.drop_succ_cons, List.drop_zero]
                repeat (go_big_quiet_step (fail))
                refine wpQuiet_nil ?_
                refine calm_skip (by kernel_rfl) ?_
                simp only [Act.put, List.setIfInBounds_toArray, List.set_cons_succ, List.set_cons_zero]
                refine calm_quiet calm_mono_final 2 (by kernel_rfl) ?_
                simp only [List.take_succ_cons, List.take_zero, List.drop_succ_cons, List.drop_zero]
                repeat (go_big_quiet_step (fail))
                refine wpQuiet_nil ?_
                refine calm_nil fun w3 he3 _ => ?_
                go_wp2
                go_roundw
                case rel => exact ⟨k + 1, by omega, by go_num, hex.trans he3, Hc.out⟩
                case measure => simp [intOf]; omega
              · have d3 : ((k : Int) != (i : Int)) = true := by simp; omega
                by_cases hk1 : k = i1
                · have hc := Hnx.out (Hcvk.out.2 fun _ h => absurd hk1 h)
                  have Hc := Lib.hid hc
                  have d4 : ((k : Int) != (i1 : Int)) = false := by simp [hk1]
                  clear hc Hnx Hcvk Hbk Hdk hki hk1
                  go_wp2
                  refine wp_region_calm 24 (fun _ _ _ _ => True) (fun _ _ _ _ _ _ h => h) (by kernel_rfl) (by kernel_rfl) ?_
                  simp only [List.take_succ_cons, List.take_zero, List.drop_succ_cons, List.drop_zero]
                  refine calm_quiet calm_mono_final 21 (by kernel_rfl) ?_
                  simp only [List.take_succ_cons, List.take_zero, List.drop_succ_cons, List.drop_zero]
                  repeat (go_big_quiet_step (fail))
                  refine wpQuiet_nil ?_
                  refine calm_skip (by kernel_rfl) ?_
                  simp only [Act.put, List.setIfInBounds_toArray, List.set_cons_succ, List.set_cons_zero]
                  refine calm_quiet calm_mono_final 2 (by kernel_rfl) ?_
                  simp only [List.take_succ_cons, List.take_zero, List.drop_succ_cons, List.drop_zero]
                  repeat (go_big_quiet_step (fail))
                  refine wpQuiet_nil ?_
                  refine calm_nil fun w3 he3 _ => ?_
                  go_wp2
                  go_roundw
                  case rel => exact ⟨k + 1, by omega, by go_num, hex.trans he3, Hc.out⟩
                  case measure => simp [intOf]; omega
                · have d4 : ((k : Int) != (i1 : Int)) = true := by simp; omega
                  by_cases hD : 0 < D
                  · have d5 : decide (D ≤ 0) = false := by simp; omega
                    have hc := Hnx.out (Hcvk.out.2 fun _ _ => hD)
                    have Hc := Lib.hid hc
                    clear hc Hnx Hcvk Hbk hki hk1 hD
                    go_wp2
                    refine wp_region_calm 24 (fun j _ v _ => j = 21 → v = .int .i64 D) (fun _ _ _ _ _ _ h => h) (by kernel_rfl) (by kernel_rfl) ?_
                    simp only [List.take_succ_cons, List.take_zero, List.drop_succ_cons, List.drop_zero]
                    refine calm_quiet calm_mono_final 21 (by kernel_rfl) ?_
                    simp only [List.take_succ_cons, List.take_zero, List.drop_succ_cons, List.drop_zero]
                    repeat (go_big_quiet_step (fail))
                    refine wpQuiet_nil ?_
                    refine calm_call calm_mono_final 88 #[u.val, v.val, z.val] rfl (fun w => ?_) (fun w he hF => ?_) ?_
                    · go_simp
                    · exact (Hdk.out w).mono fun e w'' ⟨he', hx⟩ => ⟨_, he', hx, fun _ => rfl⟩
                    rintro _ _ _ h
                    cases h rfl
                    simp only [Act.put, List.setIfInBounds_toArray, List.set_cons_succ, List.set_cons_zero]
                    refine calm_quiet calm_mono_final 2 (by kernel_rfl) ?_
                    simp only [List.take_succ_cons, List.take_zero, List.drop_succ_cons, List.drop_zero]
                    repeat (go_big_quiet_step (fail))
                    refine wpQuiet_nil ?_
                    refine calm_nil fun w3 he3 _ => ?_
                    go_wp2
                    go_roundw
                    case rel => exact ⟨k + 1, by omega, by go_num, hex.trans he3, Hc.out⟩
                    case measure => simp [intOf]; omega
                  · have d5 : decide (D ≤ 0) = true := by simp; omega
                    have hc := Hbk.out fun h => hD (Hcvk.out.1 h hki hk1)
                    have Hc := Lib.hid hc
                    clear hc Hnx Hcvk Hbk hki hk1 hD
                    go_wp2
                    refine wp_region_calm 24 (fun j _ v _ => j = 21 → v = .int .i64 D) (fun _ _ _ _ _ _ h => h) (by kernel_rfl) (by kernel_rfl) ?_
                    simp only [List.take_succ_cons, List.take_zero, List.drop_succ_cons, List.drop_zero]
                    refine calm_quiet calm_mono_final 21 (by kernel_rfl) ?_
                    simp only [List.take_succ_cons, List.take_zero, List.drop_succ_cons, List.drop_zero]
                    repeat (go_big_quiet_step (fail))
                    refine wpQuiet_nil ?_
                    refine calm_call calm_mono_final 88 #[u.val, v.val, z.val] rfl (fun w => ?_) (fun w he hF => ?_) ?_
                    · go_simp
                    · exact (Hdk.out w).mono fun e w'' ⟨he', hx⟩ => ⟨_, he', hx, fun _ => rfl⟩
                    rintro _ _ _ h
                    cases h rfl
                    simp only [Act.put, List.setIfInBounds_toArray, List.set_cons_succ, List.set_cons_zero]
                    refine calm_quiet calm_mono_final 2 (by kernel_rfl) ?_
                    simp only [List.take_succ_cons, List.take_zero, List.drop_succ_cons, List.drop_zero]
                    repeat (go_big_quiet_step (fail))
                    refine wpQuiet_nil ?_
                    refine calm_nil fun w3 he3 _ => ?_
                    go_wp2
                    go_ret
                    exact ⟨ret_b Hc.out, hex.trans he3⟩
            · obtain rfl : n = k := by omega
              clear Hat Hcv' Hbd Hd
              go_wp2
              go_roundw
              case rel => exact ⟨i + 1, by omega, by go_num, hex, fun i' h => by
                by_cases e : i' = i
                · subst e; exact Hall2.out
                · exact Hall.out i' (by omega)⟩
              case measure => simp [intOf]; omega
        · obtain rfl : n = i := by omega
          clear Hlf' Hcv Bad Hat
          go_wp2
          go_ret
          exact ⟨ret_b (Hgd.out Hall.out), hex⟩
theorem vpanel_any (A : Option Addr) (c : Nat) (l : List Sp) (w : World) (hA : SRow w A l) (hl : l.length ≤ 1000) :
    Calls Try.prog 63 #[.slice A l.length c] w fun e w' => e = .returned (.bool (panelB l)) ∧ Ext w w' := by
  by_cases h : 3 ≤ l.length ∧ l.length ≤ 8
  · exact vpanel_loops A c l w hA h.1 h.2
  · rw [← panelB_bad fun hp => h hp.1]
    exact vpanel_size A c _ w hl h
end Go.Proofs.Yteilglljigjefaa

/- A linkage is valid: by the reference. -/
namespace Go.Proofs.Yteilglljigjefaa
open Go.RowKit
theorem linkB_good {ps : List (List Sp)} {hs : List Hg} (h : linkP ps hs) : true = linkB ps hs := (decide_eq_true h).symm
theorem linkB_bad {ps : List (List Sp)} {hs : List Hg} (h : ¬ linkP ps hs) : false = linkB ps hs := (decide_eq_false h).symm
theorem hingeB_iff (h : Hg) : hingeB h ↔ spotD h.a = true ∧ spotD h.b = true ∧ withinB h.ang 0 35 = true := by
  rw [withinB_true]; simp [hingeB, spotD]
set_option maxRecDepth 100000 in
set_option maxHeartbeats 4000000 in
theorem valid_size (A : Option Addr) (c np nh : Nat) (B : Option Addr) (d : Nat) (w : World) (hp : np ≤ 1000) (hbad : ¬ ((1 ≤ np ∧ np ≤ 4) ∧ nh + 1 = np)) :
    Calls Try.prog 65 #[.agg #[.slice A np c, .slice B nh d]] w fun e w' => e = .returned (.bool false) ∧ Ext w w' := by
  by_cases h1 : np < 1
  · have d1 : decide ((np : Int) < 1) = true := by simp; omega
    go_enter Try.func65, Try.ntmps65
    go_wp2
    all_goals go_ret
    all_goals exact ⟨rfl, (Ext.refl _).alloc _⟩
  · have d1 : decide ((np : Int) < 1) = false := by simp; omega
    by_cases h2 : 4 < np
    · have d2 : decide ((4 : Int) < (np : Int)) = true := by simp; omega
      go_enter Try.func65, Try.ntmps65
      go_wp2
      all_goals go_ret
      all_goals exact ⟨rfl, (Ext.refl _).alloc _⟩
    · have d2 : decide ((4 : Int) < (np : Int)) = false := by simp; omega
      have d3 : ((nh : Int) != (np : Int) - 1) = true := by simp; omega
      go_enter Try.func65, Try.ntmps65
      go_wp2
      all_goals go_ret
      all_goals exact ⟨rfl, (Ext.refl _).alloc _⟩
set_option maxRecDepth 100000 in
set_option maxHeartbeats 8000000 in
theorem valid_loops (A : Option Addr) (c : Nat) (ps : List (List Sp)) (B : Option Addr) (d : Nat) (hs : List Hg) (w : World) (hA : PnRow w A ps) (hB : HRow w B hs) (hp : ∀ k, k < ps.length → (pnA ps k).length ≤ 1000) (hn : (1 ≤ ps.length ∧ ps.length ≤ 4) ∧ hs.length + 1 = ps.length) :
    Calls Try.prog 65 #[.agg #[.slice A ps.length c, .slice B hs.length d]] w fun e w' => e = .returned (.bool (linkB ps hs)) ∧ Ext w w' := by
  have good : (∀ k, k < ps.length → panelB (pnA ps k) = true) → (∀ k, k < hs.length → hingeB (hgA hs k)) → true = linkB ps hs := fun h1 h2 => linkB_good (linkP_iff.2 ⟨hn.1, hn.2, fun k hk => of_decide_eq_true (h1 k hk), h2⟩)
  have bad1 : ∀ k, k < ps.length → panelB (pnA ps k) = false → false = linkB ps hs := fun k hk h => linkB_bad fun hl => absurd ((linkP_iff.1 hl).2.2.1 k hk) (of_decide_eq_false h)
  have bad2 : ∀ k, k < hs.length → ¬ hingeB (hgA hs k) → false = linkB ps hs := fun k hk h => linkB_bad fun hl => h ((linkP_iff.1 hl).2.2.2 k hk)
  have hpa := fun k (hk : k < ps.length) => hA.at_ hk
  have hha := fun k (hk : k < hs.length) => hB.at_ hk
  have hcp := fun (k : Nat) (hk : k < ps.length) (A : Option Addr) (c : Nat) (w' : World) (h : SRow w' A (pnA ps k)) => vpanel_any A c (pnA ps k) w' h (hp k hk)
  have hsp := fun (s : Sp) (w' : World) => spot_any s w'
  have hwi := fun (n lo hi : Int) (w' : World) => within_any n lo hi w'
  have Good := Lib.hid good
  have Bad1 := Lib.hid bad1
  have Bad2 := Lib.hid bad2
  have Hpa := Lib.hid hpa
  have Hha := Lib.hid hha
  have Hcp := Lib.hid hcp
  have Hsp := Lib.hid hsp
  have Hwi := Lib.hid hwi
  clear good bad1 bad2 hpa hha hcp hA hB hp hsp hwi
  generalize linkB ps hs = E at Good Bad1 Bad2 ⊢
  generalize ps.length = np at *
  generalize hs.length = nh at *
  have d1 : decide ((np : Int) < 1) = false := by simp; omega
  have d2 : decide ((4 : Int) < (np : Int)) = false := by simp; omega
  have d3 : ((nh : Int) != (np : Int) - 1) = false := by simp; omega
  have kb : Blk (w.alloc (.cells #[.slice A np c, .slice B nh d] 25)) w.heap.size [.slice A np c, .slice B nh d] := Blk.new _ _
  have b0 := kb.at_ 0 rfl
  have b1 := kb.at_ 1 rfl
  have hx0 : Ext w (w.alloc (.cells #[.slice A np c, .slice B nh d] 25)) := (Ext.refl _).alloc _
  have B0 := Lib.hid b0
  have B1 := Lib.hid b1
  have Hx0 := Lib.hid hx0
  clear b0 b1 kb hx0
  go_enter Try.func65, Try.ntmps65
  go_wp2
  generalize (w.alloc (.cells #[.slice A np c, .slice B nh d] 25)) = w0 at B0 B1 Hx0 ⊢
  go_loopw [3] (fun i wr => ∃ k : Nat, k ≤ np ∧ i = .int .i64 k ∧ Ext w0 wr ∧ ∀ j, j < k → panelB (pnA ps j) = true) (fun i _ => np - (intOf i).toNat)
  case atStart => exact ⟨0, by omega, rfl, Ext.refl _, fun i h => absurd h (by omega)⟩
  case round =>
    obtain ⟨k, hk, rfl, hex, hall⟩ := hrel
    have Hall := Lib.hid hall
    clear hall
    have p0 : ∀ w', Ext wr w' → _ := fun w' he => B0.out w' (hex.trans he)
    by_cases hlt : k < np
    · obtain ⟨ad, B', c', rfl, r0, hrow⟩ := Hpa.out k hlt
      have hxr := Hx0.out.trans hex
      have q0 : ∀ w', Ext wr w' → _ := fun w' he => r0 w' (hxr.trans he)
      have hcp := fun (w' : World) (he : Ext wr w') => Hcp.out k hlt B' c' w' (hrow.ext (hxr.trans he))
      have hnx : panelB (pnA ps k) = true → ∀ j, j < k + 1 → panelB (pnA ps j) = true := fun h j hj => by
        by_cases e : j = k
        · subst e; exact h
        · exact Hall.out j (by omega)
      have hb := Bad1.out k hlt
      have Hc := Lib.hid hcp
      have Hnx := Lib.hid hnx
      have Hb := Lib.hid hb
      clear r0 hrow hcp Hpa Hcp hnx hb Hall Good Bad1 Bad2 Hha Hsp Hwi
      generalize panelB (pnA ps k) = S at Hc Hnx Hb
      cases S
      · have hb := Hb.out rfl
        have Hb' := Lib.hid hb
        clear hb Hb Hnx
        go_wp2_with (go_at_call 63; refine (Hc.out _ (Ext.refl _)).mono ?_; rintro e w5 ⟨rfl, hx5⟩)
        go_ret
        exact ⟨ret_b Hb'.out, hxr.trans hx5⟩
      · have hb := Hnx.out rfl
        have Hb' := Lib.hid hb
        clear hb Hb Hnx
        go_wp2_with (go_at_call 63; refine (Hc.out _ (Ext.refl _)).mono ?_; rintro e w5 ⟨rfl, hx5⟩)
        go_roundw
        case rel => exact ⟨k + 1, by omega, by go_num, hex.trans hx5, Hb'.out⟩
        case measure => simp [intOf]; omega
    · obtain rfl : np = k := by omega
      have Hps := Hall
      clear Hall Hpa Hcp Bad1
      go_wp2
      clear p0
      obtain ⟨wo, rfl⟩ : ∃ wo : World, wo = wr := ⟨_, rfl⟩
      go_loopw [4] (fun i wr => ∃ k : Nat, k ≤ nh ∧ i = .int .i64 k ∧ Ext w0 wr ∧ ∀ j, j < k → hingeB (hgA hs j)) (fun i _ => nh - (intOf i).toNat)
      case atStart => exact ⟨0, by omega, rfl, hex, fun i h => absurd h (by omega)⟩
      case round =>
        obtain ⟨k, hk, rfl, hex, hall⟩ := hrel
        have Hall := Lib.hid hall
        clear hall
        have p1 : ∀ w', Ext wr w' → _ := fun w' he => B1.out w' (hex.trans he)
        by_cases hlt : k < nh
        · obtain ⟨ad, rfl, r0, r1, r2, r3, r4⟩ := Hha.out k hlt
          have hxr := Hx0.out.trans hex
          have q0 : ∀ w', Ext wr w' → _ := fun w' he => r0 w' (hxr.trans he)
          have q1 : ∀ w', Ext wr w' → _ := fun w' he => r1 w' (hxr.trans he)
          have q2 : ∀ w', Ext wr w' → _ := fun w' he => r2 w' (hxr.trans he)
          have q3 : ∀ w', Ext wr w' → _ := fun w' he => r3 w' (hxr.trans he)
          have q4 : ∀ w', Ext wr w' → _ := fun w' he => r4 w' (hxr.trans he)
          clear r0 r1 r2 r3 r4 Hha
          have hnx : hingeB (hgA hs k) → ∀ j, j < k + 1 → hingeB (hgA hs j) := fun h j hj => by
            by_cases e : j = k
            · subst e; exact h
            · exact Hall.out j (by omega)
          have hb2 := Bad2.out k hlt
          rw [hingeB_iff] at hnx hb2
          have sa := Hsp.out (hgA hs k).a
          have sb := Hsp.out (hgA hs k).b
          have sw := Hwi.out (hgA hs k).ang 0 35
          have k9 : ∀ w', Ext (wr.alloc (.cells #[vint (hgA hs k).a.x, vint (hgA hs k).a.y, vint (hgA hs k).b.x, vint (hgA hs k).b.y, vint (hgA hs k).ang] 85)) w' → Blk w' wr.heap.size #[vint (hgA hs k).a.x, vint (hgA hs k).a.y, vint (hgA hs k).b.x, vint (hgA hs k).b.y, vint (hgA hs k).ang].toList := fun w' he => (Blk.new _ _).ext he
          have Hnx := Lib.hid hnx
          have Hb2 := Lib.hid hb2
          have Sa := Lib.hid sa
          have Sb := Lib.hid sb
          have Sw := Lib.hid sw
          have K9 := Lib.hid k9
          clear hnx hb2 sa sb sw k9 Hall Bad2 Hsp Hwi Good Hps
          generalize spotD (hgA hs k).a = S1 at *
          generalize spotD (hgA hs k).b = S2 at *
          generalize withinB (hgA hs k).ang 0 35 = S3 at *
          obtain ⟨⟨ax, ay⟩, ⟨bx, bY⟩, an⟩ := hgA hs k
          simp only at q0 q1 q2 q3 q4 Sa Sb Sw K9
          cases S1
          · have hb := Hb2.out (by simp)
            have Hb := Lib.hid hb
            clear hb Hb2 Hnx
            go_wp2_with (go_at_call 83; refine (Sa.out _).mono ?_; rintro e w5 ⟨rfl, hx5⟩)
            go_ret
            exact ⟨ret_b Hb.out, hxr.trans (((Ext.refl _).alloc _).trans hx5)⟩
          · cases S2
            · have hb := Hb2.out (by simp)
              have Hb := Lib.hid hb
              clear hb Hb2 Hnx
              go_wp2_with (first
                | (go_at_call 83; ((with_reducible refine (Sa.out _).mono ?_); rintro e w5 ⟨rfl, hx5⟩; have h5 := K9.out _ hx5; have s2 := h5.at_ 2 rfl; have s3 := h5.at_ 3 rfl; clear h5))
                | (go_at_call 83; ((with_reducible refine (Sb.out _).mono ?_); rintro e w6 ⟨rfl, hx6⟩)))
              go_ret
              exact ⟨ret_b Hb.out, hxr.trans ((((Ext.refl _).alloc _).trans hx5).trans hx6)⟩
            · cases S3
              · have hb := Hb2.out (by simp)
                have Hb := Lib.hid hb
                clear hb Hb2 Hnx
                go_wp2_with (first
                  | (go_at_call 83; ((with_reducible refine (Sa.out _).mono ?_); rintro e w5 ⟨rfl, hx5⟩; have h5 := K9.out _ hx5; have s2 := h5.at_ 2 rfl; have s3 := h5.at_ 3 rfl; have s4 := h5.at_ 4 rfl; clear h5))
                  | (go_at_call 83; ((with_reducible refine (Sb.out _).mono ?_); rintro e w6 ⟨rfl, hx6⟩))
                  | (go_at_call 58; refine (Sw.out _).mono ?_; rintro e w7 ⟨rfl, rfl⟩))
                go_ret
                exact ⟨ret_b Hb.out, hxr.trans ((((Ext.refl _).alloc _).trans hx5).trans hx6)⟩
              · have hb := Hnx.out (by simp)
                have Hb := Lib.hid hb
                clear hb Hb2 Hnx
                go_wp2_with (first
                  | (go_at_call 83; ((with_reducible refine (Sa.out _).mono ?_); rintro e w5 ⟨rfl, hx5⟩; have h5 := K9.out _ hx5; have s2 := h5.at_ 2 rfl; have s3 := h5.at_ 3 rfl; have s4 := h5.at_ 4 rfl; clear h5))
                  | (go_at_call 83; ((with_reducible refine (Sb.out _).mono ?_); rintro e w6 ⟨rfl, hx6⟩))
                  | (go_at_call 58; refine (Sw.out _).mono ?_; rintro e w7 ⟨rfl, rfl⟩))
                go_roundw
                case rel => exact ⟨k + 1, by omega, by go_num, hex.trans ((((Ext.refl _).alloc _).trans hx5).trans hx6), Hb.out⟩
                case measure => simp [intOf]; omega
        · obtain rfl : nh = k := by omega
          have hg := Good.out Hps.out Hall.out
          have Hg := Lib.hid hg
          clear hg Good Hps Hall Bad2 Hha
          go_wp2
          go_ret
          exact ⟨ret_b Hg.out, Hx0.out.trans hex⟩
theorem valid_any (A : Option Addr) (c : Nat) (ps : List (List Sp)) (B : Option Addr) (d : Nat) (hs : List Hg) (w : World) (hA : PnRow w A ps) (hB : HRow w B hs) (hl : ps.length ≤ 1000) (hp : ∀ k, k < ps.length → (pnA ps k).length ≤ 1000) :
    Calls Try.prog 65 #[.agg #[.slice A ps.length c, .slice B hs.length d]] w fun e w' => e = .returned (.bool (linkB ps hs)) ∧ Ext w w' := by
  by_cases h : (1 ≤ ps.length ∧ ps.length ≤ 4) ∧ hs.length + 1 = ps.length
  · exact valid_loops A c ps B d hs w hA hB hp h
  · rw [← linkB_bad fun hl => h ⟨hl.1, hl.2.1⟩]
    exact valid_size A c ps.length hs.length B d w hl h
end Go.Proofs.Yteilglljigjefaa

/- Poses and corners: by both. -/
namespace Go.Proofs.Yteilglljigjefaa
open Go.RowKit
theorem spot_elem : ElemInfo 27 (.agg #[.int .i64 0, .int .i64 0]) 2 16 := ⟨info_parts (by kernel_rfl), rfl, by decide⟩
abbrev OwnS (w1 w : World) (v : Value) (xs : List Sp) : Prop := Own w1 w 27 2 v xs.length (xs.map Sp.cells).flatten
theorem OwnS.row {w1 w : World} {A : Option Addr} {m c : Nat} {xs : List Sp} (h : OwnS w1 w (.slice A m c) xs) : SRow w A xs := Own.row h
theorem OwnP.row {w1 w : World} {A : Option Addr} {m c : Nat} {xs : List Ps} (h : OwnP w1 w (.slice A m c) xs) : PRow w A xs := Own.row h
/-- A linkage in memory. -/
structure Lk (w : World) (A : Option Addr) (ps : List (List Sp)) (B : Option Addr) (hs : List Hg) : Prop where
  hA : PnRow w A ps
  hB : HRow w B hs
  np : ps.length ≤ 1000
  nh : hs.length ≤ 1000
  hp : ∀ k, k < ps.length → (pnA ps k).length ≤ 1000
theorem Lk.ext {w w' : World} {A : Option Addr} {ps : List (List Sp)} {B : Option Addr} {hs : List Hg} (h : Lk w A ps B hs) (he : Ext w w') : Lk w' A ps B hs := ⟨h.hA.ext he, h.hB.ext he, h.np, h.nh, h.hp⟩
theorem Lk.check {w : World} {A : Option Addr} {ps : List (List Sp)} {B : Option Addr} {hs : List Hg} (h : Lk w A ps B hs) (c d : Nat) :
    Calls Try.prog 30 #[.agg #[.slice A ps.length c, .slice B hs.length d]] w fun e w' => e = .returned (.int .i64 (checkE ps hs)) ∧ Ext w w' := check_any A c ps B d hs w h.hA h.hB h.np h.hp
theorem Lk.valid {w : World} {A : Option Addr} {ps : List (List Sp)} {B : Option Addr} {hs : List Hg} (h : Lk w A ps B hs) (c d : Nat) :
    Calls Try.prog 65 #[.agg #[.slice A ps.length c, .slice B hs.length d]] w fun e w' => e = .returned (.bool (linkB ps hs)) ∧ Ext w w' := valid_any A c ps B d hs w h.hA h.hB h.np h.hp
theorem linkP.nh {ps : List (List Sp)} {hs : List Hg} (h : linkP ps hs) : hs.length ≤ 3 := by have := h.1; have := h.2.1; omega
theorem linkP.hinges {ps : List (List Sp)} {hs : List Hg} (h : linkP ps hs) : ∀ h ∈ hs, hingeB h := h.2.2.2
theorem linkB_eq {ps : List (List Sp)} {hs : List Hg} : (linkP ps hs ∧ linkB ps hs = true ∧ checkE ps hs = 0) ∨ (¬ linkP ps hs ∧ linkB ps hs = false ∧ checkE ps hs = 50) := by
  by_cases h : linkP ps hs
  · exact .inl ⟨h, decide_eq_true h, (checkE_good h).symm⟩
  · exact .inr ⟨h, decide_eq_false h, (checkE_bad h).symm⟩
def posesR (ps : List (List Sp)) (hs : List Hg) : List Ps := if linkB ps hs = true then posesL hs else []
set_option maxRecDepth 100000 in
set_option maxHeartbeats 4000000 in
theorem poses_all (A : Option Addr) (c : Nat) (ps : List (List Sp)) (B : Option Addr) (d : Nat) (hs : List Hg) (w : World) (hL : Lk w A ps B hs) :
    Calls Try.prog 27 #[.agg #[.slice A ps.length c, .slice B hs.length d]] w fun e w' => ∃ v, e = .returned (.tuple #[v, .int .i64 (checkE ps hs)]) ∧ OwnP w w' v (posesR ps hs) := by
  have hck := fun w' (he : Ext w w') => Lk.check (hL.ext he) c d
  have hpo := fun (h : linkP ps hs) w' (he : Ext w w') => poses_any A ps.length c B d hs w' (hL.hB.ext he) h.nh h.hinges
  unfold posesR
  rcases linkB_eq (ps := ps) (hs := hs) with ⟨h1, h2, h3⟩ | ⟨h1, h2, h3⟩
  · rw [h2, h3, if_pos rfl]
    rw [h3] at hck
    have hpo := hpo h1
    have Hck := Lib.hid hck
    have Hpo := Lib.hid hpo
    clear hck hpo hL h1 h2 h3
    generalize ps.length = np at *
    generalize hs.length = nh at *
    have kb : Blk (w.alloc (.cells #[.slice A np c, .slice B nh d] 25)) w.heap.size [.slice A np c, .slice B nh d] := Blk.new _ _
    have b0 := kb.at_ 0 rfl
    have b1 := kb.at_ 1 rfl
    have hx0 : Ext w (w.alloc (.cells #[.slice A np c, .slice B nh d] 25)) := (Ext.refl _).alloc _
    have Hx0 := Lib.hid hx0
    clear kb hx0
    go_enter Try.func27, Try.ntmps27
    go_wp2_with (first
      | (go_at_call 30; refine (Hck.out _ Hx0.out).mono ?_; rintro e w1 ⟨rfl, hx1⟩; have hxx := Hx0.out.trans hx1)
      | (go_at_call 64; refine (Hpo.out _ hxx).mono ?_; rintro e w2 ⟨v, rfl, hown⟩))
    go_ret2
    exact ⟨_, rfl, hown.since hxx⟩
  · rw [h2, h3, if_neg (by simp)]
    rw [h3] at hck
    have Hck := Lib.hid hck
    clear hck hpo hL h1 h2 h3
    generalize ps.length = np at *
    generalize hs.length = nh at *
    have kb : Blk (w.alloc (.cells #[.slice A np c, .slice B nh d] 25)) w.heap.size [.slice A np c, .slice B nh d] := Blk.new _ _
    have b0 := kb.at_ 0 rfl
    have b1 := kb.at_ 1 rfl
    have hx0 : Ext w (w.alloc (.cells #[.slice A np c, .slice B nh d] 25)) := (Ext.refl _).alloc _
    have Hx0 := Lib.hid hx0
    clear kb hx0
    go_enter Try.func27, Try.ntmps27
    go_wp2_with (go_at_call 30; refine (Hck.out _ Hx0.out).mono ?_; rintro e w1 ⟨rfl, hx1⟩; have hxx := Hx0.out.trans hx1)
    go_ret2
    exact ⟨_, rfl, Own.nil' hxx _ _⟩
set_option maxRecDepth 100000 in
set_option maxHeartbeats 4000000 in
theorem poses_ref (A : Option Addr) (c : Nat) (ps : List (List Sp)) (B : Option Addr) (d : Nat) (hs : List Hg) (w : World) (hL : Lk w A ps B hs) :
    Calls Try.prog 28 #[.agg #[.slice A ps.length c, .slice B hs.length d]] w fun e w' => ∃ v, e = .returned (.tuple #[v, .int .i64 (checkE ps hs)]) ∧ OwnP w w' v (posesR ps hs) := by
  have hck := fun w' (he : Ext w w') => Lk.valid (hL.ext he) c d
  have hpo := fun (h : linkP ps hs) w' (he : Ext w w') => placed_any A ps.length c B d hs w' (hL.hB.ext he) h.nh h.hinges
  unfold posesR
  rcases linkB_eq (ps := ps) (hs := hs) with ⟨h1, h2, h3⟩ | ⟨h1, h2, h3⟩
  · rw [h2, h3, if_pos rfl]
    rw [h2] at hck
    have hpo := hpo h1
    have Hck := Lib.hid hck
    have Hpo := Lib.hid hpo
    clear hck hpo hL h1 h2 h3
    generalize ps.length = np at *
    generalize hs.length = nh at *
    have kb : Blk (w.alloc (.cells #[.slice A np c, .slice B nh d] 25)) w.heap.size [.slice A np c, .slice B nh d] := Blk.new _ _
    have b0 := kb.at_ 0 rfl
    have b1 := kb.at_ 1 rfl
    have hx0 : Ext w (w.alloc (.cells #[.slice A np c, .slice B nh d] 25)) := (Ext.refl _).alloc _
    have Hx0 := Lib.hid hx0
    clear kb hx0
    go_enter Try.func28, Try.ntmps28
    go_wp2_with (first
      | (go_at_call 65; refine (Hck.out _ Hx0.out).mono ?_; rintro e w1 ⟨rfl, hx1⟩; have hxx := Hx0.out.trans hx1)
      | (go_at_call 66; refine (Hpo.out _ hxx).mono ?_; rintro e w2 ⟨v, rfl, hown⟩))
    go_ret2
    exact ⟨_, rfl, hown.since hxx⟩
  · rw [h2, h3, if_neg (by simp)]
    rw [h2] at hck
    have Hck := Lib.hid hck
    clear hck hpo hL h1 h2 h3
    generalize ps.length = np at *
    generalize hs.length = nh at *
    have kb : Blk (w.alloc (.cells #[.slice A np c, .slice B nh d] 25)) w.heap.size [.slice A np c, .slice B nh d] := Blk.new _ _
    have b0 := kb.at_ 0 rfl
    have b1 := kb.at_ 1 rfl
    have hx0 : Ext w (w.alloc (.cells #[.slice A np c, .slice B nh d] 25)) := (Ext.refl _).alloc _
    have Hx0 := Lib.hid hx0
    clear kb hx0
    go_enter Try.func28, Try.ntmps28
    go_wp2_with (go_at_call 65; refine (Hck.out _ Hx0.out).mono ?_; rintro e w1 ⟨rfl, hx1⟩; have hxx := Hx0.out.trans hx1)
    go_ret2
    exact ⟨_, rfl, Own.nil' hxx _ _⟩
/-- A panel's corners. -/
def crnS (p : Ps) (l : List Sp) : List Sp := l.map (plc p)
theorem crnS_len (p : Ps) (l : List Sp) : (crnS p l).length = l.length := by simp [crnS]
theorem crnS_take {p : Ps} {l : List Sp} {k : Nat} (hk : k < l.length) : (crnS p l).take (k + 1) = (crnS p l).take k ++ [plc p (ptA l k)] := by
  have h : k < (crnS p l).length := by rw [crnS_len]; exact hk
  rw [List.take_succ_eq_append_getElem h, ptA_at hk]
  simp [crnS]
theorem crn_crnS {p : Ps} {l : List Sp} {k : Nat} (hk : k < l.length) : cAt (crn p l) k = ⟨plc p (ptA l k), p.d⟩ := by rw [cAt_at (by rw [crn_len]; exact hk), crn_at]
theorem posesL_psA {hs : List Hg} {k : Nat} (h : k ≤ hs.length) : psA (posesL hs) k = posF hs k := by
  rw [psA_at (by rw [posesL_len]; omega), posesL_at]
set_option maxRecDepth 100000 in
set_option maxHeartbeats 8000000 in
theorem cornered_any (A : Option Addr) (c : Nat) (ps : List (List Sp)) (B : Option Addr) (d : Nat) (hs : List Hg) (i : Nat) (w : World) (hL : Lk w A ps B hs) (hl : linkP ps hs) (hi : i < ps.length) :
    Calls Try.prog 67 #[.agg #[.slice A ps.length c, .slice B hs.length d], .int .i64 i] w fun e w' => ∃ v, e = .returned (.tuple #[v, .int .i64 (posF hs i).d]) ∧ OwnS w w' v (crnS (posF hs i) (pnA ps i)) := by
  have hpl := fun w' (he : Ext w w') => placed_any A ps.length c B d hs w' (hL.hB.ext he) hl.nh hl.hinges
  have hok := link_pose hl hi
  have hps := hl.2.1
  have hpn := (linkP_iff.1 hl).2.2.1 i hi
  obtain ⟨ad, B', c', rfl, r0, hrow⟩ := hL.hA.at_ hi
  have hsp := fun k (hk : k < (pnA ps i).length) => hrow.at_ hk
  have hat := fun k (hk : k < (pnA ps i).length) (w' : World) => at_any (posF hs i) (ptA (pnA ps i) k) w' (psOk hok) (hpn.spot hk)
  have htk := fun k (hk : k < (pnA ps i).length) => crnS_take (p := posF hs i) hk
  have hln := crnS_len (posF hs i) (pnA ps i)
  have hpA := posesL_psA (hs := hs) (k := i) (by omega)
  have hpl2 := posesL_len hs
  have hn8 := hpn.1.2
  have Hpl := Lib.hid hpl
  have Hsp := Lib.hid hsp
  have Hat := Lib.hid hat
  have Htk := Lib.hid htk
  have HpA := Lib.hid hpA
  have Hpl2 := Lib.hid hpl2
  clear hpl hok hsp hat htk hpA hpl2 hL hl hpn
  generalize posesL hs = PL at *
  generalize crnS (posF hs i) (pnA ps i) = L at *
  generalize posF hs i = p at *
  generalize ptA (pnA ps i) = P at *
  generalize (pnA ps i).length = m at *
  generalize hs.length = nh at *
  generalize ps.length = np at *
  have kb : Blk (w.alloc (.cells #[.slice (some ad) np c, .slice B nh d] 25)) w.heap.size [.slice (some ad) np c, .slice B nh d] := Blk.new _ _
  have hx0 : Ext w (w.alloc (.cells #[.slice (some ad) np c, .slice B nh d] 25)) := (Ext.refl _).alloc _
  have b0 := kb.at_ 0 rfl
  have b1 := kb.at_ 1 rfl
  have Hx0 := Lib.hid hx0
  have B0 := Lib.hid b0
  clear hx0 kb
  have hi2 : (i : Int) < ((nh + 1 : Nat) : Int) := by omega
  go_enter Try.func67, Try.ntmps67
  go_wp2_with (go_at_call 66; refine (Hpl.out _ Hx0.out).mono ?_; rintro e w1 ⟨v, rfl, hown0⟩; unfold OwnP at hown0; rw [Hpl2.out] at hown0; obtain ⟨g, cg, rfl, _, _⟩ := hown0.at_ (by omega); have hrow1 : PRow w1 (some ⟨g, 0, none⟩) PL := Own.row hown0; have hx1 := Hx0.out.trans hown0.ext; obtain ⟨_, ee, p0, p1, p2, p3, p4⟩ := hrow1.at_ (k := i) (by rw [Hpl2.out]; omega); cases ee; simp only [HpA.out, add_zero'] at p0 p1 p2 p3 p4)
  have k2 : Blk (w1.alloc (.cells #[vint p.p, vint p.q, vint p.x, vint p.y, vint p.d] 82)) w1.heap.size [vint p.p, vint p.q, vint p.x, vint p.y, vint p.d] := Blk.new _ _
  have hx2 : Ext w (w1.alloc (.cells #[vint p.p, vint p.q, vint p.x, vint p.y, vint p.d] 82)) := hx1.alloc _
  have hx3 : Ext (w.alloc (.cells #[.slice (some ad) np c, .slice B nh d] 25)) (w1.alloc (.cells #[vint p.p, vint p.q, vint p.x, vint p.y, vint p.d] 82)) := hown0.ext.alloc _
  generalize (w1.alloc (.cells #[vint p.p, vint p.q, vint p.x, vint p.y, vint p.d] 82)) = w2 at k2 hx2 hx3 ⊢
  have c0 : ∀ w', Ext w2 w' → _ := fun w' he => B0.out w' (hx3.trans he)
  have r1 : ∀ w', Ext w2 w' → _ := fun w' he => r0 w' (hx2.trans he)
  have q0 := k2.at_ 0 rfl
  have q1 := k2.at_ 1 rfl
  have q2 := k2.at_ 2 rfl
  have q3 := k2.at_ 3 rfl
  have q4 := k2.at_ 4 rfl
  have Hx2 := Lib.hid hx2
  clear p0 p1 p2 p3 p4 b0 b1 hrow1 hown0 hx1 hx3 k2 hrow r0 B0 Hx0 Hpl HpA hx2 Hpl2
  generalize w1.heap.size = g2 at *
  go_loopw [8, 7] (fun i v wr => ∃ k : Nat, k ≤ m ∧ i = .int .i64 k ∧ Own w2 wr 27 2 v k ((L.take k).map Sp.cells).flatten) (fun i _ _ => m - (intOf i).toNat)
  case atStart => exact ⟨0, by omega, rfl, Own.nil _ _ _⟩
  case round =>
    obtain ⟨k, hk, rfl, hown⟩ := hrel
    obtain ⟨A4, c4, rfl⟩ := hown.form
    have hex := hown.ext
    have c1 : ∀ w', Ext wr w' → _ := fun w' he => c0 w' (hex.trans he)
    have c2 : ∀ w', Ext wr w' → _ := fun w' he => r1 w' (hex.trans he)
    by_cases hlt : k < m
    · obtain ⟨ad', rfl, s0, s1⟩ := Hsp.out k hlt
      have hxw := Hx2.out.trans hex
      have t0 : ∀ w', Ext wr w' → _ := fun w' he => s0 w' (hxw.trans he)
      have t1 : ∀ w', Ext wr w' → _ := fun w' he => s1 w' (hxw.trans he)
      have u0 : ∀ w', Ext wr w' → _ := fun w' he => q0 w' (hex.trans he)
      have u1 : ∀ w', Ext wr w' → _ := fun w' he => q1 w' (hex.trans he)
      have u2 : ∀ w', Ext wr w' → _ := fun w' he => q2 w' (hex.trans he)
      have u3 : ∀ w', Ext wr w' → _ := fun w' he => q3 w' (hex.trans he)
      have u4 : ∀ w', Ext wr w' → _ := fun w' he => q4 w' (hex.trans he)
      have hpt := Hat.out k hlt
      have htk := Htk.out k hlt
      have Hpt := Lib.hid hpt
      have Htk' := Lib.hid htk
      clear s0 s1 hpt htk Hsp Hat Htk c0 r1 q0 q1 q2 q3 q4
      generalize hz : plc p (P k) = z at Hpt Htk'
      clear hz
      generalize P k = s at *
      have hkm : (k : Int) < (m : Int) := by omega
      have hip : (i : Int) < (np : Int) := by omega
      go_wp2
      refine wp_region_calm 12 (fun j _ v _ => j = 10 → v = z.val) (fun _ _ _ _ _ _ h => h) (by kernel_rfl) (by kernel_rfl) ?_
      simp only [List.take_succ_cons, List.take_zero, List.drop_succ_cons, List.drop_zero]
      refine calm_quiet calm_mono_final 10 (by kernel_rfl) ?_
      simp only [List.take_succ_cons, List.take_zero, List.drop_succ_cons, List.drop_zero]
      repeat (go_big_quiet_step (fail))
      refine wpQuiet_nil ?_
      refine calm_call calm_mono_final 47 #[p.val, s.val] rfl (fun w => ?_) (fun w he hF => ?_) ?_
      · go_simp
      · exact (Hpt.out w).mono fun e w'' ⟨he', hx⟩ => ⟨_, he', hx, fun _ => rfl⟩
      rintro _ _ _ h
      cases h rfl
      simp only [Act.put, List.setIfInBounds_toArray, List.set_cons_succ, List.set_cons_zero]
      refine calm_alloc calm_mono_final (fun b => .slice (some ⟨b, 0, none⟩) 1 1) (.cells z.cells.toArray 27) (fun b c h => by simpa using h) rfl (fun w => ?_) (fun b hb => ?_)
      · go_simp
        rfl
      simp only [Act.put, List.setIfInBounds_toArray, List.set_cons_succ, List.set_cons_zero]
      refine calm_nil fun w3 he3 hF => ?_
      have hrow3 := row_heap ((hF 11).2 rfl)
      clear hF
      have hov := hown.later he3
      have Hfl := Lib.hid (show ((L.take (k + 1)).map Sp.cells).flatten = ((L.take k).map Sp.cells).flatten ++ z.cells by rw [Htk'.out]; simp)
      go_wp2_with (refine own_append_src (w1 := w2) spot_elem rfl _ _ 39 rfl Try.underlying39 _ k _ rfl hov _ 1 1 _ rfl rfl hrow3 (by intro u hu; simp [Sp.cells] at hu; rcases hu with rfl | rfl <;> rfl) (by omega) (by unfold maxLen; omega) ?_; intro v' w' ho _)
      go_roundw
      case rel => exact ⟨k + 1, by omega, by go_num, by rw [Hfl.out]; exact ho⟩
      case measure => simp [intOf]; omega
    · obtain rfl : m = k := by omega
      have u4 : ∀ w', Ext wr w' → _ := fun w' he => q4 w' (hex.trans he)
      have hip : (i : Int) < (np : Int) := by omega
      have Hown := Lib.hid hown
      clear hown q0 q1 q2 q3 q4 c0 r1
      go_wp2
      refine wp_region_calm 5 (fun _ _ _ _ => True) (fun _ _ _ _ _ _ h => h) (by kernel_rfl) (by kernel_rfl) ?_
      simp only [List.take_succ_cons, List.take_zero, List.drop_succ_cons, List.drop_zero]
      refine calm_quiet calm_mono_final 5 (by kernel_rfl) ?_
      simp only [List.take_succ_cons, List.take_zero, List.drop_succ_cons, List.drop_zero]
      repeat (go_big_quiet_step (fail))
      refine wpQuiet_nil ?_
      refine calm_nil fun w3 he3 _ => ?_
      go_wp2
      go_ret2
      refine ⟨.slice A4 m c4, rfl, ?_⟩
      have ho := Hown.out.later he3
      rw [List.take_of_length_le (by omega)] at ho
      show Own w w3 _ 2 _ L.length _
      rw [hln]
      exact ho.since Hx2.out
end Go.Proofs.Yteilglljigjefaa

/- Corners: by both. -/
namespace Go.Proofs.Yteilglljigjefaa
open Go.RowKit
def inP (ps : List (List Sp)) (x : Int) : Prop := 0 ≤ x ∧ x < ps.length
instance (ps : List (List Sp)) (x : Int) : Decidable (inP ps x) := by unfold inP; infer_instance
def cornL (ps : List (List Sp)) (hs : List Hg) (x : Int) : List Sp := if linkP ps hs ∧ inP ps x then crnS (posF hs x.toNat) (pnA ps x.toNat) else []
def cornD (ps : List (List Sp)) (hs : List Hg) (x : Int) : Int := if linkP ps hs ∧ inP ps x then (posF hs x.toNat).d else 0
def cornE (ps : List (List Sp)) (hs : List Hg) (x : Int) : Int := if linkP ps hs then (if inP ps x then 0 else 2) else 50
theorem corn_bad {ps : List (List Sp)} {hs : List Hg} {x : Int} (h : ¬ linkP ps hs) : cornL ps hs x = [] ∧ cornD ps hs x = 0 ∧ cornE ps hs x = 50 := by simp [cornL, cornD, cornE, h]
theorem corn_out {ps : List (List Sp)} {hs : List Hg} {x : Int} (h : linkP ps hs) (h2 : ¬ inP ps x) : cornL ps hs x = [] ∧ cornD ps hs x = 0 ∧ cornE ps hs x = 2 := by simp [cornL, cornD, cornE, h, h2]
theorem corn_good {ps : List (List Sp)} {hs : List Hg} {i : Nat} (h : linkP ps hs) (h2 : i < ps.length) : cornL ps hs i = crnS (posF hs i) (pnA ps i) ∧ cornD ps hs i = (posF hs i).d ∧ cornE ps hs i = 0 := by
  have h3 : inP ps i := ⟨by omega, by omega⟩
  simp [cornL, cornD, cornE, h, h3]
set_option maxRecDepth 100000 in
set_option maxHeartbeats 4000000 in
theorem corners_ref (A : Option Addr) (c : Nat) (ps : List (List Sp)) (B : Option Addr) (d : Nat) (hs : List Hg) (x : Int) (w : World) (hL : Lk w A ps B hs) :
    Calls Try.prog 33 #[.agg #[.slice A ps.length c, .slice B hs.length d], .int .i64 x] w fun e w' => ∃ v, e = .returned (.tuple #[v, .int .i64 (cornD ps hs x), .int .i64 (cornE ps hs x)]) ∧ OwnS w w' v (cornL ps hs x) := by
  have hck := fun w' (he : Ext w w') => (hL.ext he).valid c d
  rcases linkB_eq (ps := ps) (hs := hs) with ⟨h1, h2, h3⟩ | ⟨h1, h2, h3⟩
  · rw [h2] at hck
    have hwi := fun (n lo hi : Int) (w' : World) => within_any n lo hi w'
    by_cases h4 : inP ps x
    · obtain ⟨i, rfl⟩ := Int.eq_ofNat_of_zero_le h4.1
      have hi : i < ps.length := by have := h4.2; omega
      obtain ⟨e1, e2, e3⟩ := corn_good h1 hi
      rw [e1, e2, e3]
      have hcd := fun w' (he : Ext w w') => cornered_any A c ps B d hs i w' (hL.ext he) h1 hi
      have hw0 := h1.1
      have hwt : withinB (i : Int) 0 ((ps.length : Int) - 1) = true := withinB_true.2 (by omega)
      have hwi := hwi i 0 ((ps.length : Int) - 1)
      rw [hwt] at hwi
      have Hck := Lib.hid hck
      have Hcd := Lib.hid hcd
      have Hwi := Lib.hid hwi
      clear hck hcd hwi hL h1 h2 h3 h4 e1 e2 e3 hwt
      generalize crnS (posF hs i) (pnA ps i) = L at *
      generalize (posF hs i).d = D at *
      generalize ps.length = np at *
      generalize hs.length = nh at *
      have kb : Blk (w.alloc (.cells #[.slice A np c, .slice B nh d] 25)) w.heap.size [.slice A np c, .slice B nh d] := Blk.new _ _
      have b0 := kb.at_ 0 rfl
      have b1 := kb.at_ 1 rfl
      have hx0 : Ext w (w.alloc (.cells #[.slice A np c, .slice B nh d] 25)) := (Ext.refl _).alloc _
      have Hx0 := Lib.hid hx0
      clear kb hx0
      go_enter Try.func33, Try.ntmps33
      go_wp2_with (first
        | (go_at_call 65; refine (Hck.out _ Hx0.out).mono ?_; rintro e w1 ⟨rfl, hx1⟩; have hxx := Hx0.out.trans hx1)
        | (go_at_call 58; refine (Hwi.out _).mono ?_; rintro e w2 ⟨rfl, rfl⟩)
        | (go_at_call 67; refine (Hcd.out _ hxx).mono ?_; rintro e w2 ⟨v, rfl, hown⟩))
      go_ret3
      exact ⟨_, rfl, hown.since hxx⟩
    · obtain ⟨e1, e2, e3⟩ := corn_out h1 h4
      rw [e1, e2, e3]
      have hw0 := h1.1
      have hwt : withinB x 0 ((ps.length : Int) - 1) = false := withinB_false.2 (fun h => h4 ⟨by omega, by omega⟩)
      have hwi := hwi x 0 ((ps.length : Int) - 1)
      rw [hwt] at hwi
      have Hck := Lib.hid hck
      have Hwi := Lib.hid hwi
      clear hck hwi hL h1 h2 h3 h4 e1 e2 e3 hwt
      generalize ps.length = np at *
      generalize hs.length = nh at *
      have kb : Blk (w.alloc (.cells #[.slice A np c, .slice B nh d] 25)) w.heap.size [.slice A np c, .slice B nh d] := Blk.new _ _
      have b0 := kb.at_ 0 rfl
      have b1 := kb.at_ 1 rfl
      have hx0 : Ext w (w.alloc (.cells #[.slice A np c, .slice B nh d] 25)) := (Ext.refl _).alloc _
      have Hx0 := Lib.hid hx0
      clear kb hx0
      go_enter Try.func33, Try.ntmps33
      go_wp2_with (first
        | (go_at_call 65; refine (Hck.out _ Hx0.out).mono ?_; rintro e w1 ⟨rfl, hx1⟩; have hxx := Hx0.out.trans hx1)
        | (go_at_call 58; refine (Hwi.out _).mono ?_; rintro e w2 ⟨rfl, rfl⟩))
      go_ret3
      exact ⟨_, rfl, Own.nil' hxx _ _⟩
  · obtain ⟨e1, e2, e3⟩ := corn_bad (x := x) h1
    rw [e1, e2, e3]
    rw [h2] at hck
    have Hck := Lib.hid hck
    clear hck hL h1 h2 h3 e1 e2 e3
    generalize ps.length = np at *
    generalize hs.length = nh at *
    have kb : Blk (w.alloc (.cells #[.slice A np c, .slice B nh d] 25)) w.heap.size [.slice A np c, .slice B nh d] := Blk.new _ _
    have b0 := kb.at_ 0 rfl
    have b1 := kb.at_ 1 rfl
    have hx0 : Ext w (w.alloc (.cells #[.slice A np c, .slice B nh d] 25)) := (Ext.refl _).alloc _
    have Hx0 := Lib.hid hx0
    clear kb hx0
    go_enter Try.func33, Try.ntmps33
    go_wp2_with (go_at_call 65; refine (Hck.out _ Hx0.out).mono ?_; rintro e w1 ⟨rfl, hx1⟩; have hxx := Hx0.out.trans hx1)
    go_ret3
    exact ⟨_, rfl, Own.nil' hxx _ _⟩
set_option maxRecDepth 100000 in
set_option maxHeartbeats 4000000 in
theorem corners_err (A : Option Addr) (c : Nat) (ps : List (List Sp)) (B : Option Addr) (d : Nat) (hs : List Hg) (x : Int) (w : World) (hL : Lk w A ps B hs) (hbad : ¬ (linkP ps hs ∧ inP ps x)) :
    Calls Try.prog 32 #[.agg #[.slice A ps.length c, .slice B hs.length d], .int .i64 x] w fun e w' => ∃ v, e = .returned (.tuple #[v, .int .i64 (cornD ps hs x), .int .i64 (cornE ps hs x)]) ∧ OwnS w w' v (cornL ps hs x) := by
  have hck := fun w' (he : Ext w w') => (hL.ext he).check c d
  rcases linkB_eq (ps := ps) (hs := hs) with ⟨h1, h2, h3⟩ | ⟨h1, h2, h3⟩
  · rw [h3] at hck
    have h4 : ¬ inP ps x := fun h => hbad ⟨h1, h⟩
    obtain ⟨e1, e2, e3⟩ := corn_out h1 h4
    rw [e1, e2, e3]
    have Hck := Lib.hid hck
    have h5 : x < 0 ∨ (¬ x < 0 ∧ ps.length ≤ x) := by
      by_cases h : x < 0
      · exact .inl h
      · exact .inr ⟨h, by have : ¬ (x < ps.length) := fun h' => h4 ⟨by omega, h'⟩; omega⟩
    clear hck hL h1 h2 h3 h4 e1 e2 e3 hbad
    generalize ps.length = np at *
    generalize hs.length = nh at *
    have kb : Blk (w.alloc (.cells #[.slice A np c, .slice B nh d] 25)) w.heap.size [.slice A np c, .slice B nh d] := Blk.new _ _
    have b0 := kb.at_ 0 rfl
    have b1 := kb.at_ 1 rfl
    have hx0 : Ext w (w.alloc (.cells #[.slice A np c, .slice B nh d] 25)) := (Ext.refl _).alloc _
    have Hx0 := Lib.hid hx0
    clear kb hx0
    rcases h5 with h5 | ⟨h5, h6⟩
    · have d5 : decide (x < 0) = true := by simpa using h5
      go_enter Try.func32, Try.ntmps32
      go_wp2_with (go_at_call 30; refine (Hck.out _ Hx0.out).mono ?_; rintro e w1 ⟨rfl, hx1⟩; have hxx := Hx0.out.trans hx1)
      go_ret3
      exact ⟨_, rfl, Own.nil' hxx _ _⟩
    · have d5 : decide (x < 0) = false := by simpa using h5
      have d6 : decide ((np : Int) ≤ x) = true := by simpa using h6
      go_enter Try.func32, Try.ntmps32
      go_wp2_with (go_at_call 30; refine (Hck.out _ Hx0.out).mono ?_; rintro e w1 ⟨rfl, hx1⟩; have hxx := Hx0.out.trans hx1)
      go_ret3
      exact ⟨_, rfl, Own.nil' hxx _ _⟩
  · obtain ⟨e1, e2, e3⟩ := corn_bad (x := x) h1
    rw [e1, e2, e3]
    rw [h3] at hck
    have Hck := Lib.hid hck
    clear hck hL h1 h2 h3 e1 e2 e3 hbad
    generalize ps.length = np at *
    generalize hs.length = nh at *
    have kb : Blk (w.alloc (.cells #[.slice A np c, .slice B nh d] 25)) w.heap.size [.slice A np c, .slice B nh d] := Blk.new _ _
    have b0 := kb.at_ 0 rfl
    have b1 := kb.at_ 1 rfl
    have hx0 : Ext w (w.alloc (.cells #[.slice A np c, .slice B nh d] 25)) := (Ext.refl _).alloc _
    have Hx0 := Lib.hid hx0
    clear kb hx0
    go_enter Try.func32, Try.ntmps32
    go_wp2_with (go_at_call 30; refine (Hck.out _ Hx0.out).mono ?_; rintro e w1 ⟨rfl, hx1⟩; have hxx := Hx0.out.trans hx1)
    go_ret3
    exact ⟨_, rfl, Own.nil' hxx _ _⟩
set_option maxRecDepth 100000 in
set_option maxHeartbeats 8000000 in
theorem corners_in (A : Option Addr) (c : Nat) (ps : List (List Sp)) (B : Option Addr) (d : Nat) (hs : List Hg) (i : Nat) (w : World) (hL : Lk w A ps B hs) (hl : linkP ps hs) (hi : i < ps.length) :
    Calls Try.prog 32 #[.agg #[.slice A ps.length c, .slice B hs.length d], .int .i64 i] w fun e w' => ∃ v, e = .returned (.tuple #[v, .int .i64 (posF hs i).d, .int .i64 0]) ∧ OwnS w w' v (crnS (posF hs i) (pnA ps i)) := by
  have hck := fun w' (he : Ext w w') => (hL.ext he).check c d
  rw [← checkE_good hl] at hck
  have hpl := fun w' (he : Ext w w') => poses_any A ps.length c B d hs w' (hL.hB.ext he) hl.nh hl.hinges
  have hok := link_pose hl hi
  have hps := hl.2.1
  have hpn := (linkP_iff.1 hl).2.2.1 i hi
  obtain ⟨ad, B', c', rfl, r0, hrow⟩ := hL.hA.at_ hi
  have hcs := fun w' (he : Ext w w') => corners_any (posF hs i) B' c' (pnA ps i) w' (hrow.ext he) (by have := hpn.1.2; omega) (psOk hok) hpn.2.1
  have htk := fun k (hk : k < (pnA ps i).length) => crnS_take (p := posF hs i) hk
  have hcc := fun k (hk : k < (pnA ps i).length) => crn_crnS (p := posF hs i) hk
  have hln := crnS_len (posF hs i) (pnA ps i)
  have hcl := crn_len (posF hs i) (pnA ps i)
  have hpA := posesL_psA (hs := hs) (k := i) (by omega)
  have hpl2 := posesL_len hs
  have hn8 := hpn.1.2
  have Hck := Lib.hid hck
  have Hpl := Lib.hid hpl
  have Hcs := Lib.hid hcs
  have Htk := Lib.hid htk
  have Hcc := Lib.hid hcc
  have HpA := Lib.hid hpA
  have Hpl2 := Lib.hid hpl2
  have Hcl := Lib.hid hcl
  clear hck hpl hok hcs htk hcc hpA hpl2 hL hl hpn hrow hcl
  generalize posesL hs = PL at *
  generalize crnS (posF hs i) (pnA ps i) = L at *
  generalize crn (posF hs i) (pnA ps i) = C at *
  generalize posF hs i = p at *
  generalize ptA (pnA ps i) = P at *
  generalize (pnA ps i).length = m at *
  generalize ps.length = np at *
  generalize hs.length = nh at *
  have kb : Blk (w.alloc (.cells #[.slice (some ad) np c, .slice B nh d] 25)) w.heap.size [.slice (some ad) np c, .slice B nh d] := Blk.new _ _
  have b0 := kb.at_ 0 rfl
  have b1 := kb.at_ 1 rfl
  have hx0 : Ext w (w.alloc (.cells #[.slice (some ad) np c, .slice B nh d] 25)) := (Ext.refl _).alloc _
  have Hx0 := Lib.hid hx0
  clear kb hx0
  have B0 := Lib.hid b0
  have hi2 : (i : Int) < ((nh + 1 : Nat) : Int) := by omega
  have d5 : decide ((i : Int) < 0) = false := by simp
  have d6 : decide ((np : Int) ≤ (i : Int)) = false := by simp; omega
  go_enter Try.func32, Try.ntmps32
  go_wp2_with (first
    | (go_at_call 30; refine (Hck.out _ Hx0.out).mono ?_; rintro e w0 ⟨rfl, hx1⟩; have hxx := Hx0.out.trans hx1)
    | (go_at_call 64; refine (Hpl.out _ hxx).mono ?_; rintro e w1 ⟨v, rfl, hown0⟩; unfold OwnP at hown0; rw [Hpl2.out] at hown0; obtain ⟨g, cg, rfl, _, _⟩ := hown0.at_ (by omega); have hrow1 : PRow w1 (some ⟨g, 0, none⟩) PL := Own.row hown0; have hxy := hxx.trans hown0.ext; obtain ⟨_, ee, p0, p1, p2, p3, p4⟩ := hrow1.at_ (k := i) (by rw [Hpl2.out]; omega); cases ee; simp only [HpA.out, add_zero'] at p0 p1 p2 p3 p4))
  have k2 : Blk (w1.alloc (.cells #[vint p.p, vint p.q, vint p.x, vint p.y, vint p.d] 82)) w1.heap.size [vint p.p, vint p.q, vint p.x, vint p.y, vint p.d] := Blk.new _ _
  have hx2 : Ext w (w1.alloc (.cells #[vint p.p, vint p.q, vint p.x, vint p.y, vint p.d] 82)) := hxy.alloc _
  have hx3 : Ext (w.alloc (.cells #[.slice (some ad) np c, .slice B nh d] 25)) (w1.alloc (.cells #[vint p.p, vint p.q, vint p.x, vint p.y, vint p.d] 82)) := (hx1.trans hown0.ext).alloc _
  generalize (w1.alloc (.cells #[vint p.p, vint p.q, vint p.x, vint p.y, vint p.d] 82)) = w2 at k2 hx2 hx3 ⊢
  have c0 : ∀ w', Ext w2 w' → _ := fun w' he => B0.out w' (hx3.trans he)
  have r1 : ∀ w', Ext w2 w' → _ := fun w' he => r0 w' (hx2.trans he)
  have q0 := k2.at_ 0 rfl
  have q1 := k2.at_ 1 rfl
  have q2 := k2.at_ 2 rfl
  have q3 := k2.at_ 3 rfl
  have q4 := k2.at_ 4 rfl
  have Hx2 := Lib.hid hx2
  have hcs := fun w' (he : Ext w2 w') => Hcs.out w' (hx2.trans he)
  have Hcs' := Lib.hid hcs
  clear p0 p1 p2 p3 p4 b0 b1 hrow1 hown0 hx1 hx3 k2 r0 B0 Hx0 Hpl HpA hx2 Hpl2 hxx hxy hcs Hcs Hck
  generalize w1.heap.size = g2 at *
  have hip : (i : Int) < (np : Int) := by omega
  refine wp_region_calm 9 (fun j _ v w' => j = 6 → ∃ A c, v = .slice A m c ∧ CRow w' A C) (fun _ _ _ _ _ he h hj => let ⟨A, c, e, hr⟩ := h hj; ⟨A, c, e, hr.ext he⟩) (by kernel_rfl) (by kernel_rfl) ?_
  simp only [List.take_succ_cons, List.take_zero, List.drop_succ_cons, List.drop_zero]
  refine calm_quiet calm_mono_final 6 (by kernel_rfl) ?_
  simp only [List.take_succ_cons, List.take_zero, List.drop_succ_cons, List.drop_zero]
  repeat (go_big_quiet_step (fail))
  refine wpQuiet_nil ?_
  refine calm_call calm_mono_final 61 #[p.val, .slice B' m c'] rfl (fun w => ?_) (fun w he hF => ?_) ?_
  · go_simp
  · exact (Hcs'.out w he).mono fun e w'' ⟨v, e', ho⟩ => by
      obtain ⟨A, c, rfl⟩ := ho.form
      exact ⟨_, e', ho.ext, fun _ => ⟨A, c, by rw [Hcl.out], Own.row ho⟩⟩
  intro v _ _ h
  obtain ⟨A5, c5, rfl, _⟩ := h rfl
  clear h
  simp only [Act.put, List.setIfInBounds_toArray, List.set_cons_succ, List.set_cons_zero]
  refine calm_quiet calm_mono_final 2 (by kernel_rfl) ?_
  simp only [List.take_succ_cons, List.take_zero, List.drop_succ_cons, List.drop_zero]
  repeat (go_big_quiet_step (fail))
  refine wpQuiet_nil ?_
  refine calm_nil fun w3 he3 hF => ?_
  obtain ⟨A6, c6, ee, hrow3⟩ := (hF 6).2 rfl rfl
  clear hF
  injection ee with ee _ _
  subst ee
  have Hat := Lib.hid (fun k (hk : k < m) => hrow3.at_ (k := k) (by rw [Hcl.out]; exact hk))
  have s4 : ∀ w', Ext w3 w' → _ := fun w' he => q4 w' (he3.trans he)
  have S4 := Lib.hid s4
  have Hx3 := Lib.hid (Hx2.out.trans he3)
  clear hrow3 s4 q0 q1 q2 q3 q4 c0 r1 he3 Hx2 Hcs'
  go_wp2
  go_loopw [39, 9] (fun i v wr => ∃ k : Nat, k ≤ m ∧ i = .int .i64 k ∧ Own w3 wr 27 2 v k ((L.take k).map Sp.cells).flatten) (fun i _ _ => m - (intOf i).toNat)
  case atStart => exact ⟨0, by omega, rfl, Own.nil _ _ _⟩
  case round =>
    obtain ⟨k, hk, rfl, hown⟩ := hrel
    obtain ⟨A4, c4, rfl⟩ := hown.form
    have hex := hown.ext
    by_cases hlt : k < m
    · obtain ⟨ad', rfl, s0, s1, s2⟩ := Hat.out k hlt
      have htk := Htk.out k hlt
      have hcc := Hcc.out k hlt
      rw [hcc] at s0 s1 s2
      generalize plc p (P k) = z at *
      have t0 : ∀ w', Ext wr w' → w'.cell? _ = some (.int .i64 z.x) := fun w' he => s0 w' (hex.trans he)
      have t1 : ∀ w', Ext wr w' → w'.cell? _ = some (.int .i64 z.y) := fun w' he => s1 w' (hex.trans he)
      have t2 : ∀ w', Ext wr w' → w'.cell? _ = some (.int .i64 p.d) := fun w' he => s2 w' (hex.trans he)
      have Htk' := Lib.hid htk
      clear s0 s1 s2 htk hcc Hat Htk Hcc S4
      have hkm : (k : Int) < (m : Int) := by omega
      have hov := hown.alloc (.cells #[vint z.x, vint z.y, vint p.d] 114)
      have Hfl := Lib.hid (show ((L.take (k + 1)).map Sp.cells).flatten = ((L.take k).map Sp.cells).flatten ++ z.cells by rw [Htk'.out]; simp)
      go_wp2_with (at_builtin; refine own_append (w1 := w3) spot_elem rfl _ _ 39 rfl Try.underlying39 _ k _ rfl hov #[vint z.x, vint z.y] 1 (by show Value.slice (some ⟨wr.heap.size + 1, 0, none⟩) 1 1 = _; simp) rfl (by intro u hu; simp at hu; rcases hu with rfl | rfl <;> rfl) (by omega) (by unfold maxLen; omega) ?_; intro v' w' ho _)
      go_roundw
      case rel => exact ⟨k + 1, by omega, by go_num, by rw [Hfl.out]; exact ho⟩
      case measure => simp [intOf]; omega
    · obtain rfl : m = k := by omega
      have u4 : ∀ w', Ext wr w' → _ := fun w' he => S4.out w' (hex.trans he)
      have Hown := Lib.hid hown
      clear hown Hat Hcc Htk
      go_wp2
      refine wp_region_calm 6 (fun _ _ _ _ => True) (fun _ _ _ _ _ _ h => h) (by kernel_rfl) (by kernel_rfl) ?_
      simp only [List.take_succ_cons, List.take_zero, List.drop_succ_cons, List.drop_zero]
      refine calm_quiet calm_mono_final 6 (by kernel_rfl) ?_
      simp only [List.take_succ_cons, List.take_zero, List.drop_succ_cons, List.drop_zero]
      repeat (go_big_quiet_step (fail))
      refine wpQuiet_nil ?_
      refine calm_nil fun w5 he5 _ => ?_
      go_wp2
      go_ret3
      refine ⟨.slice A4 m c4, rfl, ?_⟩
      have ho := Hown.out.later he5
      rw [List.take_of_length_le (by omega)] at ho
      show Own w w5 _ 2 _ L.length _
      rw [hln]
      exact ho.since Hx3.out
theorem corners_all (A : Option Addr) (c : Nat) (ps : List (List Sp)) (B : Option Addr) (d : Nat) (hs : List Hg) (x : Int) (w : World) (hL : Lk w A ps B hs) :
    Calls Try.prog 32 #[.agg #[.slice A ps.length c, .slice B hs.length d], .int .i64 x] w fun e w' => ∃ v, e = .returned (.tuple #[v, .int .i64 (cornD ps hs x), .int .i64 (cornE ps hs x)]) ∧ OwnS w w' v (cornL ps hs x) := by
  by_cases h : linkP ps hs ∧ inP ps x
  · obtain ⟨h1, h4⟩ := h
    obtain ⟨i, rfl⟩ := Int.eq_ofNat_of_zero_le h4.1
    have hi : i < ps.length := by have := h4.2; omega
    obtain ⟨e1, e2, e3⟩ := corn_good h1 hi
    rw [e1, e2, e3]
    exact corners_in A c ps B d hs i w hL h1 hi
  · exact corners_err A c ps B d hs x w hL h
end Go.Proofs.Yteilglljigjefaa
