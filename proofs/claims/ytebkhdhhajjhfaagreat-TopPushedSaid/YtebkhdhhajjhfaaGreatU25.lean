/- knobs: the knobs of a brick, placed. -/
import Derived.Test.YtebkhdhhajjhfaaGreatU22
import Derived.Test.YtebkhdhhajjhfaaGreatU23
import Derived.Test.YtebkhdhhajjhfaaGreatU24
import Derived.Shelf.SlGeneric
import Derived.Shelf.SlSortCmp.WholeK
import Derived.Ground.SlsfProg
import Derived.Test.YtebkhdhhajjhfaaGreatProg
import Derived.Shelf.SlSortCmp.NoneTotal
import Derived.Maps.OwnSet
namespace Go.Proofs.YtebkhdhhajjhfaaGreat.Lt
open Go.RowKit
/-- A direction, turned. -/
def dirT (d t : Nat) : Nat := ((List.range 6).find? fun j => decide (turnC (stepC d) t = stepC j)).getD 0
theorem dirT_ok : ∀ d : Nat, d < 6 → ∀ t : Nat, t < 24 → dirT d t < 6 ∧ turnC (stepC d) t = stepC (dirT d t) := by decide
/-- A knob, placed. -/
def knT (t : Nat) (o : Ce) (x : Kn) : Kn := ⟨plusC (turnC x.at_ t) o, (dirT x.dir.toNat t : Nat), x.srt⟩
def knL (ks : List Kn) (t : Nat) (o : Ce) : List Kn := ks.map (knT t o)
theorem knL_len (ks : List Kn) (t : Nat) (o : Ce) : (knL ks t o).length = ks.length := by simp [knL]
theorem knL_at {ks : List Kn} {k : Nat} (hk : k < ks.length) (t : Nat) (o : Ce) : knA (knL ks t o) k = knT t o (knA ks k) := by
  rw [knA_at (by rw [knL_len]; exact hk), knA_at hk]
  simp [knL]
theorem knob_elem : ElemInfo 144 (.agg #[.int .i64 0, .int .i64 0, .int .i64 0, .int .u8 0, .int .u8 0]) 5 32 := ⟨info_parts (by kernel_rfl), rfl, by decide⟩
def knZ : List Value := [.int .i64 0, .int .i64 0, .int .i64 0, .int .u8 0, .int .u8 0]
def fillK (l : List Kn) (k : Nat) : List Value := ((l.take k).map Kn.cells).flatten ++ (List.replicate (l.length - k) knZ).flatten
theorem zeros_len (n : Nat) : (List.replicate n knZ).flatten.length = n * 5 := by
  rw [flatten_len 5 _ (by intro r hr; rw [(List.mem_replicate.1 hr).2]; rfl), List.length_replicate]
theorem fillK_len (l : List Kn) {k : Nat} (hk : k ≤ l.length) : (fillK l k).length = l.length * 5 := by
  unfold fillK
  rw [List.length_append, Kn.cells_len, List.length_take, zeros_len, ← Nat.add_mul]
  congr 1
  omega
theorem set_five (pre post : List Value) (m : Nat) (h : pre.length = m) (x y z u v a b c d e : Value) : (((((pre ++ x :: y :: z :: u :: v :: post).set m a).set (m + 1) b).set (m + 2) c).set (m + 3) d).set (m + 4) e = pre ++ a :: b :: c :: d :: e :: post := by
  subst h
  rw [List.set_append_right _ _ (Nat.le_refl _), List.set_append_right _ _ (by omega), List.set_append_right _ _ (by omega), List.set_append_right _ _ (by omega), List.set_append_right _ _ (by omega)]
  simp
theorem fillK_set (l : List Kn) {k : Nat} (hk : k < l.length) {c : Kn} (hc : knA l k = c) : (((((fillK l k).set (k * 5) (vint c.at_.x)).set (k * 5 + 1) (vint c.at_.y)).set (k * 5 + 2) (vint c.at_.z)).set (k * 5 + 3) (vu8 c.dir)).set (k * 5 + 4) (vu8 c.srt) = fillK l (k + 1) := by
  have hp : ((l.take k).map Kn.cells).flatten.length = k * 5 := by rw [Kn.cells_len, List.length_take]; congr 1; omega
  unfold fillK
  rw [show l.length - k = (l.length - (k + 1)) + 1 by omega, List.replicate_succ, List.flatten_cons, List.take_succ_eq_append_getElem hk]
  rw [knA_at hk] at hc
  rw [hc]
  have e := set_five ((l.take k).map Kn.cells).flatten (List.replicate (l.length - (k + 1)) knZ).flatten (k * 5) hp (.int .i64 0) (.int .i64 0) (.int .i64 0) (.int .u8 0) (.int .u8 0) (vint c.at_.x) (vint c.at_.y) (vint c.at_.z) (vu8 c.dir) (vu8 c.srt)
  simp only [knZ, List.cons_append, List.nil_append] at e ⊢
  rw [e]
  simp [Kn.cells]
theorem fillK_zero (l : List Kn) : (madeCells (Value.cells (.agg #[.int .i64 0, .int .i64 0, .int .i64 0, .int .u8 0, .int .u8 0])) (l.length * 5)).toList = fillK l 0 := by
  apply List.ext_getElem?
  intro i
  by_cases hi : i < l.length * 5
  · have hr : i % 5 < 5 := Nat.mod_lt _ (by omega)
    have hq : i / 5 < (List.replicate l.length knZ).length := by rw [List.length_replicate]; omega
    have h := flatten_get 5 (List.replicate l.length knZ) (by intro r hr; rw [(List.mem_replicate.1 hr).2]; rfl) (i / 5) (i % 5) hr hq
    rw [Nat.div_add_mod'] at h
    have e : fillK l 0 = (List.replicate l.length knZ).flatten := by simp [fillK]
    rw [e, h, List.getElem_replicate]
    have h5 : i < (madeCells (Value.cells (.agg #[.int .i64 0, .int .i64 0, .int .i64 0, .int .u8 0, .int .u8 0])) (l.length * 5)).size := by simp [madeCells]; exact hi
    rw [Array.getElem?_toList, Array.getElem?_eq_getElem h5]
    rcases (by omega : i % 5 = 0 ∨ i % 5 = 1 ∨ i % 5 = 2 ∨ i % 5 = 3 ∨ i % 5 = 4) with h | h | h | h | h <;> simp [madeCells, Value.cells, knZ, h]
  · rw [List.getElem?_eq_none (by simp [madeCells]; omega), List.getElem?_eq_none (by rw [fillK_len l (Nat.zero_le _)]; omega)]
theorem fillK_all (l : List Kn) : fillK l l.length = (l.map Kn.cells).flatten := by simp [fillK]
theorem fillK_get (l : List Kn) {k j : Nat} (hk : k < l.length) (hj : j < 5) : ∃ v, (fillK l k)[k * 5 + j]? = some v := by
  have := fillK_len l (Nat.le_of_lt hk)
  exact ⟨_, List.getElem?_eq_getElem (by rw [this]; have : (k + 1) * 5 ≤ l.length * 5 := Nat.mul_le_mul_right _ hk; omega)⟩
/-- What a round of knobs has at hand. -/
theorem knT_round {k : Ki} (hk : KiOk k) (t : Nat) {j : Nat} (hj : j < k.ks.length) (h0 : 0 ≤ (knA k.ks j).dir) :
    nearP (knA k.ks j).at_ (-1000) 1000 ∧ nearP (turnC (knA k.ks j).at_ t) (-1000) 1000 ∧ (knA k.ks j).dir.toNat < 6 ∧ ((knA k.ks j).dir.toNat : Int) = (knA k.ks j).dir := by
  have hk2 := hk.kn j hj
  have hn : nearP (knA k.ks j).at_ (-1000) 1000 := by
    obtain ⟨i, hi, e⟩ := List.getElem_of_mem hk2.2.1
    have := hk.near i hi
    rw [ceA_at hi, e] at this
    unfold nearP at *
    omega
  exact ⟨hn, turnC_near hn t, by have := hk2.1.1; omega, by omega⟩
set_option maxRecDepth 100000 in
set_option maxHeartbeats 4000000 in
theorem knobs_all (k : Ki) (B : Option Addr) (b : Nat) (D : Option Addr) (d : Nat) (t : Nat) (o : Ce) (w : World) (hk : KiOk k) (h8 : ∀ i, i < k.ks.length → 0 ≤ (knA k.ks i).dir) (hD : KnRow w D k.ks) (ht : t < 24) (ho : nearP o (-1000) 1000) :
    Calls Tryz.prog 97 #[.agg #[.slice B k.cs.length b, .slice D k.ks.length d, .int .i64 k.wt], .int .i64 t, o.val] w fun e w' => ∃ g cap, e = .returned (.slice (some ⟨g, 0, none⟩) k.ks.length cap) ∧ Own w w' 144 5 (.slice (some ⟨g, 0, none⟩) k.ks.length cap) k.ks.length ((knL k.ks t o).map Kn.cells).flatten := by
  have hat := fun j (hj : j < k.ks.length) => hD.at_ hj
  have hrd := fun j (hj : j < k.ks.length) => knT_round hk t hj (h8 j hj)
  have ht1 := fun c (hc : nearP c (-1000) 1000) w' => turn_any c t ht w' (by unfold nearP at *; omega)
  have hp1 := fun c (hc : nearP c (-1000) 1000) w' => plus_any c o w' (by unfold nearP at *; omega) (by unfold nearP at *; omega)
  have hs1 := fun q (hq : q < 6) w' => step_any q hq w'
  have ht2 := fun q (hq : q < 6) w' => (show Calls Tryz.prog 59 #[(stepC q).val, .int .i64 t] w' fun e w'' => e = .returned (stepC (dirT q t)).val ∧ Ext w' w'' from by
    have h := turn_any (stepC q) t ht w' (by have := stepC_near q; unfold nearP at *; omega)
    rwa [(dirT_ok q hq t ht).2] at h)
  have hd1 := fun q (hq : q < 6) w' => direction_any (dirT q t) (dirT_ok q hq t ht).1 w'
  have hd6 := fun q (hq : q < 6) => (dirT_ok q hq t ht).1
  have hlen := knL_len k.ks t o
  have hset := fun j (hj : j < k.ks.length) => fillK_set (knL k.ks t o) (k := j) (by rw [hlen]; exact hj) (knL_at hj t o)
  have hget := fun j (hj : j < k.ks.length) i (hi : i < 5) => fillK_get (knL k.ks t o) (k := j) (j := i) (by rw [hlen]; exact hj) hi
  have hfl := fun j (hj : j ≤ k.ks.length) => fillK_len (knL k.ks t o) (k := j) (by rw [hlen]; exact hj)
  have hz := fillK_zero (knL k.ks t o)
  have hall := fillK_all (knL k.ks t o)
  have hkl : k.ks.length ≤ 48 := hk.m1
  rw [hlen] at hz hall
  simp only [hlen] at hfl
  have Hat := Lib.hid hat
  have Hrd := Lib.hid hrd
  have Ht1 := Lib.hid ht1
  have Hp1 := Lib.hid hp1
  have Hs1 := Lib.hid hs1
  have Ht2 := Lib.hid ht2
  have Hd1 := Lib.hid hd1
  have Hd6 := Lib.hid hd6
  have Hset := Lib.hid hset
  have Hget := Lib.hid hget
  have Hfl := Lib.hid hfl
  have Hz := Lib.hid hz
  have Hall := Lib.hid hall
  clear hat hrd ht1 hp1 hs1 ht2 hd1 hd6 hlen hset hget hfl hz hall hk h8 hD ht ho
  generalize knL k.ks t o = C at *
  generalize k.cs.length = nb at *
  generalize k.wt = wt at *
  generalize k.ks = ks at *
  have hkt : knT t o = fun x => ⟨plusC (turnC x.at_ t) o, (dirT x.dir.toNat t : Nat), x.srt⟩ := rfl
  rw [hkt] at Hset
  clear hkt
  generalize ks.length = n at *
  obtain ⟨ox, oy, oz⟩ := o
  have k2 : Blk ((w.alloc (.cells #[.slice B nb b, .slice D n d, .int .i64 wt] 82)).alloc (.cells #[.int .i64 ox, .int .i64 oy, .int .i64 oz] 60)) w.heap.size [.slice B nb b, .slice D n d, .int .i64 wt] := (Blk.new _ _).ext ((Ext.refl _).alloc _)
  have k3 : Blk ((w.alloc (.cells #[.slice B nb b, .slice D n d, .int .i64 wt] 82)).alloc (.cells #[.int .i64 ox, .int .i64 oy, .int .i64 oz] 60)) (w.heap.size + 1) [.int .i64 ox, .int .i64 oy, .int .i64 oz] := Blk.new' (by simp)
  have hx0 : Ext w ((w.alloc (.cells #[.slice B nb b, .slice D n d, .int .i64 wt] 82)).alloc (.cells #[.int .i64 ox, .int .i64 oy, .int .i64 oz] 60)) := ((Ext.refl _).alloc _).alloc _
  have b1 := k2.at_ 1 rfl
  go_enter Tryz.func97, Tryz.ntmps97
  go_wp2_with (refine own_make (w1 := w) knob_elem rfl _ _ rfl Tryz.underlying80 _ n rfl rfl (by omega) (by unfold maxLen; omega) hx0 ?_; intro w2 hown hx2; have b1' := fun w' he => b1 w' (hx2.trans he); clear b1)
  have k32 := k3.ext hx2
  rw [Hz.out] at hown
  have hs1 : ((w.alloc (.cells #[.slice B nb b, .slice D n d, .int .i64 wt] 82)).alloc (.cells #[.int .i64 ox, .int .i64 oy, .int .i64 oz] 60)).heap.size = w.heap.size + 1 + 1 := by simp
  rw [hs1] at hown
  clear hs1 k2 k3 hx0 hx2 b1'
  obtain ⟨g, hg⟩ : ∃ g, g = w.heap.size + 1 + 1 := ⟨_, rfl⟩
  rw [← hg] at hown ⊢
  have Hg := Lib.hid hg
  clear hg
  go_loopw [17] (fun i wr => ∃ k : Nat, k ≤ n ∧ i = .int .i64 k ∧ Own w wr 144 5 (.slice (some ⟨g, 0, none⟩) n n) n (fillK C k) ∧ Blk wr (w.heap.size + 1) [.int .i64 ox, .int .i64 oy, .int .i64 oz]) (fun i _ => n - (intOf i).toNat)
  case atStart => exact ⟨0, by omega, rfl, hown, k32⟩
  case round =>
    clear hown k32
    obtain ⟨k, hk, rfl, hown, k22⟩ := hrel
    by_cases hlt : k < n
    · obtain ⟨ad, rfl, r0, r1, r2, r3, r4⟩ := Hat.out k hlt
      have hex := hown.ext
      have c0 : ∀ w', Ext wr w' → _ := fun w' he => r0 w' (hex.trans he)
      have c1 : ∀ w', Ext wr w' → _ := fun w' he => r1 w' (hex.trans he)
      have c2 : ∀ w', Ext wr w' → _ := fun w' he => r2 w' (hex.trans he)
      have c3 : ∀ w', Ext wr w' → _ := fun w' he => r3 w' (hex.trans he)
      have c4 : ∀ w', Ext wr w' → _ := fun w' he => r4 w' (hex.trans he)
      obtain ⟨n1, n2, q6, qE⟩ := Hrd.out k hlt
      have hset := Hset.out k hlt
      have Ht1' := Lib.hid (Ht1.out _ n1)
      have Hp1' := Lib.hid (Hp1.out _ n2)
      have Hs1' := Lib.hid (Hs1.out _ q6)
      have Ht2' := Lib.hid (Ht2.out _ q6)
      have Hd1' := Lib.hid (Hd1.out _ q6)
      have h6 := Hd6.out _ q6
      have Hset' := Lib.hid hset
      have hki : (k : Int) < (n : Int) := by omega
      have hw1 : IntKind.i64.wrap ((k : Int) + 1) = ((k + 1 : Nat) : Int) := by rw [IntKind.wrap_i64]; omega
      clear r0 r1 r2 r3 r4 hset Hat Hset Hrd Ht1 Hp1 Hs1 Ht2 Hd1 Hd6 n1 n2 hex Hz
      generalize plusC (turnC (knA ks k).at_ t) ⟨ox, oy, oz⟩ = z at Hset' Hp1'
      generalize turnC (knA ks k).at_ t = y at Hp1' Ht1'
      rw [← qE] at c3
      obtain ⟨jd, hjd⟩ : ∃ jd, dirT (knA ks k).dir.toNat t = jd := ⟨_, rfl⟩
      rw [hjd] at Hset' Ht2' Hd1' h6
      clear hjd qE
      generalize (knA ks k).dir.toNat = q at c3 Hs1' Ht2' Hd1' q6
      generalize (knA ks k).srt = srt at c4 Hset'
      generalize (knA ks k).at_ = s at c0 c1 c2 Ht1'
      obtain ⟨sx, sy, sz⟩ := s
      obtain ⟨yx, yy, yz⟩ := y
      obtain ⟨zx, zy, zz⟩ := z
      obtain ⟨⟨ux, uy, uz⟩, hu⟩ : ∃ u, stepC q = u := ⟨_, rfl⟩
      rw [hu] at Hs1' Ht2'
      obtain ⟨⟨vx, vy, vz⟩, hv⟩ : ∃ u, stepC jd = u := ⟨_, rfl⟩
      rw [hv] at Ht2' Hd1'
      clear hu hv
      simp only at c0 c1 c2 c3 c4 Hset'
      have hwq : IntKind.i64.wrap (q : Int) = (q : Int) := by rw [IntKind.wrap_i64]; omega
      have hwj : IntKind.u8.wrap (jd : Int) = (jd : Int) := by unfold IntKind.wrap; simp [IntKind.bits, IntKind.signed]; omega
      have HW := Lib.hid (And.intro hown k22)
      clear hown k22 q6 h6
      go_wp2
      have hx7 : Ext wr (wr.alloc (.cells #[.int .i64 sx, .int .i64 sy, .int .i64 sz, .int .u8 q, .int .u8 srt] 144)) := (Ext.refl _).alloc _
      have k7 : Blk (wr.alloc (.cells #[.int .i64 sx, .int .i64 sy, .int .i64 sz, .int .u8 q, .int .u8 srt] 144)) wr.heap.size [.int .i64 sx, .int .i64 sy, .int .i64 sz, .int .u8 q, .int .u8 srt] := Blk.new _ _
      generalize (wr.alloc (.cells #[.int .i64 sx, .int .i64 sy, .int .i64 sz, .int .u8 q, .int .u8 srt] 144)) = w7 at hx7 k7 ⊢
      have hown7 := HW.out.1.later hx7
      have k27 := HW.out.2.ext hx7
      have s0 := k7.at_ 0 rfl
      have s1 := k7.at_ 1 rfl
      have s2 := k7.at_ 2 rfl
      have s3 := k7.at_ 3 rfl
      have s4 := k7.at_ 4 rfl
      have q0 := k27.at_ 0 rfl
      have q1 := k27.at_ 1 rfl
      have q2 := k27.at_ 2 rfl
      have Hown7 := Lib.hid hown7
      clear hown7 c0 c1 c2 c3 c4
      refine Cg.wp_region_calm (p := Cg.extPre) (fr := (fun _ => false)) 20 (fun j _ v _ => (j = 5 → v = .agg #[.int .i64 yx, .int .i64 yy, .int .i64 yz]) ∧ (j = 7 → v = .agg #[.int .i64 zx, .int .i64 zy, .int .i64 zz]) ∧ (j = 11 → v = .agg #[.int .i64 ux, .int .i64 uy, .int .i64 uz]) ∧ (j = 13 → v = .agg #[.int .i64 vx, .int .i64 vy, .int .i64 vz]) ∧ (j = 14 → v = .int .i64 jd)) (fun _ _ _ _ _ _ h => h) (by kernel_rfl) (by kernel_rfl) ?_
      simp only [List.take_succ_cons, List.take_zero, List.drop_succ_cons, List.drop_zero]
      refine Cg.calm_quiet Cg.calm_mono_final w7 (fun _ h => h) 5 (by kernel_rfl) ?_
      simp only [List.take_succ_cons, List.take_zero, List.drop_succ_cons, List.drop_zero]
      repeat (go_big_quiet_step (fail))
      refine wpQuiet_nil ?_
      refine Cg.calm_call Cg.calm_mono_final 59 #[.agg #[.int .i64 sx, .int .i64 sy, .int .i64 sz], .int .i64 t] rfl (fun w => ?_) (fun w he hF => ?_) ?_
      · go_simp
      · exact (Ht1'.out w).mono fun e w'' ⟨he', hx⟩ => ⟨_, he', hx, ⟨fun _ => rfl, fun h => (by cases h), fun h => (by cases h), fun h => (by cases h), fun h => (by cases h)⟩, fun h => by cases h⟩
      rintro _ _ _ h _
      cases h.1 rfl
      simp only [Act.put, List.setIfInBounds_toArray, List.set_cons_succ, List.set_cons_zero]
      refine Cg.calm_quiet Cg.calm_mono_final w7 (fun _ h => h) 1 (by kernel_rfl) ?_
      simp only [List.take_succ_cons, List.take_zero, List.drop_succ_cons, List.drop_zero]
      repeat (go_big_quiet_step (fail))
      refine wpQuiet_nil ?_
      refine Cg.calm_call Cg.calm_mono_final 103 #[.agg #[.int .i64 yx, .int .i64 yy, .int .i64 yz], .agg #[.int .i64 ox, .int .i64 oy, .int .i64 oz]] rfl (fun w => ?_) (fun w he hF => ?_) ?_
      · go_simp
      · exact (Hp1'.out w).mono fun e w'' ⟨he', hx⟩ => ⟨_, he', hx, ⟨fun h => (by cases h), fun _ => rfl, fun h => (by cases h), fun h => (by cases h), fun h => (by cases h)⟩, fun h => by cases h⟩
      rintro _ _ _ h _
      cases h.2.1 rfl
      simp only [Act.put, List.setIfInBounds_toArray, List.set_cons_succ, List.set_cons_zero]
      refine Cg.calm_quiet Cg.calm_mono_final w7 (fun _ h => h) 3 (by kernel_rfl) ?_
      simp only [List.take_succ_cons, List.take_zero, List.drop_succ_cons, List.drop_zero]
      repeat (go_big_quiet_step (fail))
      refine wpQuiet_nil ?_
      refine Cg.calm_call Cg.calm_mono_final 140 #[.int .i64 q] rfl (fun w => ?_) (fun w he hF => ?_) ?_
      · go_simp
      · exact (Hs1'.out w).mono fun e w'' ⟨he', hx⟩ => ⟨_, he', hx, ⟨fun h => (by cases h), fun h => (by cases h), fun _ => rfl, fun h => (by cases h), fun h => (by cases h)⟩, fun h => by cases h⟩
      rintro _ _ _ h _
      cases h.2.2.1 rfl
      simp only [Act.put, List.setIfInBounds_toArray, List.set_cons_succ, List.set_cons_zero]
      refine Cg.calm_quiet Cg.calm_mono_final w7 (fun _ h => h) 1 (by kernel_rfl) ?_
      simp only [List.take_succ_cons, List.take_zero, List.drop_succ_cons, List.drop_zero]
      repeat (go_big_quiet_step (fail))
      refine wpQuiet_nil ?_
      refine Cg.calm_call Cg.calm_mono_final 59 #[.agg #[.int .i64 ux, .int .i64 uy, .int .i64 uz], .int .i64 t] rfl (fun w => ?_) (fun w he hF => ?_) ?_
      · go_simp
      · exact (Ht2'.out w).mono fun e w'' ⟨he', hx⟩ => ⟨_, he', hx, ⟨fun h => (by cases h), fun h => (by cases h), fun h => (by cases h), fun _ => rfl, fun h => (by cases h)⟩, fun h => by cases h⟩
      rintro _ _ _ h _
      cases h.2.2.2.1 rfl
      simp only [Act.put, List.setIfInBounds_toArray, List.set_cons_succ, List.set_cons_zero]
      refine Cg.calm_call Cg.calm_mono_final 139 #[.agg #[.int .i64 vx, .int .i64 vy, .int .i64 vz]] rfl (fun w => ?_) (fun w he hF => ?_) ?_
      · go_simp
      · exact (Hd1'.out w).mono fun e w'' ⟨he', hx⟩ => ⟨_, he', hx, ⟨fun h => (by cases h), fun h => (by cases h), fun h => (by cases h), fun h => (by cases h), fun _ => rfl⟩, fun h => by cases h⟩
      rintro _ _ _ h _
      cases h.2.2.2.2 rfl
      simp only [Act.put, List.setIfInBounds_toArray, List.set_cons_succ, List.set_cons_zero]
      refine Cg.calm_quiet Cg.calm_mono_final w7 (fun _ h => h) 3 (by kernel_rfl) ?_
      simp only [List.take_succ_cons, List.take_zero, List.drop_succ_cons, List.drop_zero]
      repeat (go_big_quiet_step (fail))
      refine wpQuiet_nil ?_
      refine Cg.calm_value Cg.calm_mono_final (fun v _ => v = .agg #[.int .i64 zx, .int .i64 zy, .int .i64 zz, .int .u8 jd, .int .u8 srt]) (fun _ _ _ _ h => h) rfl (fun w' hR _ => ⟨_, w', by go_simp, Ext.refl _, rfl, fun hf => by cases hf⟩) ?_
      rintro _ _ _ rfl _
      simp only [Act.put, List.setIfInBounds_toArray, List.set_cons_succ, List.set_cons_zero]
      refine Cg.calm_quiet Cg.calm_mono_final w7 (fun _ h => h) 1 (by kernel_rfl) ?_
      simp only [List.take_succ_cons, List.take_zero, List.drop_succ_cons, List.drop_zero]
      repeat (go_big_quiet_step (fail))
      refine wpQuiet_nil ?_
      refine Cg.calm_nil fun w3 he3 _ => ?_
      have he3 : Ext w7 w3 := he3
      have hown3 := Hown7.out.later he3
      have k23 := k27.ext he3
      obtain ⟨v0, g0⟩ := Hget.out k hlt 0 (by omega)
      obtain ⟨v1, g1⟩ := Hget.out k hlt 1 (by omega)
      obtain ⟨v2, g2⟩ := Hget.out k hlt 2 (by omega)
      obtain ⟨v3, g3⟩ := Hget.out k hlt 3 (by omega)
      obtain ⟨v4, g4⟩ := Hget.out k hlt 4 (by omega)
      have hfl := Hfl.out k (by omega)
      have e0 : w3.cell? ⟨g, k * 5, none⟩ = some v0 := (hown3.cell (j := k * 5) (by omega)).trans g0
      have e1 : w3.cell? ⟨g, k * 5 + 1, none⟩ = some v1 := (hown3.cell (j := k * 5 + 1) (by omega)).trans g1
      have e2 : w3.cell? ⟨g, k * 5 + 2, none⟩ = some v2 := (hown3.cell (j := k * 5 + 2) (by omega)).trans g2
      have e3 : w3.cell? ⟨g, k * 5 + 3, none⟩ = some v3 := (hown3.cell (j := k * 5 + 3) (by omega)).trans g3
      have e4 : w3.cell? ⟨g, k * 5 + 4, none⟩ = some v4 := (hown3.cell (j := k * 5 + 4) (by omega)).trans g4
      have hf := hown3.free
      have hown4 := ((((hown3.store (k * 5) (.int .i64 zx)).store (k * 5 + 1) (.int .i64 zy)).store (k * 5 + 2) (.int .i64 zz)).store (k * 5 + 3) (.int .u8 jd)).store (k * 5 + 4) (.int .u8 srt)
      rw [Hset'.out] at hown4
      have hgne : g ≠ w.heap.size + 1 := by have := Hg.out; omega
      have k24 := ((((k23.other (b := g) (k := k * 5) hgne (.int .i64 zx)).other (b := g) (k := k * 5 + 1) hgne (.int .i64 zy)).other (b := g) (k := k * 5 + 2) hgne (.int .i64 zz)).other (b := g) (k := k * 5 + 3) hgne (.int .u8 jd)).other (b := g) (k := k * 5 + 4) hgne (.int .u8 srt)
      have H4 := Lib.hid (And.intro hown4 k24)
      clear hown4 k24 hown3 k23 g0 g1 g2 g3 g4 hfl s0 s1 s2 s3 s4 q0 q1 q2 k27 k7
      go_wp2
      go_roundw
      case rel => exact ⟨k + 1, by omega, by go_num, H4.out.1, H4.out.2⟩
      case measure => simp [intOf]; omega
    · obtain rfl : n = k := by omega
      have hall := Hall.out
      rw [hall] at hown
      have Ho := Lib.hid hown
      clear hall hown k22
      go_wp2
      go_ret
      exact ⟨g, n, rfl, Ho.out⟩
end Go.Proofs.YtebkhdhhajjhfaaGreat.Lt

/- Knobs: the knobs of a valid brick. -/
namespace Go.Proofs.YtebkhdhhajjhfaaGreat.Lt
open Go.RowKit
/-- The knobs of a brick. -/
def knoB (l : List Ki) (b : Br) : List Kn := knL (kiA l b.kind.toNat).ks b.trn.toNat b.at_
theorem knoB_len (l : List Ki) (b : Br) : (knoB l b).length = (kiA l b.kind.toNat).ks.length := by unfold knoB knL; rw [List.length_map]
set_option maxRecDepth 100000 in
set_option maxHeartbeats 2000000 in
theorem knobsb_any (l : List Ki) (A : Option Addr) (c : Nat) (b : Br) (w : World) (hA : KiRow w A l) (h8 : kindsW l) (hk : kindsP l) (hb : BrOk l.length b) :
    Calls Tryz.prog 65 #[.slice A l.length c, b.val] w fun e w' => ∃ g cap, e = .returned (.tuple #[.slice (some ⟨g, 0, none⟩) (kiA l b.kind.toNat).ks.length cap, .int .i64 0]) ∧ Own w w' 144 5 (.slice (some ⟨g, 0, none⟩) (kiA l b.kind.toNat).ks.length cap) (kiA l b.kind.toNat).ks.length ((knoB l b).map Kn.cells).flatten := by
  have hck := fun w' (he : Ext w w') g (hg : w'.heap[g]? = some (.cells #[.int .i64 b.kind, .int .i64 b.at_.x, .int .i64 b.at_.y, .int .i64 b.at_.z, .int .u8 b.trn, .int .u8 b.col] 85)) => (show Calls Tryz.prog 71 #[.slice A l.length c, .slice (some ⟨g, 0, none⟩) 1 1] w' fun e w'' => e = .returned (.int .i64 0) ∧ Ext w' w'' from tells_zero (check_gen l A c [b] (some ⟨g, 0, none⟩) 1 w' (hA.ext he) h8 (br_one hg) (by simp) (fun i hi => by
    obtain rfl : i = 0 := by simpa using hi
    exact ⟨hb.t0, hb.c0⟩)) ⟨hk, fun i hi => by
    obtain rfl : i = 0 := by simpa using hi
    exact hb⟩)
  have hkl : b.kind.toNat < l.length := by have := hb.k0; have := hb.k1; omega
  have hkk := hk.2 _ hkl
  have h8k := h8 _ hkl
  have ht24 : b.trn.toNat < 24 := by have := hb.t0; have := hb.t1; omega
  obtain ⟨ad, B, bc, D, dc, rfl, s0, s1, s2, h5, h6⟩ := hA _ hkl
  have hcl := fun w' (he : Ext w w') => knobs_all (kiA l b.kind.toNat) B bc D dc b.trn.toNat b.at_ w' hkk h8k (h6.ext he) ht24 hb.near
  have hkE : b.kind = (b.kind.toNat : Int) := by have := hb.k0; omega
  have htE : b.trn = (b.trn.toNat : Int) := by have := hb.t0; omega
  have hkl' : (b.kind.toNat : Int) < (l.length : Int) := by omega
  have hrow : ((knoB l b).map Kn.cells).flatten = ((knL (kiA l b.kind.toNat).ks b.trn.toNat b.at_).map Kn.cells).flatten := rfl
  rw [hrow]
  generalize ((knL (kiA l b.kind.toNat).ks b.trn.toNat b.at_).map Kn.cells).flatten = ROW at *
  have hw1 : IntKind.i64.wrap (b.trn.toNat : Int) = (b.trn.toNat : Int) := by rw [IntKind.wrap_i64]; omega
  have Hck := Lib.hid hck
  have Hcl := Lib.hid hcl
  clear hck hcl hA h8 hk hb hkk h8k h5 h6 hkl hrow ht24
  generalize (kiA l b.kind.toNat).cs.length = L at *
  generalize (kiA l b.kind.toNat).ks.length = mk at *
  generalize (kiA l b.kind.toNat).wt = wt at *
  generalize l.length = n at *
  generalize b.kind.toNat = kn at *
  generalize b.trn.toNat = tn at *
  obtain ⟨kind, ⟨ox, oy, oz⟩, trn, col⟩ := b
  simp only at hkE htE Hck Hcl ⊢
  subst hkE
  subst htE
  have kq : Blk (w.alloc (.cells #[.int .i64 kn, .int .i64 ox, .int .i64 oy, .int .i64 oz, .int .u8 tn, .int .u8 col] 85)) w.heap.size [.int .i64 kn, .int .i64 ox, .int .i64 oy, .int .i64 oz, .int .u8 tn, .int .u8 col] := Blk.new _ _
  have hx0 : Ext w (w.alloc (.cells #[.int .i64 kn, .int .i64 ox, .int .i64 oy, .int .i64 oz, .int .u8 tn, .int .u8 col] 85)) := (Ext.refl _).alloc _
  have q0 := kq.at_ 0 rfl
  have q1 := kq.at_ 1 rfl
  have q2 := kq.at_ 2 rfl
  have q3 := kq.at_ 3 rfl
  have q4 := kq.at_ 4 rfl
  have q5 := kq.at_ 5 rfl
  have Hx0 := Lib.hid hx0
  have KQ := Lib.hid kq
  have hnew := heap_alloc_new (w.alloc (.cells #[.int .i64 kn, .int .i64 ox, .int .i64 oy, .int .i64 oz, .int .u8 tn, .int .u8 col] 85)) (.cells #[.int .i64 kn, .int .i64 ox, .int .i64 oy, .int .i64 oz, .int .u8 tn, .int .u8 col] 85)
  rw [show (w.alloc (.cells #[.int .i64 kn, .int .i64 ox, .int .i64 oy, .int .i64 oz, .int .u8 tn, .int .u8 col] 85)).heap.size = w.heap.size + 1 by simp] at hnew
  have Hnew := Lib.hid hnew
  clear hnew
  clear kq hx0
  go_enter Tryz.func65, Tryz.ntmps65
  go_wp2_with (go_at_call 71; refine (Hck.out _ (Hx0.out.alloc _) _ Hnew.out).mono ?_; rintro e w1 ⟨rfl, hx1⟩; have hx01 := ((Ext.refl (w.alloc (.cells #[.int .i64 kn, .int .i64 ox, .int .i64 oy, .int .i64 oz, .int .u8 tn, .int .u8 col] 85))).alloc (.cells #[.int .i64 kn, .int .i64 ox, .int .i64 oy, .int .i64 oz, .int .u8 tn, .int .u8 col] 85)).trans hx1; have K1 := Lib.hid (KQ.out.ext hx01); have HX1 := Lib.hid (Hx0.out.trans hx01); clear q0 q1 q2 q3 q4 q5 hx1 hx01)
  have p0 := K1.out.at_ 0 rfl
  have p1 := K1.out.at_ 1 rfl
  have p2 := K1.out.at_ 2 rfl
  have p3 := K1.out.at_ 3 rfl
  have p4 := K1.out.at_ 4 rfl
  have r0 := fun w' (he : Ext w1 w') => s0 w' (HX1.out.trans he)
  have r1 := fun w' (he : Ext w1 w') => s1 w' (HX1.out.trans he)
  have r2 := fun w' (he : Ext w1 w') => s2 w' (HX1.out.trans he)
  clear s0 s1 s2
  refine Cg.wp_region_calm (p := Cg.extPre) (fr := (fun _ => false)) 13 (fun j _ v w' => j = 10 → ∃ g cap, v = .slice (some ⟨g, 0, none⟩) mk cap ∧ Own w1 w' 144 5 (.slice (some ⟨g, 0, none⟩) mk cap) mk ROW) (fun _ _ _ _ _ he h hj => by obtain ⟨g, cap, h1, h3⟩ := h hj; exact ⟨g, cap, h1, h3.later he⟩) (by kernel_rfl) (by kernel_rfl) ?_
  simp only [List.take_succ_cons, List.take_zero, List.drop_succ_cons, List.drop_zero]
  refine Cg.calm_quiet Cg.calm_mono_final w1 (fun _ h => h) 10 (by kernel_rfl) ?_
  simp only [List.take_succ_cons, List.take_zero, List.drop_succ_cons, List.drop_zero]
  repeat (go_big_quiet_step (fail))
  refine wpQuiet_nil ?_
  refine Cg.calm_call Cg.calm_mono_final 97 #[.agg #[.slice B L bc, .slice D mk dc, .int .i64 wt], .int .i64 tn, .agg #[.int .i64 ox, .int .i64 oy, .int .i64 oz]] rfl (fun w => ?_) (fun w' he hF => ?_) ?_
  · go_simp
  · exact (Hcl.out w' (HX1.out.trans he)).mono fun e w'' ⟨g, cap, he', ho⟩ => ⟨_, he', ho.ext, fun _ => ⟨g, cap, rfl, ho.since he⟩, fun h => by cases h⟩
  rintro _ w8 he8 h _
  obtain ⟨g, cap, rfl, ho⟩ := h rfl
  simp only [Act.put, List.setIfInBounds_toArray, List.set_cons_succ, List.set_cons_zero]
  refine Cg.calm_quiet Cg.calm_mono_final w1 (fun _ h => h) 2 (by kernel_rfl) ?_
  simp only [List.take_succ_cons, List.take_zero, List.drop_succ_cons, List.drop_zero]
  repeat (go_big_quiet_step (fail))
  refine wpQuiet_nil ?_
  refine Cg.calm_nil fun w9 he9 hf9 => ?_
  clear ho h p0 p1 p2 p3 p4 r0 r1 r2 he8 w8
  obtain ⟨g', cap', e', ho⟩ := (hf9.1 10).2 rfl rfl
  cases e'
  clear hf9
  have H9 := Lib.hid (ho.since HX1.out)
  clear ho he9
  go_wp2
  go_ret2
  exact ⟨g, cap, rfl, H9.out⟩
end Go.Proofs.YtebkhdhhajjhfaaGreat.Lt

/- The sort's contract, laid at the sort of links. -/
namespace Go.Proofs.YtebkhdhhajjhfaaGreat.Lt
open Go.Shelf Go.Proofs
def sortLinksL_ren : Go.Shelf.Ren := ⟨fun | 6 => 141 | 15 => 108 | 14 => 167 | 28 => 155 | 29 => 156 | 20 => 192 | 21 => 193 | 22 => 194 | 23 => 195 | 24 => 196 | 25 => 197 | 26 => 198 | 27 => 199 | 46 => 207 | 47 => 179 | 48 => 180 | 49 => 208 | 50 => 209 | 57 => 212 | n => n, fun | 22 => 159 | 24 => 163 | 25 => 255 | 3 => 3 | 39 => 220 | 0 => 0 | 53 => 268 | 55 => 89 | 4 => 4 | 46 => 262 | 45 => 261 | 50 => 126 | 5 => 5 | 9 => 9 | 66 => 290 | 70 => 294 | 76 => 309 | 77 => 310 | n => n, fun | n => n⟩
theorem sortLinksL : Go.Proofs.SlLaysF0.n6 Tryz.prog sortLinksL_ren := {
  mixed := by kernel_rfl
  f6 := ⟨Tryz.f141.name, by decide, Tryz.func141.trans (congrArg some (by kernel_rfl))⟩
  f14 := ⟨Tryz.f167.name, by decide, Tryz.func167.trans (congrArg some (by kernel_rfl))⟩
  f15 := Tryz.func108.trans (congrArg some (by kernel_rfl))
  f20 := ⟨Tryz.f192.name, by decide, Tryz.func192.trans (congrArg some (by kernel_rfl))⟩
  f21 := ⟨Tryz.f193.name, by decide, Tryz.func193.trans (congrArg some (by kernel_rfl))⟩
  f22 := ⟨Tryz.f194.name, by decide, Tryz.func194.trans (congrArg some (by kernel_rfl))⟩
  f23 := ⟨Tryz.f195.name, by decide, Tryz.func195.trans (congrArg some (by kernel_rfl))⟩
  f24 := ⟨Tryz.f196.name, by decide, Tryz.func196.trans (congrArg some (by kernel_rfl))⟩
  f25 := ⟨Tryz.f197.name, by decide, Tryz.func197.trans (congrArg some (by kernel_rfl))⟩
  f26 := ⟨Tryz.f198.name, by decide, Tryz.func198.trans (congrArg some (by kernel_rfl))⟩
  f27 := ⟨Tryz.f199.name, by decide, Tryz.func199.trans (congrArg some (by kernel_rfl))⟩
  f28 := Tryz.func155.trans (congrArg some (by kernel_rfl))
  f29 := Tryz.func156.trans (congrArg some (by kernel_rfl))
  f46 := ⟨Tryz.f207.name, by decide, Tryz.func207.trans (congrArg some (by kernel_rfl))⟩
  f47 := Tryz.func179.trans (congrArg some (by kernel_rfl))
  f48 := Tryz.func180.trans (congrArg some (by kernel_rfl))
  f49 := ⟨Tryz.f208.name, by decide, Tryz.func208.trans (congrArg some (by kernel_rfl))⟩
  f50 := ⟨Tryz.f209.name, by decide, Tryz.func209.trans (congrArg some (by kernel_rfl))⟩
  f57 := ⟨Tryz.f212.name, by decide, Tryz.func212.trans (congrArg some (by kernel_rfl))⟩
  t0 := Tryz.underlying0
  a0 := Tryz.isAgg0
  z0 := Tryz.sizeOf0
  v0 := Tryz.zeroValue0
  t3 := Tryz.underlying3
  a3 := Tryz.isAgg3
  z3 := Tryz.sizeOf3
  v3 := Tryz.zeroValue3
  t4 := Tryz.underlying4
  a4 := Tryz.isAgg4
  z4 := Tryz.sizeOf4
  v4 := Tryz.zeroValue4
  t5 := Tryz.underlying5
  a5 := Tryz.isAgg5
  z5 := Tryz.sizeOf5
  v5 := Tryz.zeroValue5
  t9 := Tryz.underlying9
  a9 := Tryz.isAgg9
  z9 := Tryz.sizeOf9
  v9 := Tryz.zeroValue9
  t22 := Tryz.underlying159
  a22 := Tryz.isAgg159
  z22 := Tryz.sizeOf159
  v22 := Tryz.zeroValue159
  t25 := Tryz.underlying255
  a25 := Tryz.isAgg255
  z25 := Tryz.sizeOf255
  v25 := Tryz.zeroValue255
  t39 := Tryz.underlying220
  a39 := Tryz.isAgg220
  z39 := Tryz.sizeOf220
  v39 := Tryz.zeroValue220
  t45 := Tryz.underlying261
  a45 := Tryz.isAgg261
  z45 := Tryz.sizeOf261
  v45 := Tryz.zeroValue261
  t46 := Tryz.underlying262
  a46 := Tryz.isAgg262
  z46 := Tryz.sizeOf262
  v46 := Tryz.zeroValue262
  t50 := Tryz.underlying126
  a50 := Tryz.isAgg126
  z50 := Tryz.sizeOf126
  v50 := Tryz.zeroValue126
  t53 := Tryz.underlying268
  a53 := Tryz.isAgg268
  z53 := Tryz.sizeOf268
  v53 := Tryz.zeroValue268
  t55 := Tryz.underlying89
  a55 := Tryz.isAgg89
  z55 := Tryz.sizeOf89
  v55 := Tryz.zeroValue89
  t66 := Tryz.underlying290
  a66 := Tryz.isAgg290
  z66 := Tryz.sizeOf290
  v66 := Tryz.zeroValue290
  t70 := Tryz.underlying294
  a70 := Tryz.isAgg294
  z70 := Tryz.sizeOf294
  v70 := Tryz.zeroValue294
  t76 := Tryz.underlying309
  a76 := Tryz.isAgg309
  z76 := Tryz.sizeOf309
  v76 := Tryz.zeroValue309
  t77 := Tryz.underlying310
  a77 := Tryz.isAgg310
  z77 := Tryz.sizeOf310
  v77 := Tryz.zeroValue310 }
end Go.Proofs.YtebkhdhhajjhfaaGreat.Lt

/- Links: in memory, their order, sorted. -/
namespace Go.Proofs.YtebkhdhhajjhfaaGreat.Lt
open Go.RowKit Go.Sort Go.Shelf Go.Lib
structure Lnk where
  a : Int
  b : Int
  kn : Int
  ot : Int
  srt : Int
instance : Inhabited Lnk := ⟨⟨0, 0, 0, 0, 0⟩⟩
def lnA (l : List Lnk) (k : Nat) : Lnk := l.getD k default
theorem lnA_at {l : List Lnk} {k : Nat} (h : k < l.length) : lnA l k = l[k] := by simp [lnA, List.getD, h]
def Lnk.cells (s : Lnk) : List Value := [vint s.a, vint s.b, vint s.kn, vint s.ot, vu8 s.srt]
abbrev Lnk.val (s : Lnk) : Value := .agg #[vint s.a, vint s.b, vint s.kn, vint s.ot, vu8 s.srt]
def LnRow (w : World) (A : Option Addr) (l : List Lnk) : Prop := Row w A (l.map Lnk.cells).flatten
theorem LnRow.ext {w w' : World} {A : Option Addr} {l : List Lnk} (h : LnRow w A l) (he : Ext w w') : LnRow w' A l := Row.ext h he
theorem Lnk.cells_len (l : List Lnk) : (l.map Lnk.cells).flatten.length = l.length * 5 := by
  rw [flatten_len 5 _ (by simp [Lnk.cells]), List.length_map]
theorem LnRow.at_ {w : World} {A : Option Addr} {l : List Lnk} (h : LnRow w A l) {k : Nat} (hk : k < l.length) :
    ∃ ad, A = some ad ∧ (∀ w', Ext w w' → w'.cell? (ad.add (k * 5)) = some (.int .i64 (lnA l k).a)) ∧
      (∀ w', Ext w w' → w'.cell? ⟨(ad.add (k * 5)).block, (ad.add (k * 5)).off + 1, none⟩ = some (.int .i64 (lnA l k).b)) ∧
      (∀ w', Ext w w' → w'.cell? ⟨(ad.add (k * 5)).block, (ad.add (k * 5)).off + 2, none⟩ = some (.int .i64 (lnA l k).kn)) ∧
      (∀ w', Ext w w' → w'.cell? ⟨(ad.add (k * 5)).block, (ad.add (k * 5)).off + 3, none⟩ = some (.int .i64 (lnA l k).ot)) ∧
      (∀ w', Ext w w' → w'.cell? ⟨(ad.add (k * 5)).block, (ad.add (k * 5)).off + 4, none⟩ = some (.int .u8 (lnA l k).srt)) := by
  rw [lnA_at hk]
  obtain ⟨ad, ha, hc⟩ := Row.struct (size := 5) h (by simp [Lnk.cells]) (k := k) (by simpa using hk) (by omega)
  refine ⟨ad, ha, fun w' he => ?_, fun w' he => ?_, fun w' he => ?_, fun w' he => ?_, fun w' he => ?_⟩
  · have := hc 0 (by omega) w' he
    rw [add_zero_] at this
    simpa [Lnk.cells] using this
  · have := hc 1 (by omega) w' he
    rw [add_lit _ _ (by omega)] at this
    simpa [Lnk.cells] using this
  · have := hc 2 (by omega) w' he
    rw [add_lit _ _ (by omega)] at this
    simpa [Lnk.cells] using this
  · have := hc 3 (by omega) w' he
    rw [add_lit _ _ (by omega)] at this
    simpa [Lnk.cells] using this
  · have := hc 4 (by omega) w' he
    rw [add_lit _ _ (by omega)] at this
    simpa [Lnk.cells] using this
def ordL (a b : Lnk) : Int := if cmpI a.a b.a ≠ 0 then cmpI a.a b.a else if cmpI a.b b.b ≠ 0 then cmpI a.b b.b else cmpI a.kn b.kn
theorem ordL_neg {a b : Lnk} : ordL a b < 0 ↔ a.a < b.a ∨ a.a = b.a ∧ (a.b < b.b ∨ a.b = b.b ∧ a.kn < b.kn) := by
  have h := @ordC_neg ⟨a.kn, a.b, a.a⟩ ⟨b.kn, b.b, b.a⟩
  exact h
theorem swo_lnk : SWO (ltOf ordL) where
  irrefl x := by
    unfold ltOf
    exact decide_eq_false fun h => by have := ordL_neg.1 h; omega
  trans x y z h1 h2 := by
    unfold ltOf at *
    have h1 := ordL_neg.1 (of_decide_eq_true h1)
    have h2 := ordL_neg.1 (of_decide_eq_true h2)
    exact decide_eq_true (ordL_neg.2 (by omega))
  ntrans x y z h1 h2 := by
    unfold ltOf at *
    have h1 := mt ordL_neg.2 (of_decide_eq_false h1)
    have h2 := mt ordL_neg.2 (of_decide_eq_false h2)
    exact decide_eq_false fun h => by have := ordL_neg.1 h; omega
theorem ordL_or (a b : Lnk) : (([cmpI a.a b.a, cmpI a.b b.b, cmpI a.kn b.kn] : List Int).find? fun x => x != 0).getD 0 = ordL a b := ordC_or ⟨a.kn, a.b, a.a⟩ ⟨b.kn, b.b, b.a⟩
set_option maxHeartbeats 2000000 in
/-- The order of links. -/
theorem orderl_any (a b : Lnk) (w : World) : Calls Tryz.prog 142 #[a.val, b.val] w fun e w' => e = .returned (.int .i64 (ordL a b)) ∧ Grown w w' := by
  have hz := fun w' => cmp_any a.a b.a w'
  have hy := fun w' => cmp_any a.b b.b w'
  have hx := fun w' => cmp_any a.kn b.kn w'
  have ho := fun (w' : World) (g : Nat) (h : w'.heap[g]? = some (.cells #[.int .i64 (cmpI a.a b.a), .int .i64 (cmpI a.b b.b), .int .i64 (cmpI a.kn b.kn)] 3)) => (show Calls Tryz.prog 143 #[.slice (some ⟨g, 0, none⟩) 3 3] w' fun e w'' => e = .returned (.int .i64 (ordL a b)) ∧ w' = w'' from by
    have h1 := or_any (some ⟨g, 0, none⟩) 3 [cmpI a.a b.a, cmpI a.b b.b, cmpI a.kn b.kn] w' (row_heap h) (by simp)
    rw [ordL_or] at h1
    exact h1)
  have Hz := Lib.hid hz
  have Hy := Lib.hid hy
  have Hx := Lib.hid hx
  have Ho := Lib.hid ho
  clear hz hy hx ho
  generalize ordL a b = R at *
  generalize cmpI a.a b.a = cz at *
  generalize cmpI a.b b.b = cy at *
  generalize cmpI a.kn b.kn = cx at *
  obtain ⟨z, y, x, oo, ss⟩ := a
  obtain ⟨z', y', x', oo', ss'⟩ := b
  simp only at Hx Hy Hz
  have hW : Grown w ((w.alloc (.cells #[.int .i64 z, .int .i64 y, .int .i64 x, .int .i64 oo, .int .u8 ss] 163)).alloc (.cells #[.int .i64 z', .int .i64 y', .int .i64 x', .int .i64 oo', .int .u8 ss'] 163)) := ((Grown.refl w).alloc _).alloc _
  have ka : Blk ((w.alloc (.cells #[.int .i64 z, .int .i64 y, .int .i64 x, .int .i64 oo, .int .u8 ss] 163)).alloc (.cells #[.int .i64 z', .int .i64 y', .int .i64 x', .int .i64 oo', .int .u8 ss'] 163)) w.heap.size [.int .i64 z, .int .i64 y, .int .i64 x, .int .i64 oo, .int .u8 ss] := (Blk.new _ _).ext ((Ext.refl _).alloc _)
  have kb : Blk ((w.alloc (.cells #[.int .i64 z, .int .i64 y, .int .i64 x, .int .i64 oo, .int .u8 ss] 163)).alloc (.cells #[.int .i64 z', .int .i64 y', .int .i64 x', .int .i64 oo', .int .u8 ss'] 163)) (w.heap.size + 1) [.int .i64 z', .int .i64 y', .int .i64 x', .int .i64 oo', .int .u8 ss'] := Blk.new' (by simp)
  have a0 := ka.at_ 0 rfl
  have a1 := ka.at_ 1 rfl
  have a2 := ka.at_ 2 rfl
  have b0 := kb.at_ 0 rfl
  have b1 := kb.at_ 1 rfl
  have b2 := kb.at_ 2 rfl
  have HW := Lib.hid hW
  clear ka kb hW
  go_enter Tryz.func142, Tryz.ntmps142
  go_wp2
  generalize ((w.alloc (.cells #[.int .i64 z, .int .i64 y, .int .i64 x, .int .i64 oo, .int .u8 ss] 163)).alloc (.cells #[.int .i64 z', .int .i64 y', .int .i64 x', .int .i64 oo', .int .u8 ss'] 163)) = W at *
  refine Cg.wp_region_calm (p := growPre) (fr := (fun _ => false)) 18 (fun j _ v _ => (j = 4 → v = .int .i64 cz) ∧ (j = 9 → v = .int .i64 cy) ∧ (j = 14 → v = .int .i64 cx) ∧ (j = 16 → v = .int .i64 R)) (fun _ _ _ _ _ _ h => h) (by kernel_rfl) (by kernel_rfl) ?_
  simp only [List.take_succ_cons, List.take_zero, List.drop_succ_cons, List.drop_zero]
  refine Cg.calm_quiet Cg.calm_mono_final W (fun _ h => Grown.ext h) 4 (by kernel_rfl) ?_
  simp only [List.take_succ_cons, List.take_zero, List.drop_succ_cons, List.drop_zero]
  repeat (go_big_quiet_step (fail))
  refine wpQuiet_nil ?_
  refine Cg.calm_call Cg.calm_mono_final 109 #[.int .i64 z, .int .i64 z'] rfl (fun w => ?_) (fun w he hF => ?_) ?_
  · go_simp
  · exact (Hz.out w).mono fun e w'' ⟨he', hx⟩ => ⟨_, he', by rw [← hx]; exact Grown.refl _, ⟨fun _ => rfl, fun h => (by cases h), fun h => (by cases h), fun h => (by cases h)⟩, fun h => by cases h⟩
  rintro _ _ _ h _
  cases h.1 rfl
  simp only [Act.put, List.setIfInBounds_toArray, List.set_cons_succ, List.set_cons_zero]
  refine Cg.calm_quiet Cg.calm_mono_final W (fun _ h => Grown.ext h) 4 (by kernel_rfl) ?_
  simp only [List.take_succ_cons, List.take_zero, List.drop_succ_cons, List.drop_zero]
  repeat (go_big_quiet_step (fail))
  refine wpQuiet_nil ?_
  refine Cg.calm_call Cg.calm_mono_final 109 #[.int .i64 y, .int .i64 y'] rfl (fun w => ?_) (fun w he hF => ?_) ?_
  · go_simp
  · exact (Hy.out w).mono fun e w'' ⟨he', hx⟩ => ⟨_, he', by rw [← hx]; exact Grown.refl _, ⟨fun h => (by cases h), fun _ => rfl, fun h => (by cases h), fun h => (by cases h)⟩, fun h => by cases h⟩
  rintro _ _ _ h _
  cases h.2.1 rfl
  simp only [Act.put, List.setIfInBounds_toArray, List.set_cons_succ, List.set_cons_zero]
  refine Cg.calm_quiet Cg.calm_mono_final W (fun _ h => Grown.ext h) 4 (by kernel_rfl) ?_
  simp only [List.take_succ_cons, List.take_zero, List.drop_succ_cons, List.drop_zero]
  repeat (go_big_quiet_step (fail))
  refine wpQuiet_nil ?_
  refine Cg.calm_call Cg.calm_mono_final 109 #[.int .i64 x, .int .i64 x'] rfl (fun w => ?_) (fun w he hF => ?_) ?_
  · go_simp
  · exact (Hx.out w).mono fun e w'' ⟨he', hx⟩ => ⟨_, he', by rw [← hx]; exact Grown.refl _, ⟨fun h => (by cases h), fun h => (by cases h), fun _ => rfl, fun h => (by cases h)⟩, fun h => by cases h⟩
  rintro _ _ _ h _
  cases h.2.2.1 rfl
  simp only [Act.put, List.setIfInBounds_toArray, List.set_cons_succ, List.set_cons_zero]
  refine Cg.calm_value Cg.calm_mono_final (fun v w => ∃ b, v = .slice (some ⟨b, 0, none⟩) 3 3 ∧ w.heap[b]? = some (.cells #[.int .i64 cz, .int .i64 cy, .int .i64 cx] 3)) (fun _ w' w'' hR ⟨b, e, hh⟩ => ⟨b, e, (Grown.ext hR).heap hh⟩) rfl (fun w' hR _ => ⟨.slice (some ⟨w'.heap.size, 0, none⟩) 3 3, w'.alloc (.cells #[.int .i64 cz, .int .i64 cy, .int .i64 cx] 3), by go_simp, (Grown.refl _).alloc _, ⟨_, rfl, heap_alloc_new _ _⟩, fun hf => by cases hf⟩) ?_
  rintro _ _ _ ⟨g, rfl, _⟩ _
  simp only [Act.put, List.setIfInBounds_toArray, List.set_cons_succ, List.set_cons_zero]
  refine Cg.calm_call Cg.calm_mono_final 143 #[.slice (some ⟨g, 0, none⟩) 3 3] rfl (fun w => ?_) (fun w he hF => ?_) ?_
  · go_simp
  · obtain ⟨g', e1, hh⟩ := (hF 15 (by kernel_rfl)).2 rfl
    simp only [Value.slice.injEq, Option.some.injEq, Addr.mk.injEq, and_true] at e1
    subst e1
    exact (Ho.out w g hh).mono fun e w'' ⟨he', hx⟩ => ⟨_, he', by rw [← hx]; exact Grown.refl _, ⟨fun h => (by cases h), fun h => (by cases h), fun h => (by cases h), fun _ => rfl⟩, fun h => by cases h⟩
  rintro _ _ _ h _
  cases h.2.2.2 rfl
  simp only [Act.put, List.setIfInBounds_toArray, List.set_cons_succ, List.set_cons_zero]
  refine Cg.calm_quiet Cg.calm_mono_final W (fun _ h => Grown.ext h) 1 (by kernel_rfl) ?_
  simp only [List.take_succ_cons, List.take_zero, List.drop_succ_cons, List.drop_zero]
  repeat (go_big_quiet_step (fail))
  refine wpQuiet_nil ?_
  refine Cg.calm_nil fun w3 he3 _ => ?_
  have he3 : Grown W w3 := he3
  have H3 := Lib.hid he3
  clear he3 a0 a1 a2 b0 b1 b2
  go_wp2
  go_ret
  exact ⟨rfl, HW.out.trans H3.out⟩
theorem link_elem : ElemInfo 163 (.agg #[.int .i64 0, .int .i64 0, .int .i64 0, .int .i64 0, .int .u8 0]) 5 40 := ⟨info_parts (by kernel_rfl), rfl, by decide⟩
abbrev OwnN (w1 w : World) (v : Value) (xs : List Lnk) : Prop := Own w1 w 163 5 v xs.length (xs.map Lnk.cells).flatten
theorem sort_grown {α : Type} [Inhabited α] {enc : α → List Value} {k g m : Nat} {d : Array α} {os : Array Obj} (w : World) (v : Value) (hv : v.ownBlock = some g) : w.grownBy (sortWorldK enc k w g 0 m d os) v.ownBlock := by
  rw [hv]
  have hx : Ext (putRowK enc k (Go.Sort.ahead w m) g 0 d) (sortWorldK enc k w g 0 m d os) := Grown.ext ⟨0, os, rfl⟩
  have hs : (putRowK enc k (Go.Sort.ahead w m) g 0 d).heap.size = w.heap.size := by
    show (w.heap.modify g _).size = _
    simp
  refine ⟨hx.os, hx.tape, hx.output, by rw [← hs]; exact hx.size, fun i hi hne => ?_⟩
  rw [hx.block i (by rw [hs]; exact hi)]
  show (w.heap.modify g _)[i]? = _
  rw [Array.getElem?_modify, if_neg (fun h => hne (by rw [h]))]
/-- Sorting links: some order of them. -/
theorem sort_links (v : Value) (ps : List Lnk) (w0 w : World) (h : OwnN w0 w v ps) (hl : ps.length ≤ 1000000) : Calls Tryz.prog 141 #[v, .func (.func 142) #[] #[]] w fun e w' => e = .returned (.tuple #[]) ∧ (∃ qs : List Lnk, qs.Perm ps ∧ OwnN w0 w' v qs) ∧ w.grownBy w' v.ownBlock := by
  have hk : ∀ x : Lnk, x.cells.length = 5 := fun _ => rfl
  by_cases hn : 0 < ps.length
  · obtain ⟨g, cap, rfl, _, _⟩ := h.at_ hn
    have h : Own w0 w 163 5 (.slice (some ⟨g, 0, none⟩) ps.toArray.size cap) ps.toArray.size (ps.toArray.toList.map Lnk.cells).flatten := h
    have eg : ∀ args w, (callFunc 142 args).run Tryz.prog w = .ok (.enter 142 args) w := Go.Proofs.enters_of Tryz.func142 (by kernel_rfl) rfl
    have hcon := AnyQ.slices_SortFunc sortLinksL 5 Tryz.isAgg163 Tryz.sizeOf163 Lnk.cells hk (fun x v hv => by simp [Lnk.cells] at hv; rcases hv with rfl | rfl | rfl | rfl | rfl <;> rfl) ordL swo_lnk 142 #[] g 0 cap ps.toArray w eg (fun _ _ _ _ x y => orderl_any x y _) (own_holds hk h) (World.ownsRow.lt h.2 g rfl).2 (by simp; omega)
    refine Calls.mono hcon ?_
    rintro e w' ⟨rfl, d', m, os, hp, _, rfl⟩
    have hs : d'.size = ps.toArray.size := hp.1
    have hperm : d'.toList.Perm ps := by
      have := hp.2.2
      rw [← hs, Array.extract_size] at this
      rw [hs, Array.extract_size] at this
      exact this
    refine ⟨rfl, ⟨d'.toList, hperm, ?_⟩, sort_grown w _ rfl⟩
    have ho := own_sorted (m := m) (os := os) hk h hs
    have hl2 : d'.toList.length = ps.toArray.size := by rw [Array.length_toList]; exact hs
    show Own w0 _ _ 5 _ d'.toList.length _
    rw [hl2]
    exact ho
  · have h0 : ps.length = 0 := by omega
    have hx := h
    obtain ⟨p, cap, rfl⟩ : ∃ p cap, v = .slice p 0 cap := by
      rcases h.2.2 with ⟨rfl, _⟩ | ⟨g, cap, cur, rfl, _⟩
      · exact ⟨none, 0, rfl⟩
      · exact ⟨_, cap, by rw [h0]⟩
    exact (AnyF.slices_SortFunc_none sortLinksL p cap _ w).mono fun _ _ ⟨e, hw⟩ => ⟨e, ⟨ps, List.Perm.refl _, hw ▸ hx⟩, hw ▸ ⟨rfl, rfl, rfl, Nat.le_refl _, fun _ _ _ => rfl⟩⟩
end Go.Proofs.YtebkhdhhajjhfaaGreat.Lt

/- Maps from faces to ends, from cells to bricks: what is known of what they hold. -/
namespace Go.Proofs.YtebkhdhhajjhfaaGreat.Lt
open Go Go.RowKit Go.Maps Go.ChangeShapes
theorem map_ext {H : Type} {P : Program} {w w' : World} {k : TypeId} {R : Value → Option (DataW H × List MemPlace)} {b n : Nat} {D : DataW H} (h : w.ownsMap P k R b n D) (he : Ext w w') : w'.ownsMap P k R b n D := by
  obtain ⟨es, clock, hb, F, hs, hD⟩ := h
  exact ⟨es, clock, he.heap hb, F, hs, hD⟩
/-! ### faces -/
theorem face_law : WideMaps.KeyLaw Tryz.prog 252 := deep_law (m := 3) (by omega) (by kernel_rfl) (by kernel_rfl) (by rw [Tryz.underlying252])
theorem face_keyed : Keyed Tryz.prog 252 := Keyed.of_law face_law
def kf (c : Ce) (d : Int) : Lit := .string (keyBytes [.int .i64 c.x, .int .i64 c.y, .int .i64 c.z, .int .u8 d])
theorem cell_lits (m : Nat) (x y z : Int) (hx : (Lit.int .i64 x).wf = true) (hy : (Lit.int .i64 y).wf = true) (hz : (Lit.int .i64 z).wf = true) : Tryz.prog.keyLits (m + 1 + 1) 60 [.int .i64 x, .int .i64 y, .int .i64 z] = some [.int .i64 x, .int .i64 y, .int .i64 z] := by
  have hcs : Tryz.prog.cellsOf 60 = 3 := by kernel_rfl
  have hci : Tryz.prog.cellsOf 3 = 1 := by kernel_rfl
  unfold Program.keyLits
  simp only [Tryz.underlying60]
  rw [if_pos (by rw [hcs]; exact ⟨rfl, by simp⟩)]
  simp [hci, Program.keyLits, Tryz.underlying3, hx, hy, hz]
theorem keyOf_kf (c : Ce) (d : Int) (hx : (Lit.int .i64 c.x).wf = true) (hy : (Lit.int .i64 c.y).wf = true) (hz : (Lit.int .i64 c.z).wf = true) (hd : (Lit.int .u8 d).wf = true) :
    keyOf Tryz.prog 252 (.agg #[.int .i64 c.x, .int .i64 c.y, .int .i64 c.z, .int .u8 d]) = some (kf c d) := by
  have hkt : Tryz.prog.keyType 252 = true := by kernel_rfl
  have hcs : Tryz.prog.cellsOf 252 = 4 := by kernel_rfl
  have hcc : Tryz.prog.cellsOf 60 = 3 := by kernel_rfl
  have hcu : Tryz.prog.cellsOf 5 = 1 := by kernel_rfl
  obtain ⟨m, hm⟩ : ∃ m, Tryz.prog.types.size = m + 1 + 1 := ⟨Tryz.prog.types.size - 2, by have h : 1 < Tryz.prog.types.size := of_decide_eq_true (by kernel_rfl); omega⟩
  unfold keyOf
  simp only [Tryz.underlying252]
  rw [if_pos (by simp [hkt, Value.formed, Tryz.underlying252, hcs]), hm]
  unfold Program.keyLits
  simp only [Tryz.underlying252, Value.cells]
  rw [if_pos (by rw [hcs]; exact ⟨rfl, by simp⟩)]
  have hl := cell_lits m c.x c.y c.z hx hy hz
  have hu : Tryz.prog.keyLits (m + 1 + 1) 5 [.int .u8 d] = some [.int .u8 d] := by simp [Program.keyLits, Tryz.underlying5, hd]
  simp [hcc, hcu, hl, hu, kf]
theorem u8_wf {d : Int} (h0 : 0 ≤ d) (h1 : d ≤ 255) : (Lit.int .u8 d).wf = true := by
  simp [Lit.wf, IntKind.min, IntKind.max, IntKind.signed, IntKind.bits]
  omega
theorem keyOf_face {c : Ce} {d : Int} (hc : nearP c (-5000) 5000) (h0 : 0 ≤ d) (h1 : d ≤ 255) : keyOf Tryz.prog 252 (.agg #[.int .i64 c.x, .int .i64 c.y, .int .i64 c.z, .int .u8 d]) = some (kf c d) :=
  keyOf_kf c d (cell_wf hc).1 (cell_wf hc).2.1 (cell_wf hc).2.2 (u8_wf h0 h1)
def endD (x y : Int) : DataW Unit := .agg [.lit (.int .i64 x), .lit (.int .i64 y)]
def endElem (v : Value) : Option (DataW Unit × List MemPlace) := match v with
  | .agg cs => (match cs.toList with
    | [.int .i64 x, .int .i64 y] => some (endD x y, [])
    | _ => none)
  | _ => none
theorem endElem_mk (x y : Int) : endElem (.agg #[.int .i64 x, .int .i64 y]) = some (endD x y, []) := rfl
theorem endElem_inv {v : Value} {z : DataW Unit × List MemPlace} (h : endElem v = some z) : ∃ x y, v = .agg #[.int .i64 x, .int .i64 y] ∧ z = (endD x y, []) := by
  unfold endElem at h
  split at h
  · split at h
    · rename_i cs x y e
      refine ⟨x, y, ?_, (Option.some.inj h).symm⟩
      rw [← e]
    · cases h
  · cases h
theorem zero_end (w : World) : (zeroValue 250).run Tryz.prog w = .ok (.agg #[.int .i64 0, .int .i64 0]) w := by kernel_rfl
/-- The map from faces to ends: what is known of the ends that it holds. -/
def FaceM (w0 w : World) (b n : Nat) (p : Int → Int → Prop) : Prop := ∃ D : DataW Unit, IsMap D ∧ w.ownsMap Tryz.prog 252 endElem b n D ∧ (∀ kl, has D kl = true → ∃ x y, (∀ zd, D.atKey kl zd = endD x y) ∧ p x y) ∧ Ext w0 w ∧ w0.heap.size ≤ b
section
variable {w0 w w' : World} {b n : Nat} {p q : Int → Int → Prop}
theorem FaceM.start (he : Ext w0 w) (hb : b = w.heap.size) : FaceM w0 (w.alloc (.map #[] 0)) b 0 p := by
  subst hb
  exact ⟨_, isMap_empty, World.ownsMap_made w Tryz.prog _ _, fun kl h => by simp [has] at h, he.alloc _, he.le⟩
theorem FaceM.mono (h : FaceM w0 w b n p) {m : Nat} (hm : n ≤ m) (hpq : ∀ x y, p x y → q x y) : FaceM w0 w b m q := by
  obtain ⟨D, h1, h2, h3, h4⟩ := h
  exact ⟨D, h1, h2.mono hm, fun kl hk => by obtain ⟨x, y, e, hp⟩ := h3 kl hk; exact ⟨x, y, e, hpq _ _ hp⟩, h4⟩
theorem FaceM.later (h : FaceM w0 w b n p) (he : Ext w w') : FaceM w0 w' b n p := by
  obtain ⟨D, h1, h2, h3, h4, h5⟩ := h
  exact ⟨D, h1, map_ext h2 he, h3, h4.trans he, h5⟩
theorem FaceM.kept {row : Option Nat} (h : FaceM w0 w b n p) (hg : w.grownBy w' row) (hx : Ext w0 w') (hne : some b ≠ row) : FaceM w0 w' b n p := by
  obtain ⟨D, h1, h2, h3, h4, h5⟩ := h
  exact ⟨D, h1, h2.kept hg hne, h3, hx, h5⟩
theorem FaceM.ext_ (h : FaceM w0 w b n p) : Ext w0 w := by
  obtain ⟨_, _, _, _, h4, _⟩ := h
  exact h4
theorem FaceM.isMap (h : FaceM w0 w b n p) : ∃ es clock, w.heap[b]? = some (.map es clock) := by
  obtain ⟨D, _, ⟨es, clock, hb, _⟩, _⟩ := h
  exact ⟨es, clock, hb⟩
theorem FaceM.store {ops : Array Oper} {rest : List Oper} {o : Oper} {a : Act} {Q : Exit → Act → World → Prop} (hg : o.guard = none) (mo x y : Operand) (hop : o.op = Op.mapUpdate 248 mo x y)
    (hm : a.eval mo = .map (some b)) (h : FaceM w0 w b n p) (hn : n ≤ 100000000) (c : Ce) (d : Int) (hc : nearP c (-5000) 5000) (h0 : 0 ≤ d) (h1 : d ≤ 255) (i k : Int) (hp : p i k) (hx : a.eval x = .agg #[.int .i64 c.x, .int .i64 c.y, .int .i64 c.z, .int .u8 d]) (hy : a.eval y = .agg #[.int .i64 i, .int .i64 k])
    (hK : ∀ w', FaceM w0 w' b (n + 1) p → w.grownBy w' (some b) → wpList Tryz.prog ops Q rest (a.put o.dst undef) w') : wpList Tryz.prog ops Q (o :: rest) a w := by
  obtain ⟨D, g1, g2, g3, g4, g5⟩ := h
  have hkey := keyOf_face hc h0 h1
  refine wpList_mapUpdate_own w hg mo x y 248 hop 252 250 face_keyed Tryz.underlying248 _ b n D hm g2 (by unfold maxLen; omega) _ _ (kf c d) hx hy hkey _ [] (endElem_mk i k) fun w' h5 h6 => ?_
  refine hK w' ⟨_, g1.put _ _, h5, fun kl hk => ?_, g4.grown h6 (fun j hj => by cases hj; exact g5), g5⟩ h6
  by_cases e : kl = kf c d
  · subst e
    exact ⟨i, k, fun zd => atKey_put_same g1 (face_keyed.key hkey) _ zd, hp⟩
  · rw [has_put_other e] at hk
    obtain ⟨x', y', e1, e2⟩ := g3 kl hk
    exact ⟨x', y', fun zd => by rw [atKey_put_other e, e1], e2⟩
theorem FaceM.look (h : FaceM w0 w b n p) (c : Ce) (d : Int) (hc : nearP c (-5000) 5000) (h0 : 0 ≤ d) (h1 : d ≤ 255) :
    ∃ (x y : Int) (is : Bool), (∀ w', Ext w w' → (Instr.lookup 248 (.map (some b)) (.agg #[.int .i64 c.x, .int .i64 c.y, .int .i64 c.z, .int .u8 d]) true).run Tryz.prog w' = .ok (.tuple #[.agg #[.int .i64 x, .int .i64 y], .bool is]) w') ∧ (is = true → p x y) := by
  obtain ⟨D, g1, g2, g3, g4, g5⟩ := h
  obtain ⟨v, ps, hrun, hv⟩ := g2.look_ok face_keyed Tryz.underlying248 (zero_end w) (endElem_mk 0 0) (keyOf_face hc h0 h1)
  obtain ⟨x, y, rfl, hz⟩ := endElem_inv hv
  refine ⟨x, y, has D (kf c d), fun w' he => ?_, fun hh => ?_⟩
  · obtain ⟨v', ps', hrun', hv'⟩ := (map_ext g2 he).look_ok face_keyed Tryz.underlying248 (zero_end w') (endElem_mk 0 0) (keyOf_face hc h0 h1)
    obtain ⟨x', y', rfl, hz'⟩ := endElem_inv hv'
    have e : endD x y = endD x' y' := by
      have e1 : D.atKey (kf c d) (endD 0 0) = endD x y := congrArg Prod.fst hz
      have e2 : D.atKey (kf c d) (endD 0 0) = endD x' y' := congrArg Prod.fst hz'
      exact e1.symm.trans e2
    simp only [endD, DataW.agg.injEq, List.cons.injEq, DataW.lit.injEq, Lit.int.injEq, true_and, and_true] at e
    rw [hrun', ← e.1, ← e.2]
  · obtain ⟨x', y', e1, e2⟩ := g3 _ hh
    rw [e1] at hz
    simp only [endD, Prod.mk.injEq, DataW.agg.injEq, List.cons.injEq, DataW.lit.injEq, Lit.int.injEq, true_and, and_true] at hz
    rw [← hz.1.1, ← hz.1.2]
    exact e2
end
/-! ### cells -/
theorem zero_int (w : World) : (zeroValue 3).run Tryz.prog w = .ok (.int .i64 0) w := by kernel_rfl
/-- The map from cells to bricks: what is known of what it holds (f), and where it holds something (g). -/
def CelM (w0 w : World) (b n : Nat) (f : Ce → Int → Prop) (g : Ce → Prop) : Prop := ∃ D : DataW Unit, IsMap D ∧ w.ownsMap Tryz.prog 60 (plainElem Tryz.prog 3) b n D ∧ (∀ c, nearP c (-5000) 5000 → has D (kc c) = true → ∃ x, (∀ zd, D.atKey (kc c) zd = .lit (.int .i64 x)) ∧ f c x) ∧ (∀ c, nearP c (-5000) 5000 → g c → has D (kc c) = true) ∧ Ext w0 w ∧ w0.heap.size ≤ b
section
variable {w0 w w' : World} {b n : Nat} {f f' : Ce → Int → Prop} {g g' : Ce → Prop}
theorem CelM.start (he : Ext w0 w) (hb : b = w.heap.size) : CelM w0 (w.alloc (.map #[] 0)) b 0 f (fun _ => False) := by
  subst hb
  exact ⟨_, isMap_empty, World.ownsMap_made w Tryz.prog _ _, fun c _ h => by simp [has] at h, fun c _ h => h.elim, he.alloc _, he.le⟩
theorem CelM.mono (h : CelM w0 w b n f g) {m : Nat} (hm : n ≤ m) (hf : ∀ c x, f c x → f' c x) (hg : ∀ c, g' c → g c) : CelM w0 w b m f' g' := by
  obtain ⟨D, h1, h2, h3, h4, h5⟩ := h
  exact ⟨D, h1, h2.mono hm, fun c hc hk => by obtain ⟨x, e, hp⟩ := h3 c hc hk; exact ⟨x, e, hf _ _ hp⟩, fun c hc hh => h4 c hc (hg c hh), h5⟩
theorem CelM.later (h : CelM w0 w b n f g) (he : Ext w w') : CelM w0 w' b n f g := by
  obtain ⟨D, h1, h2, h3, h4, h5, h6⟩ := h
  exact ⟨D, h1, map_ext h2 he, h3, h4, h5.trans he, h6⟩
theorem CelM.kept {row : Option Nat} (h : CelM w0 w b n f g) (hg : w.grownBy w' row) (hx : Ext w0 w') (hne : some b ≠ row) : CelM w0 w' b n f g := by
  obtain ⟨D, h1, h2, h3, h4, h5, h6⟩ := h
  exact ⟨D, h1, h2.kept hg hne, h3, h4, hx, h6⟩
theorem CelM.isMap (h : CelM w0 w b n f g) : ∃ es clock, w.heap[b]? = some (.map es clock) := by
  obtain ⟨D, _, ⟨es, clock, hb, _⟩, _⟩ := h
  exact ⟨es, clock, hb⟩
theorem CelM.store {ops : Array Oper} {rest : List Oper} {o : Oper} {a : Act} {Q : Exit → Act → World → Prop} (hg : o.guard = none) (mo x y : Operand) (hop : o.op = Op.mapUpdate 150 mo x y)
    (hm : a.eval mo = .map (some b)) (h : CelM w0 w b n f g) (hn : n ≤ 100000000) (c : Ce) (hc : nearP c (-5000) 5000) (i : Int) (hi : -1000 ≤ i ∧ i ≤ 1000) (hf : f c i) (hx : a.eval x = c.val) (hy : a.eval y = .int .i64 i)
    (hK : ∀ w', CelM w0 w' b (n + 1) f (fun c' => g c' ∨ c' = c) → w.grownBy w' (some b) → wpList Tryz.prog ops Q rest (a.put o.dst undef) w') : wpList Tryz.prog ops Q (o :: rest) a w := by
  obtain ⟨D, g1, g2, g3, g6, g4, g5⟩ := h
  have hkey := keyOf_near hc
  refine wpList_mapUpdate_own w hg mo x y 150 hop 60 3 cell_keyed Tryz.underlying150 _ b n D hm g2 (by unfold maxLen; omega) _ _ (kc c) hx hy hkey _ [] (plainElem_int Tryz.underlying3 (wf_small (by omega) (by omega))) fun w' h5 h6 => ?_
  refine hK w' ⟨_, g1.put _ _, h5, fun c' hc' hk => ?_, fun c' hc' hh => ?_, g4.grown h6 (fun j hj => by cases hj; exact g5), g5⟩ h6
  · by_cases e : c' = c
    · subst e
      exact ⟨i, fun zd => atKey_put_same g1 (cell_keyed.key hkey) _ zd, hf⟩
    · have e2 : kc c' ≠ kc c := fun h => e (kc_inj hc' hc h)
      rw [has_put_other e2] at hk
      obtain ⟨x', e1, e3⟩ := g3 c' hc' hk
      exact ⟨x', fun zd => by rw [atKey_put_other e2, e1], e3⟩
  · by_cases e : c' = c
    · subst e
      exact has_put_same g1 (cell_keyed.key hkey) _
    · rw [has_put_other (fun h => e (kc_inj hc' hc h))]
      exact g6 c' hc' (hh.resolve_right e)
theorem CelM.look (h : CelM w0 w b n f g) (c : Ce) (hc : nearP c (-5000) 5000) :
    ∃ (x : Int) (is : Bool), (Instr.lookup 150 (.map (some b)) c.val true).run Tryz.prog w = .ok (.tuple #[.int .i64 x, .bool is]) w ∧ (is = true → f c x) ∧ (g c → is = true) := by
  obtain ⟨D, g1, g2, g3, g6, g4, g5⟩ := h
  obtain ⟨v, ps, hrun, hv⟩ := g2.look_ok cell_keyed Tryz.underlying150 (zero_int w) (plainElem_int Tryz.underlying3 (by decide)) (keyOf_near hc)
  obtain ⟨x, rfl, hz, _⟩ := plainElem_int_inv Tryz.underlying3 hv
  refine ⟨x, _, hrun, fun hh => ?_, fun hh => g6 c hc hh⟩
  obtain ⟨x', e1, e2⟩ := g3 c hc hh
  rw [e1] at hz
  simp only [Prod.mk.injEq, DataW.lit.injEq, Lit.int.injEq, true_and] at hz
  rw [← hz.1]
  exact e2
end
end Go.Proofs.YtebkhdhhajjhfaaGreat.Lt

/- Slices of slices that the call itself makes. -/
namespace Go.Proofs.YtebkhdhhajjhfaaGreat.Lt
open Go Go.RowKit
variable {α : Type}
/-- The values of the inner slices. -/
def tabV (gs : List (Nat × Nat)) (L : List (List α)) : List Value := List.zipWith (fun p l => Value.slice (some ⟨p.1, 0, none⟩) l.length p.2) gs L
theorem tabV_len {gs : List (Nat × Nat)} {L : List (List α)} (h : gs.length = L.length) : (tabV gs L).length = L.length := by simp [tabV, h]
theorem tabV_snoc {gs : List (Nat × Nat)} {L : List (List α)} (h : gs.length = L.length) (p : Nat × Nat) (l : List α) : tabV (gs ++ [p]) (L ++ [l]) = tabV gs L ++ [Value.slice (some ⟨p.1, 0, none⟩) l.length p.2] := by
  unfold tabV
  rw [List.zipWith_append h]
  rfl
theorem tabV_at {gs : List (Nat × Nat)} {L : List (List α)} (h : gs.length = L.length) {i : Nat} (hi : i < L.length) : (tabV gs L)[i]? = some (.slice (some ⟨(gs[i]'(by omega)).1, 0, none⟩) L[i].length (gs[i]'(by omega)).2) := by
  unfold tabV
  rw [List.getElem?_zipWith, List.getElem?_eq_getElem (show i < gs.length by omega), List.getElem?_eq_getElem hi]
/-- u is the call's own slice of slices since w0: L, each of them the call's own. -/
def Tab (enc : α → List Value) (e1 sz e2 : Nat) (w0 w : World) (u : Value) (L : List (List α)) : Prop :=
  ∃ gs : List (Nat × Nat), gs.length = L.length ∧ Own w0 w e2 1 u L.length (tabV gs L) ∧ ∀ i (h1 : i < gs.length) (h2 : i < L.length), Own w0 w e1 sz (.slice (some ⟨gs[i].1, 0, none⟩) L[i].length gs[i].2) L[i].length (L[i].map enc).flatten
section
variable {enc : α → List Value} {e1 sz e2 : Nat} {w0 w w' : World} {u : Value} {L : List (List α)}
theorem Tab.nil (he : Ext w0 w) : Tab enc e1 sz e2 w0 w (.slice none 0 0) [] := ⟨[], rfl, Own.nil' he _ _, fun i h => absurd h (by simp)⟩
theorem Tab.ext (h : Tab enc e1 sz e2 w0 w u L) : Ext w0 w := by
  obtain ⟨_, _, h1, _⟩ := h
  exact h1.ext
theorem Tab.form (h : Tab enc e1 sz e2 w0 w u L) : ∃ A c, u = .slice A L.length c := by
  obtain ⟨_, _, h1, _⟩ := h
  exact h1.form
theorem Tab.later (h : Tab enc e1 sz e2 w0 w u L) (he : Ext w w') : Tab enc e1 sz e2 w0 w' u L := by
  obtain ⟨gs, h1, h2, h3⟩ := h
  exact ⟨gs, h1, h2.later he, fun i a b => (h3 i a b).later he⟩
theorem Tab.since {wa : World} (h : Tab enc e1 sz e2 w0 w u L) (he : Ext wa w0) : Tab enc e1 sz e2 wa w u L := by
  obtain ⟨gs, h1, h2, h3⟩ := h
  exact ⟨gs, h1, h2.since he, fun i a b => (h3 i a b).since he⟩
/-- A store into a map, or growth in a block that holds something else. -/
theorem Tab.map (h : Tab enc e1 sz e2 w0 w u L) {r : Nat} (hg : w.grownBy w' (some r)) (hr : w0.heap.size ≤ r) {es : Array MapEntry} {clock : Nat} (hm : w.heap[r]? = some (.map es clock)) : Tab enc e1 sz e2 w0 w' u L := by
  obtain ⟨gs, h1, h2, h3⟩ := h
  exact ⟨gs, h1, own_grown h2 hg (fun k e => by cases e; exact hr) (own_ne_map h2 hm), fun i a b => own_grown (h3 i a b) hg (fun k e => by cases e; exact hr) (own_ne_map (h3 i a b) hm)⟩
/-- Growth of an own row of another type. -/
theorem Tab.row (h : Tab enc e1 sz e2 w0 w u L) {e size n : Nat} {v : Value} {xs : List Value} (hv : Own w0 w e size v n xs) (hg : w.grownBy w' v.ownBlock) (h1 : e1 ≠ e) (h2 : e2 ≠ e) : Tab enc e1 sz e2 w0 w' u L := by
  obtain ⟨gs, g1, g2, g3⟩ := h
  have hr : ∀ k, v.ownBlock = some k → w0.heap.size ≤ k := fun k hk => (hv.2.lt k hk).1
  exact ⟨gs, g1, own_grown g2 hg hr (own_ne_row g2 hv.2 h2), fun i a b => own_grown (g3 i a b) hg hr (own_ne_row (g3 i a b) hv.2 h1)⟩
/-- An inner slice. -/
theorem Tab.at_ (h : Tab enc e1 sz e2 w0 w u L) {i : Nat} (hi : i < L.length) : ∃ ad c g c', u = .slice (some ad) L.length c ∧ (∀ w', Ext w w' → w'.cell? (ad.add i) = some (.slice (some ⟨g, 0, none⟩) L[i].length c')) ∧ Own w0 w e1 sz (.slice (some ⟨g, 0, none⟩) L[i].length c') L[i].length (L[i].map enc).flatten := by
  obtain ⟨gs, g1, g2, g3⟩ := h
  obtain ⟨g, c, rfl, _, _⟩ := g2.at_ (show 0 < L.length by omega)
  have hr : Row w (some ⟨g, 0, none⟩) (tabV gs L) := g2.row
  obtain ⟨ad', e, hc⟩ := hr i (by rw [tabV_len g1]; exact hi)
  have e := Option.some.inj e
  subst e
  rw [tabV_at g1 hi] at hc
  exact ⟨_, c, _, _, rfl, fun w' he => he.cell hc, g3 i (by omega) hi⟩
end
/-- A list of a list of lists. -/
def klA (L : List (List α)) (i : Nat) : List α := L.getD i []
theorem klA_at {L : List (List α)} {i : Nat} (h : i < L.length) : klA L i = L[i] := by simp [klA, List.getD, h]
theorem take_klA {L : List (List α)} {k : Nat} (h : k < L.length) : L.take (k + 1) = L.take k ++ [klA L k] := by rw [klA_at h, List.take_succ_eq_append_getElem h]
theorem Tab.get {enc : α → List Value} {e1 sz e2 : Nat} {w0 w : World} {u : Value} {L : List (List α)} (h : Tab enc e1 sz e2 w0 w u L) {i : Nat} (hi : i < L.length) : ∃ ad c g c', u = .slice (some ad) L.length c ∧ (∀ w', Ext w w' → w'.cell? (ad.add i) = some (.slice (some ⟨g, 0, none⟩) (klA L i).length c')) ∧ Own w0 w e1 sz (.slice (some ⟨g, 0, none⟩) (klA L i).length c') (klA L i).length ((klA L i).map enc).flatten := by
  rw [klA_at hi]
  exact h.at_ hi
theorem klA_take {L : List (List α)} {i j : Nat} (h : i < j) : klA (L.take j) i = klA L i := by
  unfold klA List.getD
  rw [List.getElem?_take_of_lt h]
theorem Tab.last {enc : α → List Value} {e1 sz e2 : Nat} {w0 w : World} {X : Option Addr} {k c : Nat} {L : List (List α)} (h : Tab enc e1 sz e2 w0 w (.slice X (k + 1) c) (L.take (k + 1))) (hk : k < L.length) : ∃ xd g c', X = some xd ∧ (∀ w', Ext w w' → w'.cell? (xd.add k) = some (.slice (some ⟨g, 0, none⟩) (klA L k).length c')) ∧ Own w0 w e1 sz (.slice (some ⟨g, 0, none⟩) (klA L k).length c') (klA L k).length ((klA L k).map enc).flatten := by
  obtain ⟨ad, c2, g, c', e, h1, h2⟩ := h.get (i := k) (by rw [List.length_take]; omega)
  rw [klA_take (Nat.lt_succ_self k)] at h1 h2
  simp only [Value.slice.injEq] at e
  exact ⟨ad, g, c', e.1, h1, h2⟩
theorem Tab.snoc2 {enc : α → List Value} {e1 sz e2 : Nat} {w0 w w' : World} {u u' : Value} {L : List (List α)} {gs : List (Nat × Nat)} (g1 : gs.length = L.length) (g2 : Own w0 w e2 1 u L.length (tabV gs L)) (g3 : ∀ i (h1 : i < gs.length) (h2 : i < L.length), Own w0 w e1 sz (.slice (some ⟨gs[i].1, 0, none⟩) L[i].length gs[i].2) L[i].length (L[i].map enc).flatten)
    (hne : e1 ≠ e2) {l : List α} {g c : Nat} (hl : Own w0 w e1 sz (.slice (some ⟨g, 0, none⟩) l.length c) l.length (l.map enc).flatten) (hg : w.grownBy w' u.ownBlock)
    (hu : Own w0 w' e2 1 u' (L.length + 1) (tabV gs L ++ [.slice (some ⟨g, 0, none⟩) l.length c])) : Tab enc e1 sz e2 w0 w' u' (L ++ [l]) := by
  have hr : ∀ k, u.ownBlock = some k → w0.heap.size ≤ k := fun k hk => (g2.2.lt k hk).1
  refine ⟨gs ++ [(g, c)], by simp [g1], ?_, fun i a b => ?_⟩
  · rw [tabV_snoc g1, List.length_append]
    exact hu
  · by_cases hi : i < L.length
    · have := own_grown (g3 i (by omega) hi) hg hr (own_ne_row (g3 i (by omega) hi) g2.2 hne)
      rw [List.getElem_append_left (show i < gs.length by omega)]
      simp only [List.getElem_append_left hi]
      exact this
    · obtain rfl : i = L.length := by simp at b; omega
      have := own_grown hl hg hr (own_ne_row hl g2.2 hne)
      have e1' : (gs ++ [(g, c)])[L.length]'a = (g, c) := by rw [List.getElem_append_right (by omega)]; simp
      have e2' : (L ++ [l])[L.length]'b = l := by rw [List.getElem_append_right (by omega)]; simp
      rw [e1']
      simp only [e2']
      exact this
theorem knobs_elem : ElemInfo 80 (.slice none 0 0) 1 24 := ⟨info_parts (by kernel_rfl), rfl, by decide⟩
theorem cells_elem : ElemInfo 79 (.slice none 0 0) 1 24 := ⟨info_parts (by kernel_rfl), rfl, by decide⟩
end Go.Proofs.YtebkhdhhajjhfaaGreat.Lt

/- For the walk through links: the knobs of the bricks of a valid model. -/
namespace Go.Proofs.YtebkhdhhajjhfaaGreat.Lt
open Go Go.RowKit
/-- What is known of a placed knob. -/
structure KnK (x : Kn) : Prop where
  near : nearP x.at_ (-2000) 2000
  d0 : 0 ≤ x.dir
  d1 : x.dir < 6
  s0 : 1 ≤ x.srt
  s1 : x.srt ≤ 6
theorem knT_ok {k : Ki} (hk : KiOk k) {t : Nat} (ht : t < 24) {o : Ce} (ho : nearP o (-1000) 1000) {j : Nat} (hj : j < k.ks.length) (h0 : 0 ≤ (knA k.ks j).dir) : KnK (knT t o (knA k.ks j)) := by
  obtain ⟨_, h2, h3, _⟩ := knT_round hk t hj h0
  have h4 := hk.kn j hj
  have h5 := (dirT_ok _ h3 t ht).1
  refine ⟨?_, ?_, ?_, h4.1.2.1, h4.1.2.2⟩
  · show nearP (plusC (turnC (knA k.ks j).at_ t) o) (-2000) 2000
    unfold nearP plusC at *
    simp only
    omega
  · show (0 : Int) ≤ (dirT (knA k.ks j).dir.toNat t : Nat)
    omega
  · show ((dirT (knA k.ks j).dir.toNat t : Nat) : Int) < 6
    omega
theorem kind_of {l : List Ki} {ms : List Br} (hv : boundP l ms) {i : Nat} (hi : i < ms.length) : (brA ms i).kind.toNat < l.length ∧ (brA ms i).trn.toNat < 24 ∧ nearP (brA ms i).at_ (-1000) 1000 ∧ ((brA ms i).kind.toNat : Int) = (brA ms i).kind ∧ ((brA ms i).trn.toNat : Int) = (brA ms i).trn := by
  have hb := hv.2.2 i hi
  have := hb.k0
  have := hb.k1
  have := hb.t0
  have := hb.t1
  exact ⟨by omega, by omega, hb.near, by omega, by omega⟩
theorem knoB_ok {l : List Ki} {ms : List Br} (hv : boundP l ms) (h8 : kindsW l) {i : Nat} (hi : i < ms.length) {t : Nat} (ht : t < (knoB l (brA ms i)).length) : KnK (knA (knoB l (brA ms i)) t) := by
  obtain ⟨h1, h2, h3, _, _⟩ := kind_of hv hi
  rw [knoB_len] at ht
  unfold knoB
  rw [knL_at ht]
  exact knT_ok (hv.1.2 _ h1) h2 h3 ht (h8 _ h1 t ht)
theorem knoB_most {l : List Ki} {ms : List Br} (hv : boundP l ms) {i : Nat} (hi : i < ms.length) : (knoB l (brA ms i)).length ≤ 48 := by
  obtain ⟨h1, _⟩ := kind_of hv hi
  rw [knoB_len]
  exact (hv.1.2 _ h1).m1
/-- A kind in memory, and its knobs, placed. -/
theorem kn_round {l : List Ki} {A : Option Addr} {ms : List Br} {w : World} (hA : KiRow w A l) (h8 : kindsW l) (hv : boundP l ms) {i : Nat} (hi : i < ms.length) :
    ∃ (kn tn : Nat) (o : Ce) (col : Int) (ad : Addr) (B D : Option Addr) (bc dc L mk : Nat) (wt : Int), brA ms i = ⟨kn, o, tn, col⟩ ∧ A = some ad ∧ kn < l.length ∧ tn < 24 ∧
      (∀ w', Ext w w' → w'.cell? (ad.add (kn * 3)) = some (.slice B L bc)) ∧ (∀ w', Ext w w' → w'.cell? ⟨(ad.add (kn * 3)).block, (ad.add (kn * 3)).off + 1, none⟩ = some (.slice D mk dc)) ∧ (∀ w', Ext w w' → w'.cell? ⟨(ad.add (kn * 3)).block, (ad.add (kn * 3)).off + 2, none⟩ = some (.int .i64 wt)) ∧ mk = (knoB l (brA ms i)).length ∧
      ∀ w', Ext w w' → Calls Tryz.prog 97 #[.agg #[.slice B L bc, .slice D mk dc, .int .i64 wt], .int .i64 tn, o.val] w' fun e w'' => ∃ g cap, e = .returned (.slice (some ⟨g, 0, none⟩) mk cap) ∧ Own w' w'' 144 5 (.slice (some ⟨g, 0, none⟩) mk cap) mk ((knoB l (brA ms i)).map Kn.cells).flatten := by
  obtain ⟨h1, h2, h3, h4, h5⟩ := kind_of hv hi
  have hkk := hv.1.2 _ h1
  obtain ⟨ad, B, bc, D, dc, rfl, s0, s1, s2, g5, g6⟩ := hA _ h1
  have hlen := knoB_len l (brA ms i)
  refine ⟨(brA ms i).kind.toNat, (brA ms i).trn.toNat, (brA ms i).at_, (brA ms i).col, ad, B, D, bc, dc, _, _, _, ?_, rfl, h1, h2, s0, s1, s2, hlen.symm, fun w' he => ?_⟩
  · rw [h4, h5]
  · exact knobs_all _ B bc D dc _ _ w' hkk (h8 _ h1) (g6.ext he) h2 h3
theorem xor8 (d : Nat) (hd : d < 6) : ∃ q : Nat, q < 6 ∧ bits BinOp.xor IntKind.u8 (d : Int) 1 = (q : Int) := by
  rcases six_cases hd with rfl | rfl | rfl | rfl | rfl | rfl
  · exact ⟨1, by omega, by decide⟩
  · exact ⟨0, by omega, by decide⟩
  · exact ⟨3, by omega, by decide⟩
  · exact ⟨2, by omega, by decide⟩
  · exact ⟨5, by omega, by decide⟩
  · exact ⟨4, by omega, by decide⟩
theorem FaceM.ne {w0 w : World} {b n : Nat} {p : Int → Int → Prop} (h : FaceM w0 w b n p) {w1 : World} {e size m : Nat} {v : Value} {xs : List Value} (hv : Own w1 w e size v m xs) : some b ≠ v.ownBlock := by
  obtain ⟨es, clock, hm⟩ := h.isMap
  rcases own_ne_map hv hm with h1 | h1
  · rw [h1]; simp
  · exact fun e => h1 e.symm
/-- A link of two knobs, of so many bricks with knobs. -/
structure LnkOk (KL : List (List Kn)) (x : Lnk) : Prop where
  a0 : 0 ≤ x.a
  ab : x.a < x.b
  b1 : x.b < KL.length
  k0 : 0 ≤ x.kn
  k1 : x.kn < (klA KL x.a.toNat).length
  o0 : 0 ≤ x.ot
  o1 : x.ot < (klA KL x.b.toNat).length
  srt : x.srt = 1 ∨ x.srt = 3 ∨ x.srt = 5
/-- An end that is there. -/
def EndIn (KL : List (List Kn)) (x y : Int) : Prop := (0 ≤ x ∧ x < KL.length) ∧ 0 ≤ y ∧ y < (klA KL x.toNat).length
theorem pair_srt {a b : Int} (ha : 1 ≤ a ∧ a ≤ 6) (hb : 1 ≤ b ∧ b ≤ 6) (h : (a + 1) / 2 = (b + 1) / 2) : (a < b → a = 1 ∨ a = 3 ∨ a = 5) ∧ (b < a → b = 1 ∨ b = 3 ∨ b = 5) := by omega
end Go.Proofs.YtebkhdhhajjhfaaGreat.Lt

/- Regions that draw their order and store into what they have made new: the store, too, in one walk. -/
namespace Go.Proofs.YtebkhdhhajjhfaaGreat
open Go Go.RowKit
namespace Cg
section
variable {p : Pre} {P : Program} {ops : Array Oper} {S : Spec} {fr : Nat → Bool} {w0 : World}
/-- An operation that yields nothing, and turns the world: T is what is said of it. -/
theorem calm_put {Q : Act → Gx → Prop} {o : Oper} {l : List Oper} {k : Nat} {a : Act} {F : Gx} (hQ : MonoQ Q) (T : World → Prop) (hT : ∀ w w', p.R w w' → T w → T w') (hw : Region.wanted o (yielded ops a.tmps) = true) (hfr : fr k = false)
    (hrun : ∀ w, p.R w0 w → facts ops F.F k w → ∃ w', (execOp a.eval o).run P w = .ok .skip w' ∧ p.R w w' ∧ T w')
    (hn : ∀ w', p.R w0 w' → T w' → wpCalm p P ops S fr w0 Q l (k + 1) (a.put o.dst undef) (F.put fr k T undef)) : wpCalm p P ops S fr w0 Q (o :: l) k a F := by
  refine ⟨fun _ w he hf => ?_, fun _ v hfar hv => ?_, fun hf => by rw [hw] at hf; cases hf⟩
  · obtain ⟨w', hr, hR, _⟩ := hrun w he hf
    rw [hr]
    exact ⟨hR, hfr⟩
  · have hS : ∀ w', Rel p P w0 (execOp a.eval o) (facts ops F.F k) (S k) v w' → v = undef ∧ T w' := fun w' ⟨w1, h1, h2, h⟩ => by
      obtain ⟨w2, hr, _, ht⟩ := hrun w1 h1 h2
      rw [hr] at h
      obtain ⟨rfl, hx⟩ := h
      exact ⟨rfl, hT _ _ hx ht⟩
    obtain ⟨w', he, hs⟩ := hv
    obtain ⟨rfl, ht⟩ := hS w' ((hs.1 k).2 rfl)
    exact wpCalm_mono hQ _ _ _ (F.put fr k T undef) _ ⟨fun i w h => ⟨h.1, fun e => (hS _ (h.2 e)).2⟩, fun u h => h⟩ (hn w' he ht)
end
/-- Growth by which blocks that are new since b may turn from zs to vs. -/
def putR (b : World) (t : TypeId) (zs vs : Array Value) (w w' : World) : Prop := (w'.os = w.os ∧ w'.tape = w.tape ∧ w'.output = w.output ∧ w.heap.size ≤ w'.heap.size) ∧
  ∀ k, k < w.heap.size → w'.heap[k]? = w.heap[k]? ∨ (b.heap.size ≤ k ∧ w.heap[k]? = some (.cells zs t) ∧ w'.heap[k]? = some (.cells vs t))
section
variable {b : World} {t : TypeId} {zs vs : Array Value} {w w' : World}
theorem putR.of_ext (h : Ext w w') : putR b t zs vs w w' := ⟨⟨h.os, h.tape, h.output, h.size⟩, fun k hk => .inl (h.block k hk)⟩
theorem putR.base (h : putR b t zs vs w w') (hb : Ext b w) : Ext b w' :=
  ⟨h.1.1.trans hb.os, h.1.2.1.trans hb.tape, h.1.2.2.1.trans hb.output, Nat.le_trans hb.size h.1.2.2.2, fun k hk => by
    rcases h.2 k (Nat.lt_of_lt_of_le hk hb.size) with h1 | ⟨h1, _⟩
    · exact h1.trans (hb.block k hk)
    · omega⟩
theorem putR.trans {a c d : World} (h : putR b t zs vs a c) (k : putR b t zs vs c d) : putR b t zs vs a d :=
  ⟨⟨k.1.1.trans h.1.1, k.1.2.1.trans h.1.2.1, k.1.2.2.1.trans h.1.2.2.1, Nat.le_trans h.1.2.2.2 k.1.2.2.2⟩, fun i hi => by
    rcases h.2 i hi with h1 | ⟨h1, h2, h3⟩
    · rcases k.2 i (Nat.lt_of_lt_of_le hi h.1.2.2.2) with k1 | ⟨k1, k2, k3⟩
      · exact .inl (k1.trans h1)
      · exact .inr ⟨k1, by rw [← h1]; exact k2, k3⟩
    · rcases k.2 i (Nat.lt_of_lt_of_le hi h.1.2.2.2) with k1 | ⟨_, _, k3⟩
      · exact .inr ⟨h1, h2, by rw [k1]; exact h3⟩
      · exact .inr ⟨h1, h2, k3⟩⟩
def putPre (b : World) (t : TypeId) (zs vs : Array Value) : Pre := ⟨putR b t zs vs, fun _ => putR.of_ext (Ext.refl _), putR.trans, fun h => h.trans (putR.of_ext ((Ext.refl _).drawn _)), fun h => h.1.2.2.2⟩
/-- Block g is there, as it was made or as it is stored. -/
def PutIn (t : TypeId) (zs vs : Array Value) (g : Nat) (w : World) : Prop := w.heap[g]? = some (.cells zs t) ∨ w.heap[g]? = some (.cells vs t)
theorem PutIn.kept {g : Nat} (h : PutIn t zs vs g w) (hr : putR b t zs vs w w') : PutIn t zs vs g w' := by
  have hl : g < w.heap.size := by rcases h with h | h <;> exact (Array.getElem?_eq_some_iff.1 h).1
  rcases hr.2 g hl with h1 | ⟨_, _, h3⟩
  · exact h.imp (fun e => h1.trans e) (fun e => h1.trans e)
  · exact .inr h3
theorem put_done {g : Nat} (h : w.heap[g]? = some (.cells vs t)) (hr : putR b t zs vs w w') : w'.heap[g]? = some (.cells vs t) := by
  rcases hr.2 g (Array.getElem?_eq_some_iff.1 h).1 with h1 | ⟨_, _, h3⟩
  · exact h1.trans h
  · exact h3
end
end Cg
namespace Lt
/-- A store of two cells into such a block. -/
theorem put_two {b w : World} {t : TypeId} {z0 z1 v0 v1 : Value} {g : Nat} (h : Cg.PutIn t #[z0, z1] #[v0, v1] g w) (hb : b.heap.size ≤ g) :
    Cg.putR b t #[z0, z1] #[v0, v1] w ((w.setCell ⟨g, 0, none⟩ v0).setCell ⟨g, 1, none⟩ v1) ∧ ((w.setCell ⟨g, 0, none⟩ v0).setCell ⟨g, 1, none⟩ v1).heap[g]? = some (.cells #[v0, v1] t) := by
  have key : ∀ c0 c1, w.heap[g]? = some (.cells #[c0, c1] t) → ((w.setCell ⟨g, 0, none⟩ v0).setCell ⟨g, 1, none⟩ v1).heap[g]? = some (.cells #[v0, v1] t) := fun c0 c1 hc =>
    ((Whole.setCell ⟨hc⟩ 0 v0).setCell 1 v1).h
  have hd : ((w.setCell ⟨g, 0, none⟩ v0).setCell ⟨g, 1, none⟩ v1).heap[g]? = some (.cells #[v0, v1] t) := by
    rcases h with h | h
    · exact key _ _ h
    · exact key _ _ h
  refine ⟨⟨⟨rfl, rfl, rfl, by simp⟩, fun k hk => ?_⟩, hd⟩
  by_cases e : k = g
  · subst e
    rcases h with h | h
    · exact .inr ⟨hb, h, hd⟩
    · exact .inl (by rw [hd, h])
  · refine .inl ?_
    rw [heap_setCell_other _ _ _ _ e, heap_setCell_other _ _ _ _ e]
theorem put_cells {w : World} {t : TypeId} {z0 z1 v0 v1 : Value} {g : Nat} (h : Cg.PutIn t #[z0, z1] #[v0, v1] g w) : (∃ c0, w.cell? ⟨g, 0, none⟩ = some c0) ∧ (∃ c1, w.cell? ⟨g, 1, none⟩ = some c1) ∧ ∀ j, w.frozen? ⟨g, j, none⟩ = false := by
  rcases h with h | h
  · exact ⟨⟨_, (Whole.mk h).cell 0 rfl⟩, ⟨_, (Whole.mk h).cell 1 rfl⟩, (Whole.mk h).free⟩
  · exact ⟨⟨_, (Whole.mk h).cell 0 rfl⟩, ⟨_, (Whole.mk h).cell 1 rfl⟩, (Whole.mk h).free⟩
end Lt
end Go.Proofs.YtebkhdhhajjhfaaGreat
