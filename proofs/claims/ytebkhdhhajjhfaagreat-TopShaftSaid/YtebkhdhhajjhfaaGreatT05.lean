/- The equations of a train, by the code. -/
import Derived.Test.YtebkhdhhajjhfaaGreatT04
import Derived.Test.YtebkhdhhajjhfaaGreatProg
import Derived.Maps.OwnSet
import Derived.Test.YtebkhdhhajjhfaaGreatT01
import Derived.Lib.Hide
import Derived.Lib.Mul64
import Derived.Laws.Bits64b
import Derived.WalkLawsBesides
namespace Go.Proofs.YtebkhdhhajjhfaaGreat.Gr
open Go.RowKit

section
variable {b w w' : World} {g : Nat} {xs : List Int}
theorem NewInts.store (h : NewInts b w g xs) (hx : xs.length ≤ maxLen) (i : Nat) (x : Int) : NewInts b (w.setCell ⟨g, i, none⟩ (vint x)) g (xs.set i x) := by
  have := (h.own hx).store i (vint x)
  rw [← List.map_set] at this
  exact NewInts.of_own this
theorem NewInts.other (h : NewInts b w g xs) (hx : xs.length ≤ maxLen) {p : Addr} (hp : b.heap.size ≤ p.block) (hne : p.block ≠ g) (u : Value) : NewInts b (w.setCell p u) g xs :=
  NewInts.of_own ((h.own hx).other hp (by simp only [Value.ownBlock, ne_eq, Option.some.injEq]; exact fun e => hne e.symm) u)
theorem NewInts.free (h : NewInts b w g xs) (hx : xs.length ≤ maxLen) (j : Nat) : w.frozen? ⟨g, j, none⟩ = false := (h.own hx).free j
end

theorem frozen_heap {w : World} {b : Nat} {cs : Array Value} {t : TypeId} (h : w.heap[b]? = some (.cells cs t)) (j : Nat) : w.frozen? ⟨b, j, none⟩ = false := by
  simp [World.frozen?, h]
theorem cell_heap {w : World} {b : Nat} {cs : Array Value} {t : TypeId} (h : w.heap[b]? = some (.cells cs t)) (j : Nat) : w.cell? ⟨b, j, none⟩ = cs[j]? := by
  simp [World.cell?, h]

/-- The row's two lines, and the struct that holds them, once it is stored and a number of the second one is set. -/
theorem row_made {w0 w3 : World} {g h br : Nat} {l : List Int} {n m k : Nat} (hg : NewInts w0 w3 g l) (hh : NewInts w0 w3 h (List.replicate m 0)) (hb : w0.heap.size ≤ br) (hbr : w3.heap[br]? = some (.cells #[.slice none 0 0, .slice none 0 0] 130))
    (hne : g ≠ h) (hln : l.length = n) (hn : n ≤ 1000000) (hm : m ≤ 1000000) (hk : k < m) {w4 w5 : World} (h4 : w4 = (w3.setCell ⟨br, 0, none⟩ (sl g n)).setCell ⟨br, 1, none⟩ (sl h m)) (h5 : w5 = w4.setCell ⟨h, k, none⟩ (vint 1)) :
    (w4.cell? ⟨br, 0, none⟩ = some (sl g n) ∧ w4.cell? ⟨br, 1, none⟩ = some (sl h m) ∧ w4.cell? ⟨h, k, none⟩ = some (vint 0) ∧ w4.frozen? ⟨h, k, none⟩ = false) ∧
    (w5.cell? ⟨br, 0, none⟩ = some (sl g n) ∧ w5.cell? ⟨br, 1, none⟩ = some (sl h m) ∧ Ext w0 w5 ∧ NewInts w0 w5 g l ∧ NewInts w0 w5 h ((List.replicate m 0).set k 1)) := by
  have hbg : br ≠ g := fun e => by
    have := hg.2.2
    rw [← e, hbr] at this
    injection this with this
    injection this with _ ht
    exact absurd ht (by decide)
  have hbh : br ≠ h := fun e => by
    have := hh.2.2
    rw [← e, hbr] at this
    injection this with this
    injection this with _ ht
    exact absurd ht (by decide)
  have hl1 : l.length ≤ maxLen := by unfold maxLen; omega
  have hl2 : (List.replicate m (0 : Int)).length ≤ maxLen := by unfold maxLen; simp; omega
  have g4 : NewInts w0 w4 g l := by
    rw [h4]
    exact (hg.other (p := ⟨br, 0, none⟩) hl1 hb hbg _).other (p := ⟨br, 1, none⟩) hl1 hb hbg _
  have hh4 : NewInts w0 w4 h (List.replicate m 0) := by
    rw [h4]
    exact (hh.other (p := ⟨br, 0, none⟩) hl2 hb hbh _).other (p := ⟨br, 1, none⟩) hl2 hb hbh _
  have c0 : w3.cell? ⟨br, 0, none⟩ = some (.slice none 0 0) := by rw [cell_heap hbr]; rfl
  have c1 : w3.cell? ⟨br, 1, none⟩ = some (.slice none 0 0) := by rw [cell_heap hbr]; rfl
  have d0 : w4.cell? ⟨br, 0, none⟩ = some (sl g n) := by
    rw [h4, World.cell?_setCell_other _ _ _ _ (by simp), World.cell?_setCell_same _ _ _ c0]
  have d1 : w4.cell? ⟨br, 1, none⟩ = some (sl h m) := by
    rw [h4, World.cell?_setCell_same _ _ _ (u := .slice none 0 0)]
    rw [World.cell?_setCell_other _ _ _ _ (by simp)]; exact c1
  refine ⟨⟨d0, d1, ?_, hh4.free hl2 k⟩, ?_, ?_, ?_, ?_, ?_⟩
  · rw [hh4.cell (by simpa using hk)]
    simp [getI, hk]
  · rw [h5, World.cell?_setCell_other _ _ _ _ (by first | (simp; done) | (simp; exact fun e => absurd e.symm hbh))]; exact d0
  · rw [h5, World.cell?_setCell_other _ _ _ _ (by first | (simp; done) | (simp; exact fun e => absurd e.symm hbh))]; exact d1
  · rw [h5]; exact hh4.ext.setCell hh.2.1 _
  · rw [h5]; exact g4.other (p := ⟨h, k, none⟩) hl1 hh.2.1 (fun e => hne e.symm) _
  · rw [h5]; exact hh4.store hl2 k 1

theorem make_run (w : World) (n : Nat) (hn : n ≤ 1000000) :
    ∃ w', (Instr.makeSlice 128 (.int .i64 (n : Int)) (.int .i64 (n : Int))).run Tryz.prog w = .ok (sl w.heap.size n) w' ∧ Ext w w' ∧ NewInts w w' w.heap.size (List.replicate n 0) := by
  obtain ⟨i, hi, hz0, hz1, hz2⟩ := int_elem.info
  obtain ⟨w', h1, h2, h3⟩ := run_make_full (P := Tryz.prog) w w.heap.size 128 3 i (.int .i64 0) 1 Tryz.underlying128 hi hz0 hz1 .i64 .i64 n (by rw [hz2]; omega) (by unfold maxLen; omega) (Nat.le_refl _)
  have hx : Ext w w' := (Ext.refl w).grown h3 (fun k hk => by cases hk)
  rw [made_ints] at h2
  exact ⟨w', h1, hx, NewInts.of_own ⟨hx, h2⟩⟩
theorem NewInts.new' {w w' : World} {g : Nat} {xs : List Int} {n : Nat} (h : NewInts w w' g xs) (hn : xs.length = n) : Cf.New (sl g n) w w' := by
  subst hn
  exact h.new

def unitL (m i : Nat) : List Int := (List.replicate m 0).set i 1
def lineI (ms : List Msh) (S i : Nat) : List Int := match ms[i]? with
  | some x => facS x S
  | none => []
theorem lineI_eq {ms : List Msh} {S i : Nat} (h : i < ms.length) : lineI ms S i = facS ms[i] S := by simp [lineI, h]
structure RowsOf (ms : List Msh) (S k : Nat) (rs : List RowM) : Prop where
  len : rs.length = k
  l : ∀ i (h : i < rs.length), rs[i].l = lineI ms S i
  b : ∀ i (h : i < rs.length), rs[i].b = unitL ms.length i
theorem RowsOf.snoc {ms : List Msh} {S k : Nat} {rs : List RowM} (h : RowsOf ms S k rs) {g h' : Nat} {l b : List Int} (hl : l = lineI ms S k) (hb : b = unitL ms.length k) : RowsOf ms S (k + 1) (rs ++ [⟨g, h', l, b⟩]) := by
  refine ⟨by simp [h.len], fun i hi => ?_, fun i hi => ?_⟩
  · by_cases e : i < rs.length
    · rw [List.getElem_append_left e]; exact h.l i e
    · have : i = rs.length := by simp at hi; omega
      subst this
      rw [List.getElem_append_right (by omega)]
      simp [hl, h.len]
  · by_cases e : i < rs.length
    · rw [List.getElem_append_left e]; exact h.b i e
    · have : i = rs.length := by simp at hi; omega
      subst this
      rw [List.getElem_append_right (by omega)]
      simp [hb, h.len]

def RowsRes (w : World) (ms : List Msh) (S : Nat) (e : Ending) (w' : World) : Prop :=
  ∃ v rs, e = .returned v ∧ Mat w w' v S ms.length rs ∧ RowsOf ms S ms.length rs

set_option maxRecDepth 100000 in
set_option maxHeartbeats 4000000 in
theorem rows_any (A : Option Addr) (c S : Nat) (ms : List Msh) (w : World) (hA : MRow w A ms) (ht : trainP S ms) :
    Calls Tryz.prog 48 #[.agg #[.int .i64 S, .slice A ms.length c]] w (RowsRes w ms S) := by
  have ha := fun k (hk : k < ms.length) => hA.at_ hk
  have ce := fun (k : Nat) (hk : k < ms.length) (w' : World) => equation_any ms[k] S w' (ht.2.2.2 k hk) (by have := ht.2.1; omega)
  have hl16 := ht.2.2.1
  have h8 : S ≤ 8 := by have := ht.2.1; omega
  have hli := fun (k : Nat) (hk : k < ms.length) => lineI_eq (S := S) hk
  have hfl := fun (k : Nat) (hk : k < ms.length) => facS_length ms[k] S
  have Ha := Lib.hid ha
  have Ce := Lib.hid ce
  have Hli := Lib.hid hli
  have Hfl := Lib.hid hfl
  clear ha ce hli hfl hA ht
  obtain ⟨m, hm⟩ : ∃ m, m = ms.length := ⟨_, rfl⟩
  rw [← hm] at hl16 ⊢
  have Hm := Lib.hid hm
  clear hm
  go_enter Tryz.func48, Tryz.ntmps48
  go_wp2
  have hexb : Ext w (w.alloc (.cells #[.int .i64 S, .slice A m c] 46)) := by simp
  have hp0 : ∀ w', Ext (w.alloc (.cells #[.int .i64 S, .slice A m c] 46)) w' → w'.cell? ⟨w.heap.size, 0, none⟩ = some (.int .i64 S) := fun w' he => he.cell (by simp)
  have hp1 : ∀ w', Ext (w.alloc (.cells #[.int .i64 S, .slice A m c] 46)) w' → w'.cell? ⟨w.heap.size, 1, none⟩ = some (.slice A m c) := fun w' he => he.cell (by simp)
  generalize w.alloc (.cells #[.int .i64 S, .slice A m c] 46) = wb at *
  have Hexb := Lib.hid hexb
  have Hp0 := Lib.hid hp0
  have Hp1 := Lib.hid hp1
  clear hexb hp0 hp1
  generalize w.heap.size = bx at *
  go_loopw [10, 3] (fun i t wr => ∃ k : Nat, k ≤ m ∧ i = .int .i64 k ∧ ∃ rs, Mat wb wr t S m rs ∧ RowsOf ms S k rs) (fun i _ _ => m - (intOf i).toNat)
  case atStart => exact ⟨0, by omega, rfl, [], Mat.start (Ext.refl _) _ _, rfl, fun i hi => by simp at hi, fun i hi => by simp at hi⟩
  case round =>
    obtain ⟨k, hk, rfl, rs, hmat, hrs⟩ := hrel
    obtain ⟨Av, cv, hv⟩ := hmat.own.form
    subst hv
    have hexw := Hexb.out.trans hmat.own.ext
    have hp0 : ∀ w', Ext wr w' → w'.cell? ⟨bx, 0, none⟩ = some (.int .i64 S) := fun w' he => Hp0.out w' (hmat.own.ext.trans he)
    have hp1 : ∀ w', Ext wr w' → w'.cell? ⟨bx, 1, none⟩ = some (.slice A m c) := fun w' he => Hp1.out w' (hmat.own.ext.trans he)
    by_cases hlt : k < m
    · have hkp : k < ms.length := by rw [← Hm.out]; exact hlt
      obtain ⟨ad, rfl, q0, q1, q2, q3, q4, q5⟩ := Ha.out k hkp
      have q0 := q0 wr hexw
      have q1 := q1 wr hexw
      have q2 := q2 wr hexw
      have q3 := q3 wr hexw
      have q4 := q4 wr hexw
      have q5 := q5 wr hexw
      have hce := Ce.out k hkp
      have hli := Hli.out k hkp
      have hfl := Hfl.out k hkp
      have Hce := Lib.hid hce
      have Hli' := Lib.hid hli
      have Hfl' := Lib.hid hfl
      clear hce hli hfl
      generalize hl : facS ms[k] S = l at *
      clear hl
      generalize ms[k] = x at *
      obtain ⟨kind, a, b, c3, n, m3⟩ := x
      simp only [Msh.val] at *
      have hx0 : ∀ w', Ext (wr.alloc (.cells #[.int .u8 kind, vint a, vint b, vint c3, vint n, vint m3] 104)) w' → w'.cell? ⟨wr.heap.size, 0, none⟩ = some (.int .u8 kind) := fun w' he => he.cell (by simp)
      have hx1 : ∀ w', Ext (wr.alloc (.cells #[.int .u8 kind, vint a, vint b, vint c3, vint n, vint m3] 104)) w' → w'.cell? ⟨wr.heap.size, 1, none⟩ = some (vint a) := fun w' he => he.cell (by simp)
      have hx2 : ∀ w', Ext (wr.alloc (.cells #[.int .u8 kind, vint a, vint b, vint c3, vint n, vint m3] 104)) w' → w'.cell? ⟨wr.heap.size, 2, none⟩ = some (vint b) := fun w' he => he.cell (by simp)
      have hx3 : ∀ w', Ext (wr.alloc (.cells #[.int .u8 kind, vint a, vint b, vint c3, vint n, vint m3] 104)) w' → w'.cell? ⟨wr.heap.size, 3, none⟩ = some (vint c3) := fun w' he => he.cell (by simp)
      have hx4 : ∀ w', Ext (wr.alloc (.cells #[.int .u8 kind, vint a, vint b, vint c3, vint n, vint m3] 104)) w' → w'.cell? ⟨wr.heap.size, 4, none⟩ = some (vint n) := fun w' he => he.cell (by simp)
      have hx5 : ∀ w', Ext (wr.alloc (.cells #[.int .u8 kind, vint a, vint b, vint c3, vint n, vint m3] 104)) w' → w'.cell? ⟨wr.heap.size, 5, none⟩ = some (vint m3) := fun w' he => he.cell (by simp)
      go_wp2
      have hmat0 := hmat.later (w' := wr.alloc (.cells #[.int .u8 kind, vint a, vint b, vint c3, vint n, vint m3] 104)) (by simp)
      have hx00 : Ext wr (wr.alloc (.cells #[.int .u8 kind, vint a, vint b, vint c3, vint n, vint m3] 104)) := by simp
      generalize wr.alloc (.cells #[.int .u8 kind, vint a, vint b, vint c3, vint n, vint m3] 104) = w0 at *
      have hp0 : ∀ w', Ext w0 w' → _ := fun w' he => hp0 w' (hx00.trans he)
      have hp1 : ∀ w', Ext w0 w' → _ := fun w' he => hp1 w' (hx00.trans he)
      refine Cf.wp_region_calm (p := Cf.extPre) (fr := fun j => j == 3 || j == 7) 10 (fun j _ v w => ∃ g, v = sl g l.length ∧ NewInts w0 w g l) (fun _ _ _ _ _ he ⟨g, hg, hn⟩ => ⟨g, hg, hn.later he⟩) (by kernel_rfl) (by kernel_rfl) ?_
      simp only [List.take_succ_cons, List.take_zero, List.drop_succ_cons, List.drop_zero]
      refine Cf.calm_quiet Cf.calm_mono_final w0 (fun _ h => h) 3 (by kernel_rfl) ?_
      simp only [List.take_succ_cons, List.take_zero, List.drop_succ_cons, List.drop_zero]
      repeat (go_big_quiet_step (fail))
      refine wpQuiet_nil ?_
      refine Cf.calm_call Cf.calm_mono_final 85 #[.agg #[.int .u8 kind, vint a, vint b, vint c3, vint n, vint m3], .int .i64 S] rfl (fun w => ?_) (fun w he _ => ?_) ?_
      · go_simp
      · refine (Hce.out w).mono fun e w'' h => ?_
        obtain ⟨g, rfl, ho⟩ := h
        have hn := NewInts.of_own ho
        exact ⟨_, rfl, hn.ext, ⟨g, rfl, hn.since he⟩, fun _ => hn.new⟩
      rintro v3 w' _ ⟨g, rfl, _⟩ _
      simp only [Act.put, List.setIfInBounds_toArray, List.set_cons_succ, List.set_cons_zero]
      refine Cf.calm_quiet Cf.calm_mono_final w0 (fun _ h => h) 3 (by kernel_rfl) ?_
      simp only [List.take_succ_cons, List.take_zero, List.drop_succ_cons, List.drop_zero]
      repeat (go_big_quiet_step (fail))
      refine wpQuiet_nil ?_
      refine Cf.calm_value Cf.calm_mono_final (fun v w => ∃ h, v = sl h m ∧ NewInts w0 w h (List.replicate m 0)) (fun _ _ _ he ⟨h, e, hn⟩ => ⟨h, e, hn.later he⟩) rfl (fun w he _ => ?_) ?_
      · obtain ⟨w', hr, hx, hn⟩ := make_run w m (by omega)
        refine ⟨_, w', by go_simp, hx, ⟨_, rfl, hn.since he⟩, fun _ => hn.new' (by simp)⟩
      rintro v7 _ _ ⟨h, rfl, _⟩ hfar
      have hgh : g ≠ h := by
        have := hfar rfl (sl g l.length) (.inr ⟨rfl, rfl⟩)
        simpa [sl, Value.ownBlock] using this
      clear hfar
      simp only [Act.put, List.setIfInBounds_toArray, List.set_cons_succ, List.set_cons_zero]
      refine Cf.calm_value Cf.calm_mono_final (fun v _ => v = .agg #[sl g l.length, sl h m]) (fun _ _ _ _ h => h) rfl (fun w he _ => ⟨_, w, by go_simp, Ext.refl w, rfl, fun hf => by cases hf⟩) ?_
      rintro v8 _ _ rfl _
      simp only [Act.put, List.setIfInBounds_toArray, List.set_cons_succ, List.set_cons_zero]
      refine Cf.calm_value Cf.calm_mono_final (fun v w => ∃ b, v = .pointer (some ⟨b, 0, none⟩) ∧ w0.heap.size ≤ b ∧ w.heap[b]? = some (.cells #[.slice none 0 0, .slice none 0 0] 130)) (fun _ _ _ he ⟨b, e, hb, hh⟩ => ⟨b, e, hb, Ext.heap he hh⟩) rfl (fun w he _ => ⟨.pointer (some ⟨w.heap.size, 0, none⟩), w.alloc (.cells #[.slice none 0 0, .slice none 0 0] 130), by go_simp, (Ext.refl w).alloc _, ⟨_, rfl, Ext.le he, heap_alloc_new _ _⟩, fun hf => by cases hf⟩) ?_
      rintro v9 _ _ ⟨br, rfl, _, _⟩ _
      simp only [Act.put, List.setIfInBounds_toArray, List.set_cons_succ, List.set_cons_zero]
      refine Cf.calm_nil fun w3 he3 hF => ?_
      obtain ⟨g', eg, hg⟩ := (hF.1 3).1.1.1.2 rfl
      obtain ⟨h', eh, hh⟩ := (hF.1 7).1.1.2 rfl
      obtain ⟨b', eb, hb, hbr⟩ := (hF.1 9).2 rfl
      simp only [sl, Value.slice.injEq, Option.some.injEq, Addr.mk.injEq, and_true] at eg eh
      simp only [Value.pointer.injEq, Option.some.injEq, Addr.mk.injEq, and_true] at eb
      subst eg eh eb
      clear hF
      have hlS : l.length = S := Hfl'.out
      obtain ⟨w4, h4⟩ : ∃ w4, w4 = (w3.setCell ⟨br, 0, none⟩ (sl g S)).setCell ⟨br, 1, none⟩ (sl h m) := ⟨_, rfl⟩
      obtain ⟨w5, h5⟩ : ∃ w5, w5 = w4.setCell ⟨h, k, none⟩ (vint 1) := ⟨_, rfl⟩
      obtain ⟨⟨d0, d1, dh, fh⟩, z0, z1, zx, zg, zh⟩ := row_made hg hh hb hbr hgh hlS (by omega) (by omega) hlt h4 h5
      have c0 : w3.cell? ⟨br, 0, none⟩ = some (.slice none 0 0) := by rw [cell_heap hbr]; rfl
      have c1 : w3.cell? ⟨br, 1, none⟩ = some (.slice none 0 0) := by rw [cell_heap hbr]; rfl
      have f0 := frozen_heap hbr 0
      have f1 := frozen_heap hbr 1
      have hki : (k : Int) < (m : Int) := by omega
      rw [hlS]
      have hmat5 := hmat0.later zx
      have hrow := row_alloc w5 #[sl g S, sl h m] 130
      have hown6 := hmat5.own.alloc (.cells #[sl g S, sl h m] 130)
      have hs5 : w5.heap.size = w3.heap.size := by rw [h5, h4]; simp
      rw [hs5] at hrow
      clear hs5
      rw [h5] at z0 z1 hown6 hrow zx zg zh
      rw [h4] at d0 d1 dh fh z0 z1 hown6 hrow zx zg zh
      go_wp2_with (first
        | (refine own_append_at (w1 := wb) row_elem rfl _ _ 119 rfl Tryz.underlying119 _ rs.length (cellsM S m rs) rfl hown6 _ 1 1 _ rfl rfl hrow (by intro u hu; simp at hu; rcases hu with rfl | rfl <;> rfl) (by have := hrs.len; omega) (by have := hrs.len; unfold maxLen; omega) ?_; intro v' w' ho hgr _))
      go_roundw
      case rel =>
        refine ⟨k + 1, by omega, by go_num, _, hmat0.append (zx.trans (by simp)) (zg.later (by simp)) (zh.later (by simp)) hgh hlS (by simp) ho hgr, hrs.snoc Hli'.out.symm ?_⟩
        rw [← Hm.out]
        rfl
      case measure => simp [intOf]; omega
    · obtain rfl : k = m := by omega
      go_wp2
      go_ret
      refine ⟨.slice Av rs.length cv, rs, rfl, ?_, ?_⟩
      · rw [← Hm.out]; exact hmat.since Hexb.out
      · rw [← Hm.out]; exact hrs
end Go.Proofs.YtebkhdhhajjhfaaGreat.Gr

/- Determinants of lists of vectors, in plain Lean: linear and alternating in the vectors, bounded by the product of the row sums. No program in sight. -/
namespace Go.Proofs.YtebkhdhhajjhfaaGreat.Gr

/-! ### Sums over lists -/
def S {α : Type} (l : List α) (f : α → Int) : Int := match l with | [] => 0 | x :: l => f x + S l f
section
variable {α β : Type}
@[simp] theorem S_nil (f : α → Int) : S [] f = 0 := rfl
@[simp] theorem S_cons (x : α) (l : List α) (f : α → Int) : S (x :: l) f = f x + S l f := rfl
theorem S_congr {l : List α} {f g : α → Int} (h : ∀ x ∈ l, f x = g x) : S l f = S l g := by
  induction l with
  | nil => rfl
  | cons x l ih => rw [S_cons, S_cons, h x (by simp), ih fun y hy => h y (by simp [hy])]
theorem S_add (l : List α) (f g : α → Int) : S l (fun x => f x + g x) = S l f + S l g := by
  induction l with
  | nil => rfl
  | cons x l ih => simp only [S_cons, ih]; omega
theorem S_mul (l : List α) (c : Int) (f : α → Int) : S l (fun x => c * f x) = c * S l f := by
  induction l with
  | nil => simp
  | cons x l ih => simp only [S_cons, ih, Int.mul_add]
theorem S_mul_right (l : List α) (c : Int) (f : α → Int) : S l (fun x => f x * c) = S l f * c := by
  rw [Int.mul_comm, ← S_mul]; exact S_congr fun x _ => Int.mul_comm _ _
theorem S_neg (l : List α) (f : α → Int) : S l (fun x => - f x) = - S l f := by
  induction l with
  | nil => rfl
  | cons x l ih => simp only [S_cons, ih]; omega
theorem S_zero {l : List α} {f : α → Int} (h : ∀ x ∈ l, f x = 0) : S l f = 0 := by
  rw [S_congr h]
  induction l with
  | nil => rfl
  | cons x l ih => rw [S_cons, ih fun y hy => h y (by simp [hy])]; rfl
theorem S_map (l : List α) (g : α → β) (f : β → Int) : S (l.map g) f = S l (fun x => f (g x)) := by
  induction l with
  | nil => rfl
  | cons x l ih => simp only [List.map_cons, S_cons, ih]
theorem S_append (l m : List α) (f : α → Int) : S (l ++ m) f = S l f + S m f := by
  induction l with
  | nil => simp
  | cons x l ih => simp only [List.cons_append, S_cons, ih]; omega
theorem S_comm (l : List α) (m : List β) (f : α → β → Int) : S l (fun x => S m (f x)) = S m (fun y => S l (fun x => f x y)) := by
  induction l with
  | nil => exact (S_zero fun _ _ => rfl).symm
  | cons x l ih => simp only [S_cons, ih, S_add]
theorem S_le {l : List α} {f g : α → Int} (h : ∀ x ∈ l, f x ≤ g x) : S l f ≤ S l g := by
  induction l with
  | nil => exact Int.le_refl _
  | cons x l ih =>
    have h1 := h x (by simp)
    have h2 := ih fun y hy => h y (by simp [hy])
    simp only [S_cons]; omega
theorem S_abs (l : List α) (f : α → Int) : ((S l f).natAbs : Int) ≤ S l (fun x => ((f x).natAbs : Int)) := by
  induction l with
  | nil => simp
  | cons x l ih =>
    simp only [S_cons]
    have := Int.natAbs_add_le (f x) (S l f)
    omega
theorem S_dvd {p : Int} {l : List α} {f g : α → Int} (h : ∀ x ∈ l, p ∣ f x - g x) : p ∣ S l f - S l g := by
  induction l with
  | nil => simp
  | cons x l ih =>
    have h1 := h x (by simp)
    have h2 := ih fun y hy => h y (by simp [hy])
    simp only [S_cons]
    have : f x + S l f - (g x + S l g) = (f x - g x) + (S l f - S l g) := by omega
    rw [this]
    exact Int.dvd_add h1 h2
end

/-! ### Picking one index out of a list, with its sign -/
def picks {ι : Type} : List ι → List (Int × ι × List ι)
  | [] => []
  | c :: cs => (1, c, cs) :: (picks cs).map fun p => (-p.1, p.2.1, c :: p.2.2)

/-- The determinant: expanded along the first vector. -/
def D {ι : Type} : List (ι → Int) → List ι → Int
  | [], _ => 1
  | v :: V, R => S (picks R) fun p => p.1 * v p.2.1 * D V p.2.2

section
variable {ι : Type}
theorem picks_mem {R : List ι} {p : Int × ι × List ι} (h : p ∈ picks R) : p.2.1 ∈ R ∧ (∀ x ∈ p.2.2, x ∈ R) ∧ p.2.2.length + 1 = R.length ∧ (p.1 = 1 ∨ p.1 = -1) := by
  induction R generalizing p with
  | nil => cases h
  | cons c R ih =>
    simp only [picks, List.mem_cons, List.mem_map] at h
    rcases h with rfl | ⟨q, hq, rfl⟩
    · exact ⟨by simp, fun x hx => by simp only at hx; simp [hx], rfl, .inl rfl⟩
    · obtain ⟨h1, h2, h3, h4⟩ := ih hq
      refine ⟨by simp [h1], fun x hx => ?_, by simp only [List.length_cons]; omega, by rcases h4 with h | h <;> simp [h]⟩
      simp only [List.mem_cons] at hx
      rcases hx with rfl | hx
      · simp
      · simp [h2 x hx]

theorem D_cons (v : ι → Int) (V : List (ι → Int)) (R : List ι) : D (v :: V) R = S (picks R) fun p => p.1 * v p.2.1 * D V p.2.2 := rfl

theorem D_dvd {m : Int} : ∀ (V U : List (ι → Int)) (R : List ι), V.length = U.length → (∀ i (h1 : i < V.length) (h2 : i < U.length), ∀ r ∈ R, m ∣ V[i] r - U[i] r) → m ∣ D V R - D U R
  | [], [], _, _, _ => by simp [D]
  | v :: V, u :: U, R, hl, h => by
    rw [D_cons, D_cons]
    refine S_dvd fun p hp => ?_
    obtain ⟨h1, h2, _, _⟩ := picks_mem hp
    have e1 : m ∣ v p.2.1 - u p.2.1 := h 0 (by simp) (by simp) _ h1
    have e2 : m ∣ D V p.2.2 - D U p.2.2 := D_dvd V U p.2.2 (by simpa using hl) fun i a b r hr => h (i + 1) (by simpa using a) (by simpa using b) r (h2 r hr)
    have : p.1 * v p.2.1 * D V p.2.2 - p.1 * u p.2.1 * D U p.2.2 = p.1 * D V p.2.2 * (v p.2.1 - u p.2.1) + p.1 * u p.2.1 * (D V p.2.2 - D U p.2.2) := by
      rw [Int.mul_sub, Int.mul_sub, Int.mul_right_comm p.1 (D V p.2.2) (v p.2.1), Int.mul_right_comm p.1 (D V p.2.2) (u p.2.1)]
      omega
    rw [this]
    exact Int.dvd_add (Int.dvd_trans e1 (Int.dvd_mul_left _ _)) (Int.dvd_trans e2 (Int.dvd_mul_left _ _))

/-- Linear in each vector: a sum. -/
theorem D_sum {α : Type} (m : List α) (c : α → Int) (u : α → ι → Int) : ∀ (Z X : List (ι → Int)) (R : List ι), D (Z ++ (fun r => S m fun k => c k * u k r) :: X) R = S m fun k => c k * D (Z ++ u k :: X) R
  | [], X, R => by
    simp only [List.nil_append, D_cons]
    have : ∀ k, c k * S (picks R) (fun p => p.1 * u k p.2.1 * D X p.2.2) = S (picks R) (fun p => c k * (p.1 * u k p.2.1 * D X p.2.2)) := fun k => (S_mul _ _ _).symm
    rw [S_congr fun k _ => this k, S_comm]
    refine S_congr fun p _ => ?_
    rw [← S_mul, ← S_mul_right]
    refine S_congr fun k _ => ?_
    rw [Int.mul_left_comm p.1 (c k), Int.mul_assoc (c k)]
  | z :: Z, X, R => by
    simp only [List.cons_append, D_cons]
    have : ∀ k, c k * S (picks R) (fun p => p.1 * z p.2.1 * D (Z ++ u k :: X) p.2.2) = S (picks R) (fun p => c k * (p.1 * z p.2.1 * D (Z ++ u k :: X) p.2.2)) := fun k => (S_mul _ _ _).symm
    rw [S_congr fun k _ => this k, S_comm]
    refine S_congr fun p _ => ?_
    rw [D_sum m c u Z X p.2.2, ← S_mul]
    refine S_congr fun k _ => ?_
    rw [Int.mul_left_comm]

/-! ### Alternating -/

/-- The sum over two picks, one behind the other. -/
def S2 (R : List ι) (f : ι → ι → List ι → Int) : Int := S (picks R) fun p => p.1 * S (picks p.2.2) fun q => q.1 * f p.2.1 q.2.1 q.2.2
theorem S2_swap : ∀ (R : List ι) (f : ι → ι → List ι → Int), S2 R f = - S2 R (fun x y => f y x)
  | [], _ => rfl
  | c :: R, f => by
    have key : ∀ g : ι → ι → List ι → Int, S2 (c :: R) g = S (picks R) (fun q => q.1 * g c q.2.1 q.2.2) - S (picks R) (fun p => p.1 * g p.2.1 c p.2.2) + S2 R (fun x y l => g x y (c :: l)) := fun g => by
      unfold S2
      simp only [picks, S_cons, S_map, Int.one_mul]
      have : ∀ p : Int × ι × List ι, -p.1 * (g p.2.1 c p.2.2 + S (picks p.2.2) fun q => -q.1 * g p.2.1 q.2.1 (c :: q.2.2)) = -(p.1 * g p.2.1 c p.2.2) + p.1 * S (picks p.2.2) (fun q => q.1 * g p.2.1 q.2.1 (c :: q.2.2)) := fun p => by
        have h : S (picks p.2.2) (fun q => -q.1 * g p.2.1 q.2.1 (c :: q.2.2)) = - S (picks p.2.2) (fun q => q.1 * g p.2.1 q.2.1 (c :: q.2.2)) := by
          rw [← S_neg]; exact S_congr fun q _ => Int.neg_mul _ _
        rw [h, Int.mul_add, Int.neg_mul, Int.neg_mul_neg]
      rw [S_congr fun p _ => this p, S_add, S_neg]
      omega
    rw [key, key, S2_swap R]
    omega

theorem D_two (u v : ι → Int) (V : List (ι → Int)) (R : List ι) : D (u :: v :: V) R = S2 R (fun x y l => u x * v y * D V l) := by
  unfold S2
  rw [D_cons]
  refine S_congr fun p _ => ?_
  rw [D_cons, ← S_mul, ← S_mul]
  refine S_congr fun q _ => ?_
  simp only [Int.mul_assoc, Int.mul_left_comm]

theorem D_swap (u v : ι → Int) (X : List (ι → Int)) : ∀ (Z : List (ι → Int)) (R : List ι), D (Z ++ u :: v :: X) R = - D (Z ++ v :: u :: X) R
  | [], R => by
    simp only [List.nil_append]
    rw [D_two, D_two, S2_swap]
    congr 1
    unfold S2
    refine S_congr fun p _ => ?_
    congr 1
    refine S_congr fun q _ => ?_
    show q.1 * (u q.2.1 * v p.2.1 * D X q.2.2) = q.1 * (v p.2.1 * u q.2.1 * D X q.2.2)
    rw [Int.mul_comm (u _) (v _)]
  | z :: Z, R => by
    simp only [List.cons_append, D_cons]
    rw [← S_neg]
    refine S_congr fun p _ => ?_
    rw [D_swap u v X Z p.2.2, Int.mul_neg]

/-- A vector moved to the left over others. -/
theorem D_move (u : ι → Int) (X : List (ι → Int)) : ∀ (Y Z : List (ι → Int)) (R : List ι), D (Z ++ (Y ++ u :: X)) R = D (Z ++ u :: (Y ++ X)) R ∨ D (Z ++ (Y ++ u :: X)) R = - D (Z ++ u :: (Y ++ X)) R
  | [], Z, R => .inl rfl
  | y :: Y, Z, R => by
    have ih := D_move u X Y (Z ++ [y]) R
    simp only [List.append_assoc, List.singleton_append] at ih
    have hs := D_swap y u (Y ++ X) Z R
    simp only [List.cons_append]
    rcases ih with h | h
    · right; rw [h, hs]
    · left; rw [h, hs]; omega

theorem D_same (u : ι → Int) (X Y Z : List (ι → Int)) (R : List ι) : D (Z ++ u :: (Y ++ u :: X)) R = 0 := by
  have h1 := D_move u X Y (Z ++ [u]) R
  have h2 := D_swap u u (Y ++ X) Z R
  simp only [List.append_assoc, List.singleton_append] at h1
  rcases h1 with h | h <;> omega

/-- A vector that occurs twice. -/
theorem D_dup {V : List (ι → Int)} {i j : Nat} (hij : i < j) (hj : j < V.length) (h : V[i] = V[j]) (R : List ι) : D V R = 0 := by
  have e1 : V = V.take i ++ V[i] :: V.drop (i + 1) := by
    rw [← List.drop_eq_getElem_cons (by omega), List.take_append_drop]
  have e2 : V.drop (i + 1) = (V.drop (i + 1)).take (j - i - 1) ++ V[j] :: V.drop (j + 1) := by
    have hl : j - i - 1 < (V.drop (i + 1)).length := by simp; omega
    have h3 : (V.drop (i + 1))[j - i - 1] = V[j] := by simp; congr 1; omega
    have h4 := (List.take_append_drop (j - i - 1) (V.drop (i + 1))).symm
    rw [List.drop_eq_getElem_cons hl, h3] at h4
    rw [List.drop_drop] at h4
    rw [show i + 1 + (j - i - 1 + 1) = j + 1 by omega] at h4
    exact h4
  rw [e1, e2, ← h]
  exact D_same _ _ _ _ _

/-- One vector in the place of another that is the same at all indices. -/
theorem D_at (u v : ι → Int) (X : List (ι → Int)) : ∀ (Z : List (ι → Int)) (R : List ι), (∀ r ∈ R, u r = v r) → D (Z ++ u :: X) R = D (Z ++ v :: X) R
  | [], R, h => by
    simp only [List.nil_append, D_cons]
    refine S_congr fun p hp => ?_
    rw [h _ (picks_mem hp).1]
  | z :: Z, R, h => by
    simp only [List.cons_append, D_cons]
    refine S_congr fun p hp => ?_
    rw [D_at u v X Z p.2.2 fun r hr => h r ((picks_mem hp).2.1 r hr)]

/-- A vector that is 0 at all indices. -/
theorem D_zero (Z X : List (ι → Int)) (z : ι → Int) (R : List ι) (h : ∀ r ∈ R, z r = 0) : D (Z ++ z :: X) R = 0 := by
  have h1 := D_sum (ι := ι) ([] : List Unit) (fun _ => 0) (fun _ _ => 0) Z X R
  exact (D_at z _ X Z R fun r hr => by rw [h r hr]; rfl).trans h1

/-- More vectors than there are to choose from. -/
theorem D_span {d : Int} (hd : d ≠ 0) (Y : List (ι → Int)) : ∀ (X Z : List (ι → Int)) (R : List ι), (∀ x ∈ X, ∃ c : Nat → Int, ∀ r ∈ R, d * x r = S (List.range Y.length) fun k => c k * (Y.getD k (fun _ => 0)) r) →
    (∀ z ∈ Z, z ∈ Y) → Y.length < Z.length + X.length → D (Z ++ X) R = 0
  | [], Z, R, _, hZ, hl => by
    -- all vectors out of Y: two of them are one
    simp only [List.append_nil]
    have : ∃ i j, i < j ∧ ∃ (h : j < Z.length) (h' : i < Z.length), Z[i] = Z[j] := by
      have pig : ∀ (n : Nat) (f : Nat → Nat) (m : Nat), (∀ i, i < m → f i < n) → n < m → ∃ i j, i < j ∧ j < m ∧ f i = f j := by
        intro n
        induction n with
        | zero => intro f m hf hm; exact absurd (hf 0 hm) (by omega)
        | succ n ih =>
          intro f m hf hm
          rcases Classical.em (∃ i j, i < j ∧ j < m ∧ f i = f j) with h | h
          · exact h
          · rcases Classical.em (∃ i, i < m ∧ f i = n) with ⟨i0, hi0, hfi0⟩ | hno
            · -- leave i0 out
              obtain ⟨i, j, hij, hj, he⟩ := ih (fun i => f (if i < i0 then i else i + 1)) (m - 1) (fun i hi => by
                by_cases hlt : i < i0
                · simp only [hlt, if_true]
                  have := hf i (by omega)
                  have hne : f i ≠ n := fun e => h ⟨i, i0, hlt, hi0, by omega⟩
                  omega
                · simp only [hlt, if_false]
                  have := hf (i + 1) (by omega)
                  have hne : f (i + 1) ≠ n := fun e => h ⟨i0, i + 1, by omega, by omega, by omega⟩
                  omega) (by omega)
              exact ⟨_, _, by split <;> split <;> omega, by split <;> omega, he⟩
            · obtain ⟨i, j, hij, hj, he⟩ := ih f m (fun i hi => by
                have := hf i hi
                have hne : f i ≠ n := fun e => hno ⟨i, hi, e⟩
                omega) (by omega)
              exact ⟨i, j, hij, hj, he⟩
      have hidx : ∀ i : Nat, ∃ k, ∀ h : i < Z.length, k < Y.length ∧ Y.getD k (fun _ => 0) = Z[i] := fun i => by
        by_cases h : i < Z.length
        · obtain ⟨k, hk, he⟩ := List.getElem_of_mem (hZ _ (List.getElem_mem h))
          exact ⟨k, fun _ => ⟨hk, by simp [List.getD, hk, he]⟩⟩
        · exact ⟨0, fun h' => absurd h' h⟩
      obtain ⟨f, hf⟩ := Classical.axiomOfChoice hidx
      obtain ⟨i, j, hij, hj, he⟩ := pig Y.length f Z.length (fun i hi => (hf i hi).1) (by simpa using hl)
      exact ⟨i, j, hij, hj, by omega, by rw [← (hf i (by omega)).2, ← (hf j hj).2, he]⟩
    obtain ⟨i, j, hij, hj, _, he⟩ := this
    exact D_dup hij hj he R
  | x :: X, Z, R, hX, hZ, hl => by
    obtain ⟨c, hc⟩ := hX x (by simp)
    have h1 : d * D (Z ++ x :: X) R = S (List.range Y.length) fun k => c k * D (Z ++ Y.getD k (fun _ => 0) :: X) R := by
      rw [← D_sum]
      have h2 := D_sum [()] (fun _ => d) (fun _ => x) Z X R
      simp only [S_cons, S_nil, Int.add_zero] at h2
      rw [← h2]
      exact D_at _ _ X Z R fun r hr => by simpa using hc r hr
    have h2 : S (List.range Y.length) (fun k => c k * D (Z ++ Y.getD k (fun _ => 0) :: X) R) = 0 := S_zero fun k hk => by
      have hk' : k < Y.length := by simpa using hk
      have hg : Y.getD k (fun _ => 0) = Y[k] := by simp [List.getD, hk']
      have ih := D_span hd Y X (Z ++ [Y.getD k fun _ => 0]) R (fun y hy => hX y (by simp [hy])) (fun z hz => by
        rcases List.mem_append.1 hz with hz | hz
        · exact hZ z hz
        · simp only [List.mem_singleton] at hz
          rw [hz, hg]; exact List.getElem_mem hk') (by simp at hl ⊢; omega)
      simp only [List.append_assoc, List.singleton_append] at ih
      rw [ih, Int.mul_zero]
    rw [h2] at h1
    exact (Int.mul_eq_zero.1 h1).resolve_left hd

end
end Go.Proofs.YtebkhdhhajjhfaaGreat.Gr

/- Determinants, second text: triangles, a unit vector, bounds, spans modulo a number. Plain Lean. -/
namespace Go.Proofs.YtebkhdhhajjhfaaGreat.Gr

section
variable {ι : Type}
theorem mem_rest {R : List ι} {p : Int × ι × List ι} (h : p ∈ picks R) (x : ι) (hx : x ∈ R) : p.2.1 = x ∨ x ∈ p.2.2 := by
  induction R generalizing p with
  | nil => cases h
  | cons c R ih =>
    simp only [picks, List.mem_cons, List.mem_map] at h
    rcases h with rfl | ⟨q, hq, rfl⟩
    · rcases List.mem_cons.1 hx with rfl | hx
      · exact .inl rfl
      · exact .inr hx
    · rcases List.mem_cons.1 hx with rfl | hx
      · exact .inr (by simp)
      · rcases ih hq hx with h | h
        · exact .inl h
        · exact .inr (by simp [h])

/-- An index at which all vectors are 0. -/
theorem D_col_zero : ∀ (V : List (ι → Int)) (R : List ι) (x : ι), V.length = R.length → x ∈ R → (∀ v ∈ V, v x = 0) → D V R = 0
  | [], R, x, hl, hx, _ => by
    have : R = [] := List.eq_nil_of_length_eq_zero (by simpa using hl.symm)
    subst this; cases hx
  | v :: V, R, x, hl, hx, h => by
    rw [D_cons]
    refine S_zero fun p hp => ?_
    obtain ⟨_, _, h3, _⟩ := picks_mem hp
    rcases mem_rest hp x hx with h1 | h1
    · rw [h1, h v (by simp), Int.mul_zero, Int.zero_mul]
    · rw [D_col_zero V p.2.2 x (by simp at hl; omega) h1 fun u hu => h u (by simp [hu]), Int.mul_zero]

/-- The step of a triangle. -/
theorem D_tri (v : ι → Int) (V : List (ι → Int)) (r : ι) (R : List ι) (hl : V.length = R.length) (h : ∀ u ∈ V, u r = 0) : D (v :: V) (r :: R) = v r * D V R := by
  rw [D_cons]
  simp only [picks, S_cons, S_map, Int.one_mul]
  have : S (picks R) (fun p => -p.1 * v p.2.1 * D V (r :: p.2.2)) = 0 := S_zero fun p hp => by
    obtain ⟨_, _, h3, _⟩ := picks_mem hp
    rw [D_col_zero V (r :: p.2.2) r (by simp; omega) (by simp) h, Int.mul_zero]
  rw [this, Int.add_zero]

theorem picks_snoc (i : ι) : ∀ R : List ι, ∃ s : Int, picks (R ++ [i]) = (picks R).map (fun p => (p.1, p.2.1, p.2.2 ++ [i])) ++ [(s, i, R)]
  | [] => ⟨1, rfl⟩
  | c :: R => by
    obtain ⟨s, hs⟩ := picks_snoc i R
    refine ⟨-s, ?_⟩
    simp [picks, hs, List.map_append, List.map_map, Function.comp_def]

/-- A vector that is a unit vector at the last index. -/
theorem D_unit (e : ι → Int) (i : ι) (he : e i = 1) : ∀ (V : List (ι → Int)) (R : List ι), V.length = R.length → (∀ r ∈ R, e r = 0) → D (V ++ [e]) (R ++ [i]) = D V R
  | [], R, hl, _ => by
    have : R = [] := List.eq_nil_of_length_eq_zero (by simpa using hl.symm)
    subst this
    simp [D, picks, he]
  | v :: V, R, hl, h => by
    obtain ⟨s, hs⟩ := picks_snoc i R
    rw [List.cons_append, D_cons, hs, S_append, S_map]
    simp only [S_cons, S_nil, Int.add_zero]
    rw [D_zero V [] e R h, Int.mul_zero, Int.add_zero, D_cons]
    refine S_congr fun p hp => ?_
    obtain ⟨_, h2, h3, _⟩ := picks_mem hp
    rw [D_unit e i he V p.2.2 (by simp at hl; omega) fun r hr => h r (h2 r hr)]

/-! ### Bounds -/

def P' (R : List ι) (f : ι → Int) : Int := match R with | [] => 1 | r :: R => f r * P' R f
theorem P_nonneg {R : List ι} {f : ι → Int} (h : ∀ r ∈ R, 0 ≤ f r) : 0 ≤ P' R f := by
  induction R with
  | nil => show (0 : Int) ≤ 1; omega
  | cons r R ih => exact Int.mul_nonneg (h r (by simp)) (ih fun x hx => h x (by simp [hx]))
theorem P_le {R : List ι} {f g : ι → Int} (h : ∀ r ∈ R, 0 ≤ f r ∧ f r ≤ g r) : P' R f ≤ P' R g := by
  induction R with
  | nil => exact Int.le_refl _
  | cons r R ih =>
    have h1 := h r (by simp)
    have h2 := ih fun x hx => h x (by simp [hx])
    have h3 := P_nonneg (R := R) (f := f) fun x hx => (h x (by simp [hx])).1
    exact Int.mul_le_mul h1.2 h2 h3 (by omega)
theorem P_first {R : List ι} {x y : ι → Int} (h : ∀ r ∈ R, 0 ≤ x r ∧ 0 ≤ y r) : S (picks R) (fun p => x p.2.1 * P' p.2.2 y) ≤ P' R (fun r => x r + y r) := by
  induction R with
  | nil => simp [picks, P']
  | cons r R ih =>
    have h1 := h r (by simp)
    have h2 := ih fun z hz => h z (by simp [hz])
    have hle : P' R y ≤ P' R (fun r => x r + y r) := P_le fun z hz => by
      have := h z (by simp [hz])
      omega
    simp only [picks, S_cons, S_map]
    have e : S (picks R) (fun p => x p.2.1 * P' (r :: p.2.2) y) = y r * S (picks R) (fun p => x p.2.1 * P' p.2.2 y) := by
      rw [← S_mul]
      refine S_congr fun p _ => ?_
      show x p.2.1 * (y r * P' p.2.2 y) = _
      rw [Int.mul_left_comm]
    rw [e]
    show x r * P' R y + _ ≤ (x r + y r) * P' R (fun r => x r + y r)
    rw [Int.add_mul]
    exact Int.add_le_add (Int.mul_le_mul_of_nonneg_left hle h1.1) (Int.mul_le_mul_of_nonneg_left h2 h1.2)

/-- The product of the rows' sums. -/
theorem D_bound : ∀ (V : List (ι → Int)) (R : List ι), ((D V R).natAbs : Int) ≤ P' R (fun r => S V fun v => ((v r).natAbs : Int)) ∨ V.length ≠ R.length
  | [], R => by
    by_cases h : R = []
    · subst h; left; simp [D, P']
    · right; intro hl; exact h (List.eq_nil_of_length_eq_zero (by simpa using hl.symm))
  | v :: V, R => by
    by_cases hl : (v :: V).length = R.length
    · left
      rw [D_cons]
      refine Int.le_trans (S_abs _ _) ?_
      refine Int.le_trans (S_le (g := fun p => ((v p.2.1).natAbs : Int) * P' p.2.2 (fun r => S V fun v => ((v r).natAbs : Int))) fun p hp => ?_) ?_
      · obtain ⟨_, _, h3, h4⟩ := picks_mem hp
        have ih := (D_bound V p.2.2).resolve_right (by simp at hl; simp; omega)
        have : (p.1 * v p.2.1 * D V p.2.2).natAbs = (v p.2.1).natAbs * (D V p.2.2).natAbs := by
          rw [Int.natAbs_mul, Int.natAbs_mul]
          rcases h4 with h | h <;> simp [h]
        rw [this, Int.natCast_mul]
        exact Int.mul_le_mul_of_nonneg_left ih (by omega)
      · refine Int.le_trans (P_first (x := fun r => ((v r).natAbs : Int)) (y := fun r => S V fun v => ((v r).natAbs : Int)) fun r _ => ⟨by omega, ?_⟩) ?_
        · have := S_le (l := V) (f := fun _ => 0) (g := fun v => ((v r).natAbs : Int)) fun _ _ => by omega
          rw [S_zero fun _ _ => rfl] at this
          exact this
        · exact Int.le_refl _
    · exact .inr hl

theorem P_const {R : List ι} {f : ι → Int} {b : Int} (h : ∀ r ∈ R, 0 ≤ f r ∧ f r ≤ b) : P' R f ≤ b ^ R.length := by
  induction R with
  | nil => simp [P']
  | cons r R ih =>
    have h1 := h r (by simp)
    have h2 := ih fun x hx => h x (by simp [hx])
    have h3 := P_nonneg (R := R) (f := f) fun x hx => (h x (by simp [hx])).1
    rw [List.length_cons, Int.pow_succ, Int.mul_comm (b ^ _)]
    exact Int.mul_le_mul h1.2 h2 h3 (by omega)

theorem S_abs_nonneg (V : List (ι → Int)) (r : ι) : 0 ≤ S V fun v => ((v r).natAbs : Int) := by
  have := S_le (l := V) (f := fun _ => 0) (g := fun v => ((v r).natAbs : Int)) fun _ _ => by omega
  rwa [S_zero fun _ _ => rfl] at this

/-! ### Modulo a number m (0: over the whole numbers) -/

def PrimeLike (m : Int) : Prop := ∀ a b : Int, m ∣ a * b → m ∣ a ∨ m ∣ b
theorem primeLike_zero : PrimeLike 0 := fun a b h => by
  rw [Int.zero_dvd, Int.mul_eq_zero] at h
  rw [Int.zero_dvd, Int.zero_dvd]; exact h

theorem D_at_mod {m : Int} (u v : ι → Int) (X : List (ι → Int)) : ∀ (Z : List (ι → Int)) (R : List ι), (∀ r ∈ R, m ∣ u r - v r) → m ∣ D (Z ++ u :: X) R - D (Z ++ v :: X) R
  | [], R, h => by
    simp only [List.nil_append, D_cons]
    refine S_dvd fun p hp => ?_
    rw [← Int.sub_mul, ← Int.mul_sub]
    exact Int.dvd_trans (h _ (picks_mem hp).1) (Int.dvd_trans (Int.dvd_mul_left _ _) (Int.dvd_mul_right _ _))
  | z :: Z, R, h => by
    simp only [List.cons_append, D_cons]
    refine S_dvd fun p hp => ?_
    rw [← Int.mul_sub]
    exact Int.dvd_trans (D_at_mod u v X Z p.2.2 fun r hr => h r ((picks_mem hp).2.1 r hr)) (Int.dvd_mul_left _ _)

theorem S_all_dvd {α : Type} {m : Int} {l : List α} {f : α → Int} (h : ∀ x ∈ l, m ∣ f x) : m ∣ S l f := by
  have := S_dvd (p := m) (l := l) (f := f) (g := fun _ => 0) fun x hx => by simpa using h x hx
  rwa [S_zero fun _ _ => rfl, Int.sub_zero] at this

/-- d x = a sum over a list, modulo m: what the determinant with x comes to. -/
theorem D_lin_mod {α : Type} {m d : Int} (l : List α) (c : α → Int) (u : α → ι → Int) (x : ι → Int) (Z X : List (ι → Int)) (R : List ι) (h : ∀ r ∈ R, m ∣ d * x r - S l fun k => c k * u k r) :
    m ∣ d * D (Z ++ x :: X) R - S l fun k => c k * D (Z ++ u k :: X) R := by
  have h1 := D_sum [()] (fun _ => d) (fun _ => x) Z X R
  simp only [S_cons, S_nil, Int.add_zero] at h1
  rw [← h1, ← D_sum]
  exact D_at_mod _ _ X Z R h

/-- All determinants out of Y (as many vectors) are divisible: so is one of combinations. -/
theorem D_combo_mod {m : Int} (hm : PrimeLike m) (Y : List (ι → Int)) : ∀ (X Z : List (ι → Int)) (R : List ι),
    (∀ x ∈ X, ∃ d : Int, ¬ m ∣ d ∧ ∃ c : Nat → Int, ∀ r ∈ R, m ∣ d * x r - S (List.range Y.length) fun k => c k * (Y.getD k (fun _ => 0)) r) →
    (∀ z ∈ Z, z ∈ Y) → (∀ V : List (ι → Int), (∀ v ∈ V, v ∈ Y) → V.length = Z.length + X.length → m ∣ D V R) → m ∣ D (Z ++ X) R
  | [], Z, R, _, hZ, h => by simpa using h Z hZ (by simp)
  | x :: X, Z, R, hX, hZ, h => by
    obtain ⟨d, hd, c, hc⟩ := hX x (by simp)
    have h1 := D_lin_mod (List.range Y.length) c (fun k => Y.getD k fun _ => 0) x Z X R hc
    have h2 : m ∣ S (List.range Y.length) (fun k => c k * D (Z ++ Y.getD k (fun _ => 0) :: X) R) := S_all_dvd fun k hk => by
      have hk' : k < Y.length := by simpa using hk
      have hg : Y.getD k (fun _ => 0) = Y[k] := by simp [List.getD, hk']
      have ih := D_combo_mod hm Y X (Z ++ [Y.getD k fun _ => 0]) R (fun y hy => hX y (by simp [hy])) (fun z hz => by
        rcases List.mem_append.1 hz with hz | hz
        · exact hZ z hz
        · simp only [List.mem_singleton] at hz
          rw [hz, hg]; exact List.getElem_mem hk') (fun V hV hl => h V hV (by simp at hl ⊢; omega))
      simp only [List.append_assoc, List.singleton_append] at ih
      exact Int.dvd_trans ih (Int.dvd_mul_left _ _)
    have h3 : m ∣ d * D (Z ++ x :: X) R := by
      have := Int.dvd_add h1 h2
      rwa [Int.sub_add_cancel] at this
    exact (hm _ _ h3).resolve_left hd

/-- More vectors than there are to choose from, modulo m. -/
theorem D_span_mod {m : Int} (hm : PrimeLike m) (Y X : List (ι → Int)) (R : List ι)
    (hX : ∀ x ∈ X, ∃ d : Int, ¬ m ∣ d ∧ ∃ c : Nat → Int, ∀ r ∈ R, m ∣ d * x r - S (List.range Y.length) fun k => c k * (Y.getD k (fun _ => 0)) r) (hl : Y.length < X.length) : m ∣ D X R := by
  have := D_combo_mod hm Y X [] R hX (by simp) fun V hV hlV => by
    have h0 := D_span (d := 1) (by decide) Y [] V R (by simp) hV (by simp at hlV ⊢; omega)
    simp only [List.append_nil] at h0
    rw [h0]; exact Int.dvd_zero _
  simpa using this
end
end Go.Proofs.YtebkhdhhajjhfaaGreat.Gr

/- Elimination without fractions: its divisions are exact, and its entries are determinants. Plain Lean. -/
namespace Go.Proofs.YtebkhdhhajjhfaaGreat.Gr

section
variable {ι : Type}
theorem D_mem_left {u : ι → Int} {Z : List (ι → Int)} (h : u ∈ Z) (X : List (ι → Int)) (R : List ι) : D (Z ++ u :: X) R = 0 := by
  obtain ⟨Z1, Z2, rfl⟩ := List.append_of_mem h
  rw [List.append_assoc, List.cons_append]
  exact D_same _ _ _ _ _
theorem D_mem_right {u : ι → Int} {X : List (ι → Int)} (h : u ∈ X) (Z : List (ι → Int)) (R : List ι) : D (Z ++ u :: X) R = 0 := by
  obtain ⟨X1, X2, rfl⟩ := List.append_of_mem h
  exact D_same _ _ _ _ _
end

/-- The column of a matrix, as a function of the row. -/
def col (A : Nat → Nat → Int) (j : Nat) : Nat → Int := fun i => A i j
def rowsOf (pv : List (Nat × Nat)) : List Nat := pv.map (·.1)
def colsOf (A : Nat → Nat → Int) (pv : List (Nat × Nat)) : List (Nat → Int) := pv.map fun q => col A q.2

theorem mem_cols {A : Nat → Nat → Int} {pv : List (Nat × Nat)} {q : Nat × Nat} (h : q ∈ pv) : col A q.2 ∈ colsOf A pv := List.mem_map.2 ⟨q, h, rfl⟩

/-- The state: pivots (row, column) in their order; M: the rows as they are now; d: the scale. -/
structure Bar (A : Nat → Nat → Int) (m : Nat) (pv : List (Nat × Nat)) (M : Nat → Nat → Int) (d : Int) : Prop where
  nodup : (rowsOf pv).Nodup
  lt : ∀ q ∈ pv, q.1 < m
  ne : d ≠ 0
  det : d = D (colsOf A pv) (rowsOf pv)
  rel : ∀ x, x < m → ∀ j, d * A x j = (if x ∈ rowsOf pv then 0 else M x j) + S pv fun q => A x q.2 * M q.1 j

theorem Bar.start (A : Nat → Nat → Int) (m : Nat) : Bar A m [] A 1 :=
  ⟨by simp [rowsOf], by simp, by decide, rfl, fun x _ j => by simp [rowsOf]⟩

/-- Cramer: x times a column is a combination of the pivots' columns (and of a unit vector at i, of which 'none' speaks). -/
theorem cramer_at {A : Nat → Nat → Int} {pre post : List (Nat × Nat)} {q0 : Nat × Nat} {e : Int} {y : Nat × Nat → Int} {j : Nat} {R : List Nat}
    (h : ∀ x ∈ R, e * A x j = S (pre ++ q0 :: post) fun q => y q * A x q.2) :
    e * D (colsOf A pre ++ col A j :: colsOf A post) R = y q0 * D (colsOf A (pre ++ q0 :: post)) R := by
  have h1 := D_sum [()] (fun _ => e) (fun _ => col A j) (colsOf A pre) (colsOf A post) R
  simp only [S_cons, S_nil, Int.add_zero] at h1
  have h2 := D_sum (pre ++ q0 :: post) y (fun q => col A q.2) (colsOf A pre) (colsOf A post) R
  rw [← h1]
  refine (D_at _ (fun r => S (pre ++ q0 :: post) fun k => y k * col A k.2 r) (colsOf A post) (colsOf A pre) R (fun r hr => h r hr)).trans (h2.trans ?_)
  rw [S_append, S_cons]
  rw [S_zero (l := pre) fun q hq => by rw [D_mem_left (mem_cols hq), Int.mul_zero], S_zero (l := post) fun q hq => by rw [D_mem_right (mem_cols hq), Int.mul_zero]]
  simp [colsOf]

def optC (y : Nat × Nat → Int) (z : Int) : Option (Nat × Nat) → Int | some q => y q | none => z
def optV (A : Nat → Nat → Int) (i : Nat) : Option (Nat × Nat) → Nat → Int | some q => col A q.2 | none => fun x => if x = i then 1 else 0

theorem cramer_out {A : Nat → Nat → Int} {pv : List (Nat × Nat)} {e z : Int} {y : Nat × Nat → Int} {i j : Nat} {R : List Nat} (hl : pv.length = R.length) (hi : i ∉ R)
    (h : ∀ x ∈ R, e * A x j = S pv fun q => y q * A x q.2) (h' : e * A i j = z + S pv fun q => y q * A i q.2) :
    e * D (colsOf A pv ++ [col A j]) (R ++ [i]) = z * D (colsOf A pv) R := by
  have h1 := D_sum [()] (fun _ => e) (fun _ => col A j) (colsOf A pv) [] (R ++ [i])
  simp only [S_cons, S_nil, Int.add_zero] at h1
  have h2 := D_sum (pv.map some ++ [none]) (optC y z) (optV A i) (colsOf A pv) [] (R ++ [i])
  rw [← h1]
  refine (D_at _ (fun r => S (pv.map some ++ [none]) fun o => optC y z o * optV A i o r) [] (colsOf A pv) (R ++ [i]) (fun r hr => ?_)).trans (h2.trans ?_)
  · rw [S_append, S_map]
    simp only [S_cons, S_nil, Int.add_zero, optC, optV]
    rcases List.mem_append.1 hr with hr | hr
    · have : r ≠ i := fun he => hi (he ▸ hr)
      simp only [this, if_false, Int.mul_zero, Int.add_zero]
      exact h r hr
    · simp only [List.mem_singleton] at hr
      subst hr
      simp only [if_true, Int.mul_one]
      rw [Int.add_comm]
      exact h'
  · rw [S_append, S_map]
    simp only [S_cons, S_nil, Int.add_zero, optC, optV]
    rw [S_zero fun q hq => by rw [D_mem_left (mem_cols hq), Int.mul_zero], Int.zero_add]
    rw [D_unit _ i (by simp) _ _ (by simp [colsOf, hl]) fun r hr => by simp; intro he; subst he; exact hi hr]

section
variable {A : Nat → Nat → Int} {m : Nat} {pv : List (Nat × Nat)} {M : Nat → Nat → Int} {d : Int}

theorem rowsOf_length (pv : List (Nat × Nat)) : (rowsOf pv).length = pv.length := by simp [rowsOf]
theorem Bar.in_ (h : Bar A m pv M d) {x : Nat} (hx : x ∈ rowsOf pv) (j : Nat) : d * A x j = S pv fun q => M q.1 j * A x q.2 := by
  have hm : x < m := by
    obtain ⟨q, hq, rfl⟩ := List.mem_map.1 hx
    exact h.lt q hq
  have := h.rel x hm j
  rw [if_pos hx, Int.zero_add] at this
  rw [this]
  exact S_congr fun q _ => Int.mul_comm _ _
theorem Bar.out_ (h : Bar A m pv M d) {x : Nat} (hm : x < m) (hx : x ∉ rowsOf pv) (j : Nat) : d * A x j = M x j + S pv fun q => M q.1 j * A x q.2 := by
  have := h.rel x hm j
  rw [if_neg hx] at this
  rw [this]
  congr 1
  exact S_congr fun q _ => Int.mul_comm _ _

/-- A pivot's row: determinants with its column replaced. -/
theorem Bar.pivot (h : Bar A m pv M d) {pre post : List (Nat × Nat)} {q0 : Nat × Nat} (hp : pv = pre ++ q0 :: post) (j : Nat) : M q0.1 j = D (colsOf A pre ++ col A j :: colsOf A post) (rowsOf pv) := by
  have h1 := cramer_at (A := A) (pre := pre) (post := post) (q0 := q0) (e := d) (y := fun q => M q.1 j) (j := j) (R := rowsOf pv) (fun x hx => by rw [← hp]; exact h.in_ hx j)
  rw [← hp, ← h.det, Int.mul_comm (M q0.1 j)] at h1
  exact (Int.eq_of_mul_eq_mul_left h.ne h1).symm
/-- Another row. -/
theorem Bar.other (h : Bar A m pv M d) {i : Nat} (hm : i < m) (hi : i ∉ rowsOf pv) (j : Nat) : M i j = D (colsOf A pv ++ [col A j]) (rowsOf pv ++ [i]) := by
  have h1 := cramer_out (A := A) (pv := pv) (e := d) (z := M i j) (y := fun q => M q.1 j) (i := i) (j := j) (R := rowsOf pv) (rowsOf_length pv).symm hi (fun x hx => h.in_ hx j) (h.out_ hm hi j)
  rw [← h.det, Int.mul_comm (M i j)] at h1
  exact (Int.eq_of_mul_eq_mul_left h.ne h1).symm

/-- The rows behind a pivot at row i0, column c, before the division. -/
def raw (M : Nat → Nat → Int) (i0 c x j : Nat) : Int := M i0 c * M x j - M x c * M i0 j

theorem raw_rel (h : Bar A m pv M d) {i0 c : Nat} (x : Nat) (hx : x < m) (j : Nat) :
    d * M i0 c * A x j = (if x ∈ rowsOf pv then 0 else raw M i0 c x j) + (S pv fun q => A x q.2 * raw M i0 c q.1 j) + A x c * (d * M i0 j) := by
  have h1 := h.rel x hx j
  have h2 := h.rel x hx c
  have h3 : S pv (fun q => A x q.2 * raw M i0 c q.1 j) = M i0 c * S pv (fun q => A x q.2 * M q.1 j) - S pv (fun q => A x q.2 * M q.1 c) * M i0 j := by
    rw [← S_mul, ← S_mul_right, Int.sub_eq_add_neg, ← S_neg, ← S_add]
    refine S_congr fun q _ => ?_
    unfold raw
    rw [Int.mul_sub, Int.sub_eq_add_neg, Int.mul_left_comm, Int.mul_assoc]
  rw [h3]
  generalize S pv (fun q => A x q.2 * M q.1 j) = s1 at *
  generalize S pv (fun q => A x q.2 * M q.1 c) = s2 at *
  have e1 : d * M i0 c * A x j = M i0 c * (d * A x j) := by rw [Int.mul_comm d, Int.mul_assoc]
  have e2 : A x c * (d * M i0 j) = (d * A x c) * M i0 j := by rw [Int.mul_left_comm, Int.mul_assoc]
  rw [e1, e2, h1, h2]
  split
  · simp only [Int.zero_add]; omega
  · unfold raw
    rw [Int.mul_add, Int.add_mul]
    omega

variable {i0 c : Nat}

theorem step_det (h : Bar A m pv M d) (h0 : i0 < m) (hi : i0 ∉ rowsOf pv) : M i0 c = D (colsOf A (pv ++ [(i0, c)])) (rowsOf (pv ++ [(i0, c)])) := by
  rw [h.other h0 hi c]
  simp [colsOf, rowsOf]

theorem rows_snoc (pv : List (Nat × Nat)) (q : Nat × Nat) : rowsOf (pv ++ [q]) = rowsOf pv ++ [q.1] := by simp [rowsOf]

/-- (K) as the new pivots have it. -/
def newY (M : Nat → Nat → Int) (d : Int) (i0 c j : Nat) (q : Nat × Nat) : Int := if q.1 = i0 then d * M i0 j else raw M i0 c q.1 j
theorem raw_rel' (h : Bar A m pv M d) (hi : i0 ∉ rowsOf pv) (x : Nat) (hx : x < m) (j : Nat) :
    d * M i0 c * A x j = (if x ∈ rowsOf (pv ++ [(i0, c)]) then 0 else raw M i0 c x j) + S (pv ++ [(i0, c)]) fun q => newY M d i0 c j q * A x q.2 := by
  rw [raw_rel h (i0 := i0) (c := c) x hx j, S_append]
  simp only [S_cons, S_nil, Int.add_zero]
  have e1 : S pv (fun q => newY M d i0 c j q * A x q.2) = S pv fun q => A x q.2 * raw M i0 c q.1 j := S_congr fun q hq => by
    have : q.1 ≠ i0 := fun he => hi (he ▸ List.mem_map.2 ⟨q, hq, rfl⟩)
    unfold newY
    rw [if_neg this, Int.mul_comm]
  have e2 : newY M d i0 c j (i0, c) = d * M i0 j := by unfold newY; rw [if_pos rfl]
  have e3 : (if x ∈ rowsOf (pv ++ [(i0, c)]) then 0 else raw M i0 c x j) = if x ∈ rowsOf pv then 0 else raw M i0 c x j := by
    rw [rows_snoc]
    by_cases hxr : x ∈ rowsOf pv
    · rw [if_pos (by simp [hxr]), if_pos hxr]
    · rw [if_neg hxr]
      by_cases hx0 : x = i0
      · subst hx0
        rw [if_pos (by simp)]
        unfold raw
        omega
      · rw [if_neg (by simp [hxr, hx0])]
  rw [e1, e2, e3, Int.mul_comm (d * M i0 j)]
  omega

theorem nodup_snoc {l : List Nat} {x : Nat} (h : l.Nodup) (hx : x ∉ l) : (l ++ [x]).Nodup := by
  rw [List.nodup_append]
  exact ⟨h, by simp, fun a ha b hb => by simp at hb; subst hb; intro e; subst e; exact hx ha⟩

/-- THE DIVISION IS EXACT. -/
theorem raw_dvd (h : Bar A m pv M d) (h0 : i0 < m) (hi : i0 ∉ rowsOf pv) (hp : M i0 c ≠ 0) (x : Nat) (hx : x < m) (j : Nat) (hx0 : x ≠ i0) : d ∣ raw M i0 c x j := by
  have hdet := step_det (c := c) h h0 hi
  have hin : ∀ y ∈ rowsOf (pv ++ [(i0, c)]), y < m := fun y hy => by
    rw [rows_snoc] at hy
    rcases List.mem_append.1 hy with hy | hy
    · obtain ⟨q, hq, rfl⟩ := List.mem_map.1 hy
      exact h.lt q hq
    · simp at hy; omega
  have hK : ∀ y ∈ rowsOf (pv ++ [(i0, c)]), d * M i0 c * A y j = S (pv ++ [(i0, c)]) fun q => newY M d i0 c j q * A y q.2 := fun y hy => by
    rw [raw_rel' h hi y (hin y hy) j, if_pos hy, Int.zero_add]
  by_cases hxr : x ∈ rowsOf pv
  · obtain ⟨q0, hq0, rfl⟩ := List.mem_map.1 hxr
    obtain ⟨pre, post, hpp⟩ := List.append_of_mem hq0
    have h1 := cramer_at (A := A) (pre := pre) (post := post ++ [(i0, c)]) (q0 := q0) (e := d * M i0 c) (y := newY M d i0 c j) (j := j) (R := rowsOf (pv ++ [(i0, c)])) (fun y hy => by
      rw [hK y hy, hpp]; simp)
    have e1 : pre ++ q0 :: (post ++ [(i0, c)]) = pv ++ [(i0, c)] := by rw [hpp]; simp
    have e2 : newY M d i0 c j q0 = raw M i0 c q0.1 j := by unfold newY; rw [if_neg hx0]
    rw [e1, ← hdet, e2, Int.mul_comm d, Int.mul_assoc, Int.mul_comm (raw M i0 c q0.1 j)] at h1
    exact ⟨_, (Int.eq_of_mul_eq_mul_left hp h1).symm⟩
  · have hx' : x ∉ rowsOf (pv ++ [(i0, c)]) := by rw [rows_snoc]; simp [hxr, hx0]
    have h1 := cramer_out (A := A) (pv := pv ++ [(i0, c)]) (e := d * M i0 c) (z := raw M i0 c x j) (y := newY M d i0 c j) (i := x) (j := j) (R := rowsOf (pv ++ [(i0, c)])) (rowsOf_length _).symm hx' hK (by
      have := raw_rel' (c := c) h hi x hx j
      rwa [if_neg hx'] at this)
    rw [← hdet, Int.mul_comm d, Int.mul_assoc, Int.mul_comm (raw M i0 c x j)] at h1
    exact ⟨_, (Int.eq_of_mul_eq_mul_left hp h1).symm⟩

/-- THE STEP: the rows after the pivot. -/
theorem Bar.step (h : Bar A m pv M d) (h0 : i0 < m) (hi : i0 ∉ rowsOf pv) (hp : M i0 c ≠ 0) {M' : Nat → Nat → Int} (hM0 : ∀ j, M' i0 j = M i0 j) (hM : ∀ x, x < m → x ≠ i0 → ∀ j, d * M' x j = raw M i0 c x j) :
    Bar A m (pv ++ [(i0, c)]) M' (M i0 c) := by
  refine ⟨by rw [rows_snoc]; exact nodup_snoc h.nodup hi, fun q hq => ?_, hp, step_det h h0 hi, fun x hx j => ?_⟩
  · rcases List.mem_append.1 hq with hq | hq
    · exact h.lt q hq
    · simp at hq; rw [hq]; exact h0
  · refine Int.eq_of_mul_eq_mul_left h.ne ?_
    rw [← Int.mul_assoc, raw_rel' h hi x hx j, Int.mul_add, ← S_mul]
    congr 1
    · split
      · simp
      · rename_i hxr
        rw [hM x hx (fun e => hxr (by rw [rows_snoc, e]; simp)) j]
    · refine S_congr fun q hq => ?_
      unfold newY
      rcases List.mem_append.1 hq with hq | hq
      · have hne : q.1 ≠ i0 := fun he => hi (he ▸ List.mem_map.2 ⟨q, hq, rfl⟩)
        rw [if_neg hne, ← hM q.1 (h.lt q hq) hne j, Int.mul_assoc]
        congr 1
        exact Int.mul_comm _ _
      · simp at hq
        subst hq
        rw [if_pos rfl, hM0, Int.mul_assoc]
        congr 1
        exact Int.mul_comm _ _

/-! ### The pivots' own columns -/
theorem Bar.diag (h : Bar A m pv M d) {pre post : List (Nat × Nat)} {q0 : Nat × Nat} (hp : pv = pre ++ q0 :: post) : M q0.1 q0.2 = d := by
  rw [h.pivot hp, h.det, hp]
  simp [colsOf]
theorem Bar.off (h : Bar A m pv M d) {pre post : List (Nat × Nat)} {q0 q : Nat × Nat} (hp : pv = pre ++ q0 :: post) (hq : q ∈ pre ∨ q ∈ post) : M q0.1 q.2 = 0 := by
  rw [h.pivot hp]
  rcases hq with hq | hq
  · exact D_mem_left (mem_cols hq) _ _
  · exact D_mem_right (mem_cols hq) _ _
theorem Bar.zero (h : Bar A m pv M d) {i : Nat} (hm : i < m) (hi : i ∉ rowsOf pv) {q : Nat × Nat} (hq : q ∈ pv) : M i q.2 = 0 := by
  rw [h.other hm hi]
  exact D_mem_left (mem_cols hq) _ _
end
end Go.Proofs.YtebkhdhhajjhfaaGreat.Gr

/- The equations with their origins beside them; what elimination leaves; its numbers are small. Plain Lean. -/
namespace Go.Proofs.YtebkhdhhajjhfaaGreat.Gr

/-- The matrix: the lines, and a unit matrix beside them. -/
def augA (n : Nat) (lines : Nat → List Int) (x j : Nat) : Int := if j < n then getI (lines x) j else if j - n = x then 1 else 0

/-! ### Sums of absolute values -/
theorem S_set_le (n : Nat) (L : List Int) (a : Nat) (v : Int) : S (List.range n) (fun j => ((getI (L.set a v) j).natAbs : Int)) ≤ S (List.range n) (fun j => ((getI L j).natAbs : Int)) + (v.natAbs : Int) := by
  have h : ∀ (l : List Nat), l.Nodup → S l (fun j => ((getI (L.set a v) j).natAbs : Int)) ≤ S l (fun j => ((getI L j).natAbs : Int)) + (if a ∈ l then (v.natAbs : Int) else 0) := by
    intro l
    induction l with
    | nil => intro _; simp
    | cons y l ih =>
      intro hn
      rw [List.nodup_cons] at hn
      have := ih hn.2
      rw [S_cons, S_cons]
      by_cases e : y = a
      · subst e
        rw [if_neg hn.1] at this
        rw [if_pos (by simp)]
        have h1 : ((getI (L.set y v) y).natAbs : Int) ≤ (v.natAbs : Int) := by
          unfold getI
          by_cases hy : y < L.length
          · rw [List.getElem?_set_self hy]; simp
          · rw [List.getElem?_eq_none (by simp; omega)]; simp
        have h2 : (0 : Int) ≤ ((getI L y).natAbs : Int) := by omega
        omega
      · have h1 : getI (L.set a v) y = getI L y := by unfold getI; rw [List.getElem?_set_ne (fun h => e h.symm)]
        rw [h1]
        have h2 : (if a ∈ y :: l then (v.natAbs : Int) else 0) = if a ∈ l then (v.natAbs : Int) else 0 := by
          have : a ∈ y :: l ↔ a ∈ l := by
            constructor
            · intro hh; rcases List.mem_cons.1 hh with h | h
              · exact absurd h.symm e
              · exact h
            · intro h; exact List.mem_cons.2 (.inr h)
          simp [this]
        rw [h2]
        omega
  have := h (List.range n) List.nodup_range
  split at this <;> omega
theorem S_zeros (n m : Nat) : S (List.range n) (fun j => ((getI (List.replicate m 0) j).natAbs : Int)) = 0 :=
  S_zero fun j _ => by
    unfold getI
    by_cases h : j < m
    · rw [List.getElem?_replicate, if_pos h]; rfl
    · rw [List.getElem?_replicate, if_neg h]; rfl

theorem facS_small {x : Msh} {n : Nat} (h : validB x (n : Int) = true) : S (List.range n) (fun j => ((getI (facS x n) j).natAbs : Int)) ≤ 96 := by
  have hv : validP x n := of_decide_eq_true h
  have hk := nsS_kind hv.1
  have ht : teethS x.kind = true → (1 ≤ x.n ∧ x.n ≤ 24) ∧ (1 ≤ x.m ∧ x.m ≤ 24) := fun e => by
    have := hv.2.2.2.2
    rwa [if_pos e] at this
  have h0 := S_zeros n n
  unfold facS
  split
  · rename_i h1
    have := ht (by simp [teethS, h1])
    have a1 := S_set_le n (List.replicate n 0) x.a.toNat x.n
    have a2 := S_set_le n ((List.replicate n 0).set x.a.toNat x.n) x.b.toNat x.m
    omega
  split
  · rename_i _ h1
    have := ht (by simp [teethS, h1])
    have a1 := S_set_le n (List.replicate n 0) x.a.toNat x.n
    have a2 := S_set_le n ((List.replicate n 0).set x.a.toNat x.n) x.b.toNat (-x.m)
    omega
  split
  · have a1 := S_set_le n (List.replicate n 0) x.a.toNat 1
    omega
  split
  · have a1 := S_set_le n (List.replicate n 0) x.a.toNat 1
    have a2 := S_set_le n ((List.replicate n 0).set x.a.toNat 1) x.b.toNat 1
    have a3 := S_set_le n (((List.replicate n 0).set x.a.toNat 1).set x.b.toNat 1) x.c.toNat (-2)
    omega
  split
  · rename_i h1
    have := ht (by simp [teethS, h1])
    have a1 := S_set_le n (List.replicate n 0) x.a.toNat x.n
    have a2 := S_set_le n ((List.replicate n 0).set x.a.toNat x.n) x.b.toNat x.m
    have a3 := S_set_le n (((List.replicate n 0).set x.a.toNat x.n).set x.b.toNat x.m) x.c.toNat (-(x.n + x.m))
    omega
  · have a1 := S_set_le n (List.replicate n 0) x.a.toNat 1
    have a2 := S_set_le n ((List.replicate n 0).set x.a.toNat 1) x.b.toNat (-1)
    omega

/-- A sum over some different indices is at most that over all. -/
theorem S_sub_le {f : Nat → Int} (hf : ∀ x, 0 ≤ f x) : ∀ (l l' : List Nat), l.Nodup → (∀ x ∈ l, x ∈ l') → S l f ≤ S l' f
  | [], l', _, _ => by
    have : ∀ l' : List Nat, 0 ≤ S l' f := fun l' => by
      induction l' with
      | nil => simp
      | cons y l' ih => rw [S_cons]; have := hf y; omega
    simpa using this l'
  | x :: l, l', hn, hs => by
    rw [List.nodup_cons] at hn
    obtain ⟨l1, l2, rfl⟩ := List.append_of_mem (hs x (by simp))
    have ih := S_sub_le hf l (l1 ++ l2) hn.2 fun y hy => by
      have := hs y (by simp [hy])
      simp only [List.mem_append, List.mem_cons] at this ⊢
      rcases this with h | h | h
      · exact .inl h
      · subst h; exact absurd hy hn.1
      · exact .inr h
    rw [S_append] at ih
    rw [S_cons, S_append, S_cons]
    omega

theorem aug_small {n : Nat} {lines : Nat → List Int} {x : Nat} (h : S (List.range n) (fun j => ((getI (lines x) j).natAbs : Int)) ≤ 96) (C : List Nat) (hC : C.Nodup) : S C (fun j => ((augA n lines x j).natAbs : Int)) ≤ 97 := by
  have h1 : ∀ C : List Nat, S C (fun j => ((augA n lines x j).natAbs : Int)) = S C (fun j => if j < n then ((getI (lines x) j).natAbs : Int) else 0) + S C (fun j => if j = n + x then (1 : Int) else 0) := fun C => by
    rw [← S_add]
    refine S_congr fun j _ => ?_
    unfold augA
    by_cases hj : j < n
    · rw [if_pos hj, if_pos hj, if_neg (by omega)]; omega
    · rw [if_neg hj, if_neg hj]
      by_cases e : j - n = x
      · rw [if_pos e, if_pos (by omega)]; rfl
      · rw [if_neg e, if_neg (by omega)]; rfl
  rw [h1]
  have h2 : S C (fun j => if j < n then ((getI (lines x) j).natAbs : Int) else 0) ≤ 96 := by
    have e := S_sub_le (f := fun j => if j < n then ((getI (lines x) j).natAbs : Int) else 0) (fun y => by split <;> omega) (C.filter (· < n)) (List.range n) (hC.filter _) (fun y hy => by simp at hy ⊢; exact hy.2)
    have e2 : S (List.range n) (fun j => if j < n then ((getI (lines x) j).natAbs : Int) else 0) = S (List.range n) (fun j => ((getI (lines x) j).natAbs : Int)) := S_congr fun j hj => if_pos (List.mem_range.1 hj)
    have e3 : ∀ C : List Nat, S (C.filter (· < n)) (fun j => if j < n then ((getI (lines x) j).natAbs : Int) else 0) = S C (fun j => if j < n then ((getI (lines x) j).natAbs : Int) else 0) := fun C => by
      induction C with
      | nil => rfl
      | cons y C ih =>
        rw [List.filter_cons]
        by_cases hy : y < n
        · rw [if_pos (by simpa using hy), S_cons, S_cons, ih]
        · rw [if_neg (by simpa using hy), S_cons, if_neg hy, ih]; omega
    rw [← e3]
    omega
  have h3 : S C (fun j => if j = n + x then (1 : Int) else 0) ≤ 1 := by
    have : ∀ C : List Nat, C.Nodup → S C (fun j => if j = n + x then (1 : Int) else 0) ≤ (if n + x ∈ C then 1 else 0) := fun C => by
      induction C with
      | nil => intro _; simp
      | cons y C ih =>
        intro hn
        rw [List.nodup_cons] at hn
        have := ih hn.2
        rw [S_cons]
        by_cases e : y = n + x
        · subst e
          rw [if_neg hn.1] at this
          rw [if_pos rfl, if_pos (by simp)]
          omega
        · rw [if_neg e]
          have h2 : (if n + x ∈ y :: C then (1 : Int) else 0) = if n + x ∈ C then 1 else 0 := by
            have : n + x ∈ y :: C ↔ n + x ∈ C := by
              constructor
              · intro hh; rcases List.mem_cons.1 hh with h | h
                · exact absurd h.symm e
                · exact h
              · intro h; exact List.mem_cons.2 (.inr h)
            simp [this]
          rw [h2]; omega
    have := this C hC
    split at this <;> omega
  omega

theorem D_small {A : Nat → Nat → Int} {m : Nat} (hA : ∀ x, x < m → ∀ C : List Nat, C.Nodup → S C (fun j => ((A x j).natAbs : Int)) ≤ 97) (C R : List Nat) (hC : C.Nodup) (hR : ∀ r ∈ R, r < m) (hl : C.length = R.length) (h9 : R.length ≤ 9) :
    (D (C.map (col A)) R).natAbs < 4611686018427387904 := by
  have h1 := (D_bound (C.map (col A)) R).resolve_right (by simpa using hl)
  have h2 : P' R (fun r => S (C.map (col A)) fun v => ((v r).natAbs : Int)) ≤ (97 : Int) ^ R.length := P_const fun r hr => ⟨S_abs_nonneg _ r, by
    rw [S_map]
    exact hA r (hR r hr) C hC⟩
  have h3 : (97 : Int) ^ R.length ≤ 97 ^ 9 := by
    have hn : 97 ^ R.length ≤ 97 ^ 9 := Nat.pow_le_pow_right (by decide) h9
    have hc : ∀ k : Nat, ((97 ^ k : Nat) : Int) = (97 : Int) ^ k := fun k => Int.natCast_pow 97 k
    rw [← hc, ← hc]
    exact Int.ofNat_le.2 hn
  have h4 : ((D (C.map (col A)) R).natAbs : Int) ≤ 97 ^ 9 := Int.le_trans h1 (Int.le_trans h2 h3)
  have h5 : (97 : Int) ^ 9 < 4611686018427387904 := by decide +kernel
  omega

/-! ### The state -/
def colsP (pv : List (Nat × Nat)) : List Nat := pv.map (·.2)
theorem colsOf_eq (A : Nat → Nat → Int) (pv : List (Nat × Nat)) : colsOf A pv = (colsP pv).map (col A) := by simp [colsOf, colsP]

/-- Bounds of what elimination leaves. -/
theorem Bar.small {A : Nat → Nat → Int} {m : Nat} {pv : List (Nat × Nat)} {M : Nat → Nat → Int} {d : Int} (h : Bar A m pv M d)
    (hA : ∀ x, x < m → ∀ C : List Nat, C.Nodup → S C (fun j => ((A x j).natAbs : Int)) ≤ 97) (hc : (colsP pv).Nodup) (h8 : pv.length ≤ 8) :
    d.natAbs < 4611686018427387904 ∧ ∀ x, x < m → ∀ j, (M x j).natAbs < 4611686018427387904 := by
  have hR : ∀ r ∈ rowsOf pv, r < m := fun r hr => by
    obtain ⟨q, hq, rfl⟩ := List.mem_map.1 hr
    exact h.lt q hq
  refine ⟨?_, fun x hx j => ?_⟩
  · rw [h.det, colsOf_eq]
    exact D_small hA _ _ hc hR (by simp [colsP, rowsOf]) (by rw [rowsOf_length]; omega)
  · by_cases hxr : x ∈ rowsOf pv
    · obtain ⟨q0, hq0, rfl⟩ := List.mem_map.1 hxr
      obtain ⟨pre, post, hpp⟩ := List.append_of_mem hq0
      rw [h.pivot hpp j]
      by_cases hj : j ∈ colsP pre ∨ j ∈ colsP post
      · have : D (colsOf A pre ++ col A j :: colsOf A post) (rowsOf pv) = 0 := by
          rcases hj with hj | hj
          · obtain ⟨q, hq, rfl⟩ := List.mem_map.1 hj
            exact D_mem_left (mem_cols hq) _ _
          · obtain ⟨q, hq, rfl⟩ := List.mem_map.1 hj
            exact D_mem_right (mem_cols hq) _ _
        rw [this]; decide
      · have e : colsOf A pre ++ col A j :: colsOf A post = (colsP pre ++ j :: colsP post).map (col A) := by simp [colsOf_eq]
        rw [e]
        refine D_small hA _ _ ?_ hR (by rw [hpp]; simp [colsP, rowsOf]) (by rw [rowsOf_length]; omega)
        have hc' : (colsP pre ++ q0.2 :: colsP post).Nodup := by rw [hpp] at hc; simpa [colsP] using hc
        rw [List.nodup_append] at hc' ⊢
        obtain ⟨n1, n2, n3⟩ := hc'
        rw [List.nodup_cons] at n2 ⊢
        refine ⟨n1, ⟨fun hm => hj (.inr hm), n2.2⟩, fun a ha b hb => ?_⟩
        rcases List.mem_cons.1 hb with rfl | hb
        · intro e; subst e; exact hj (.inl ha)
        · exact n3 a ha b (by simp [hb])
    · rw [h.other hx hxr j]
      by_cases hj : j ∈ colsP pv
      · obtain ⟨q, hq, rfl⟩ := List.mem_map.1 hj
        rw [D_mem_left (mem_cols hq)]; decide
      · have e : colsOf A pv ++ [col A j] = (colsP pv ++ [j]).map (col A) := by simp [colsOf_eq]
        rw [e]
        refine D_small hA _ _ (nodup_snoc hc hj) (fun r hr => ?_) (by simp [colsP, rowsOf]) (by simp [rowsOf]; omega)
        rcases List.mem_append.1 hr with hr | hr
        · exact hR r hr
        · simp at hr; omega
end Go.Proofs.YtebkhdhhajjhfaaGreat.Gr

/- The state of the elimination: rows in their order now, pivots, columns that are done. Plain Lean. -/
namespace Go.Proofs.YtebkhdhhajjhfaaGreat.Gr

structure SolSt (A : Nat → Nat → Int) (n m : Nat) (cols : List Nat) (σ : Nat → Nat) (pv : List (Nat × Nat)) (M : Nat → Nat → Int) (d : Int) : Prop where
  bar : Bar A m pv M d
  lt : ∀ k, k < m → σ k < m
  inj : ∀ i j, i < m → j < m → σ i = σ j → i = j
  row : rowsOf pv = (List.range pv.length).map σ
  le : pv.length ≤ m
  cnd : (colsP pv).Nodup
  cin : ∀ c ∈ colsP pv, c ∈ cols ∧ c < n
  zero : ∀ k, pv.length ≤ k → k < m → ∀ c ∈ cols, M (σ k) c = 0
  left : cols.Nodup → ∀ q ∈ pv, ∀ i j c : Nat, i < j → cols[j]? = some q.2 → cols[i]? = some c → M q.1 c = 0

theorem S_one (l : List Nat) : S l (fun _ => 1) = (l.length : Int) := by
  induction l with
  | nil => rfl
  | cons x l ih => rw [S_cons, ih]; simp; omega

/-- The rows behind a pivot at row i0, column c. -/
def newM (M : Nat → Nat → Int) (d : Int) (i0 c x j : Nat) : Int := if x = i0 then M i0 j else raw M i0 c x j / d
def swapF (σ : Nat → Nat) (a b k : Nat) : Nat := if k = a then σ b else if k = b then σ a else σ k

section
variable {A : Nat → Nat → Int} {n m : Nat} {cols : List Nat} {σ : Nat → Nat} {pv : List (Nat × Nat)} {M : Nat → Nat → Int} {d : Int}
theorem SolSt.start (A : Nat → Nat → Int) (n m : Nat) : SolSt A n m [] (fun k => k) [] A 1 :=
  ⟨Bar.start A m, fun _ h => h, fun _ _ _ _ h => h, by simp [rowsOf], by simp, by simp [colsP], fun c hc => by simp [colsP] at hc, fun _ _ _ c hc => by simp at hc, fun _ q hq => by simp at hq⟩
theorem SolSt.le_n (h : SolSt A n m cols σ pv M d) : pv.length ≤ n := by
  have h1 := S_sub_le (f := fun _ => 1) (fun _ => by decide) (colsP pv) (List.range n) h.cnd fun c hc => List.mem_range.2 (h.cin c hc).2
  rw [S_one, S_one] at h1
  simp [colsP] at h1
  exact h1
theorem SolSt.notin (h : SolSt A n m cols σ pv M d) {k : Nat} (h1 : pv.length ≤ k) (h2 : k < m) : σ k ∉ rowsOf pv := fun hm => by
  rw [h.row] at hm
  obtain ⟨j, hj, e⟩ := List.mem_map.1 hm
  rw [List.mem_range] at hj
  have := h.inj j k (by omega) h2 e
  omega
/-- What holds of the columns so far, in a longer list. -/
theorem left_snoc {cols : List Nat} {c x i j y : Nat} (hn : (cols ++ [x]).Nodup) (hc : c ∈ cols) (hij : i < j) (hj : (cols ++ [x])[j]? = some c) (hi : (cols ++ [x])[i]? = some y) : cols.Nodup ∧ cols[j]? = some c ∧ cols[i]? = some y := by
  have h1 := List.nodup_append.1 hn
  have hjl : j < cols.length := by
    rcases Nat.lt_or_ge j cols.length with h | h
    · exact h
    · have hl : j < (cols ++ [x]).length := (List.getElem?_eq_some_iff.1 hj).1
      have : j = cols.length := by simp at hl; omega
      subst this
      rw [List.getElem?_append_right (Nat.le_refl _)] at hj
      simp at hj
      subst hj
      exact absurd rfl (h1.2.2 x hc x (by simp))
  refine ⟨h1.1, ?_, ?_⟩
  · rwa [List.getElem?_append_left hjl] at hj
  · rwa [List.getElem?_append_left (by omega)] at hi
theorem SolSt.skip (h : SolSt A n m cols σ pv M d) {c : Nat} (h0 : ∀ k, pv.length ≤ k → k < m → M (σ k) c = 0) : SolSt A n m (cols ++ [c]) σ pv M d :=
  ⟨h.bar, h.lt, h.inj, h.row, h.le, h.cnd, fun x hx => ⟨List.mem_append.2 (.inl (h.cin x hx).1), (h.cin x hx).2⟩, fun k h1 h2 x hx => by
    rcases List.mem_append.1 hx with hx | hx
    · exact h.zero k h1 h2 x hx
    · simp at hx; subst hx; exact h0 k h1 h2, fun hn q hq i j y hij hj hi => by
    obtain ⟨e1, e2, e3⟩ := left_snoc hn (h.cin q.2 (List.mem_map.2 ⟨q, hq, rfl⟩)).1 hij hj hi
    exact h.left e1 q hq i j y hij e2 e3⟩

/-- The new rows' law: the division is exact. -/
theorem SolSt.newM_mul (h : SolSt A n m cols σ pv M d) {i c : Nat} (h1 : pv.length ≤ i) (h2 : i < m) (hp : M (σ i) c ≠ 0) {x : Nat} (hx : x < m) (hne : x ≠ σ i) (j : Nat) : d * newM M d (σ i) c x j = raw M (σ i) c x j := by
  unfold newM
  rw [if_neg hne]
  exact Int.mul_ediv_cancel' (raw_dvd h.bar (h.lt i h2) (h.notin h1 h2) hp x hx j hne)

theorem SolSt.pivot (h : SolSt A n m cols σ pv M d) {i c : Nat} (h1 : pv.length ≤ i) (h2 : i < m) (hc : c < n) (hp : M (σ i) c ≠ 0) :
    SolSt A n m (cols ++ [c]) (swapF σ pv.length i) (pv ++ [(σ i, c)]) (newM M d (σ i) c) (M (σ i) c) := by
  have hlt : ∀ k, k < m → ∃ k', k' < m ∧ swapF σ pv.length i k = σ k' ∧ (pv.length < k → pv.length ≤ k' ∧ k' ≠ i) ∧ (k < pv.length → k' = k) ∧ (k = pv.length → k' = i) := fun k hk => by
    unfold swapF
    by_cases e1 : k = pv.length
    · exact ⟨i, h2, by rw [if_pos e1], fun _ => by omega, fun _ => by omega, fun _ => rfl⟩
    · by_cases e2 : k = i
      · exact ⟨pv.length, by omega, by rw [if_neg e1, if_pos e2], fun _ => by omega, fun _ => by omega, fun _ => by omega⟩
      · exact ⟨k, hk, by rw [if_neg e1, if_neg e2], fun _ => by omega, fun _ => rfl, fun _ => by omega⟩
  have hcn : c ∉ colsP pv := fun hm => by
    obtain ⟨q, hq, rfl⟩ := List.mem_map.1 hm
    exact hp (h.bar.zero (h.lt i h2) (h.notin h1 h2) hq)
  refine ⟨h.bar.step (h.lt i h2) (h.notin h1 h2) hp (fun j => by unfold newM; rw [if_pos rfl]) (fun x hx hne j => h.newM_mul h1 h2 hp hx hne j), fun k hk => ?_, fun a b ha hb e => ?_, ?_, ?_, ?_, fun x hx => ?_, fun k hk1 hk2 x hx => ?_, fun hn q hq i' j y hij hj hi => ?_⟩
  · obtain ⟨k', hk', e, _⟩ := hlt k hk
    rw [e]; exact h.lt k' hk'
  · unfold swapF at e
    have hs : ∀ y z, y < m → z < m → σ y = σ z → y = z := h.inj
    have hpm : pv.length < m := by omega
    by_cases a1 : a = pv.length <;> by_cases b1 : b = pv.length <;> by_cases a2 : a = i <;> by_cases b2 : b = i <;> simp only [a1, b1, a2, b2, if_true, if_false] at e <;> (try omega)
    all_goals
      first
        | (have := hs _ _ (by omega) (by omega) e; omega)
        | (split at e <;> (try split at e) <;> (have := hs _ _ (by omega) (by omega) e; omega))
  · rw [rows_snoc, h.row, List.length_append, List.length_singleton, List.range_succ, List.map_append]
    congr 1
    · refine List.map_congr_left fun k hk => ?_
      rw [List.mem_range] at hk
      unfold swapF
      rw [if_neg (by omega), if_neg (by omega)]
    · simp [swapF]
  · simp; omega
  · have : colsP (pv ++ [(σ i, c)]) = colsP pv ++ [c] := by simp [colsP]
    rw [this]
    exact nodup_snoc h.cnd hcn
  · have e : colsP (pv ++ [(σ i, c)]) = colsP pv ++ [c] := by simp [colsP]
    rw [e] at hx
    rcases List.mem_append.1 hx with hx | hx
    · exact ⟨List.mem_append.2 (.inl (h.cin x hx).1), (h.cin x hx).2⟩
    · simp at hx; subst hx; exact ⟨by simp, hc⟩
  · simp only [List.length_append, List.length_singleton] at hk1
    obtain ⟨k', hk', e, hge, _⟩ := hlt k hk2
    obtain ⟨g1, g2⟩ := hge (by omega)
    rw [e]
    have hne : σ k' ≠ σ i := fun e' => g2 (h.inj k' i hk' h2 e')
    refine (Int.mul_eq_zero.1 (?_ : d * newM M d (σ i) c (σ k') x = 0)).resolve_left h.bar.ne
    rw [h.newM_mul h1 h2 hp (h.lt k' hk') hne]
    unfold raw
    rcases List.mem_append.1 hx with hx | hx
    · rw [h.zero k' g1 hk' x hx, h.zero i h1 h2 x hx]; simp
    · simp at hx; subst hx; rw [Int.mul_comm]; omega
  · have hz : ∀ y, y ∈ cols → M (σ i) y = 0 := fun y hy => h.zero i h1 h2 y hy
    rcases List.mem_append.1 hq with hq | hq
    · obtain ⟨e1, e2, e3⟩ := left_snoc hn (h.cin q.2 (List.mem_map.2 ⟨q, hq, rfl⟩)).1 hij hj hi
      have hq1 : q.1 ∈ rowsOf pv := List.mem_map.2 ⟨q, hq, rfl⟩
      have hne : q.1 ≠ σ i := fun e => h.notin h1 h2 (e ▸ hq1)
      refine (Int.mul_eq_zero.1 (?_ : d * newM M d (σ i) c q.1 y = 0)).resolve_left h.bar.ne
      rw [h.newM_mul h1 h2 hp (h.bar.lt q hq) hne]
      unfold raw
      rw [h.left e1 q hq i' j y hij e2 e3, hz y (List.mem_of_getElem? e3)]
      simp
    · simp only [List.mem_singleton] at hq
      subst hq
      unfold newM
      rw [if_pos rfl]
      refine hz y ?_
      have hlj : j < (cols ++ [c]).length := (List.getElem?_eq_some_iff.1 hj).1
      rw [List.getElem?_append_left (by simp at hlj; omega)] at hi
      exact List.mem_of_getElem? hi
end
end Go.Proofs.YtebkhdhhajjhfaaGreat.Gr

/- Rows of equations in memory, as functions of their places; structs beside them. -/
namespace Go.Proofs.YtebkhdhhajjhfaaGreat.Gr
open Go.RowKit

def rowCells (n m c : Nat) (g h : Nat → Nat) : List Value := ((List.range c).map fun k => [sl (g k) n, sl (h k) m]).flatten
theorem rowCells_len (n m c : Nat) (g h : Nat → Nat) : (rowCells n m c g h).length = c * 2 := by
  unfold rowCells
  rw [flatten_len 2 _ (by simp)]
  simp
theorem rowCells_succ (n m c : Nat) (g h : Nat → Nat) : rowCells n m (c + 1) g h = rowCells n m c g h ++ [sl (g c) n, sl (h c) m] := by simp [rowCells, List.range_succ]
theorem rowCells_congr {n m c : Nat} {g h g' h' : Nat → Nat} (hg : ∀ k, k < c → g k = g' k) (hh : ∀ k, k < c → h k = h' k) : rowCells n m c g h = rowCells n m c g' h' := by
  unfold rowCells
  congr 1
  exact List.map_congr_left fun k hk => by rw [hg k (List.mem_range.1 hk), hh k (List.mem_range.1 hk)]
theorem rowCells_get (n m c : Nat) (g h : Nat → Nat) {k : Nat} (hk : k < c) : (rowCells n m c g h)[k * 2]? = some (sl (g k) n) ∧ (rowCells n m c g h)[k * 2 + 1]? = some (sl (h k) m) := by
  have h0 := flatten_get 2 ((List.range c).map fun k => [sl (g k) n, sl (h k) m]) (by simp) k 0 (by omega) (by simpa using hk)
  have h1 := flatten_get 2 ((List.range c).map fun k => [sl (g k) n, sl (h k) m]) (by simp) k 1 (by omega) (by simpa using hk)
  refine ⟨?_, ?_⟩
  · unfold rowCells; rw [show k * 2 = k * 2 + 0 by omega, h0]; simp
  · unfold rowCells; rw [h1]; simp

/-- c rows, each of a line of n numbers and one of m, all in blocks of their own. -/
structure MF (b w : World) (v : Value) (n m c : Nat) (g h : Nat → Nat) (L B : Nat → List Int) : Prop where
  own : Own b w 130 2 v c (rowCells n m c g h)
  gl : ∀ k, k < c → NewInts b w (g k) (L k) ∧ (L k).length = n
  hb : ∀ k, k < c → NewInts b w (h k) (B k) ∧ (B k).length = m
  gg : ∀ i j, i < c → j < c → g i = g j → i = j
  hh : ∀ i j, i < c → j < c → h i = h j → i = j
  gh : ∀ i j, i < c → j < c → g i ≠ h j

section
variable {b w w' : World} {v : Value} {n m c : Nat} {g h : Nat → Nat} {L B : Nat → List Int}
theorem MF.ext (hm : MF b w v n m c g h L B) : Ext b w := hm.own.ext
theorem MF.later (hm : MF b w v n m c g h L B) (he : Ext w w') : MF b w' v n m c g h L B :=
  ⟨hm.own.later he, fun k hk => ⟨(hm.gl k hk).1.later he, (hm.gl k hk).2⟩, fun k hk => ⟨(hm.hb k hk).1.later he, (hm.hb k hk).2⟩, hm.gg, hm.hh, hm.gh⟩
theorem MF.start (he : Ext b w) (n m : Nat) (g h : Nat → Nat) (L B : Nat → List Int) : MF b w (.slice none 0 0) n m 0 g h L B :=
  ⟨Own.nil' he _ _, fun k hk => by omega, fun k hk => by omega, fun i j hi => by omega, fun i j hi => by omega, fun i j hi => by omega⟩
theorem MF.apart_of {k : Nat} {xs : List Int} (hm : MF b w v n m c g h L B) (hk : NewInts b w k xs) : v.ownBlock ≠ some k := fun e => by
  rcases hm.own.2.2 with ⟨rfl, _⟩ | ⟨g', cap, cur, rfl, _, hh, _⟩
  · cases e
  · injection e with e
    simp only at e
    subst e
    have := hk.2.2
    rw [hh] at this
    injection this with this
    injection this with _ ht
    exact absurd ht (by decide)

/-- One row more. -/
theorem MF.append {w1 w2 : World} {v' : Value} {g0 h0 : Nat} {l bl : List Int} (hm : MF b w v n m c g h L B) (he : Ext w w1) (hg : NewInts w w1 g0 l) (hh : NewInts w w1 h0 bl) (hne : g0 ≠ h0) (hl : l.length = n) (hb : bl.length = m)
    (ho : Own b w2 130 2 v' (c + 1) (rowCells n m c g h ++ [sl g0 n, sl h0 m])) (hgr : w1.grownBy w2 v.ownBlock) (hLc : L c = l) (hBc : B c = bl) :
    MF b w2 v' n m (c + 1) (fun k => if k = c then g0 else g k) (fun k => if k = c then h0 else h k) L B := by
  have hbw : Ext b w := hm.own.ext
  have keep : ∀ k, k < w1.heap.size → v.ownBlock ≠ some k → w2.heap[k]? = w1.heap[k]? := fun k hk hv => hgr.block k hk (fun e => hv e.symm)
  have hv1 : ∀ k, w.heap.size ≤ k → v.ownBlock ≠ some k := fun k hk e => by
    have := (hm.own.2.lt k e).2
    omega
  have old : ∀ {k : Nat} {xs : List Int}, NewInts b w k xs → NewInts b w2 k xs := fun {k xs} hk =>
    ⟨ho.ext, hk.2.1, by rw [keep _ (Nat.lt_of_lt_of_le hk.lt he.le) (hm.apart_of hk)]; exact he.heap hk.2.2⟩
  have new : ∀ {k : Nat} {xs : List Int}, NewInts w w1 k xs → NewInts b w2 k xs := fun {k xs} hk =>
    ⟨ho.ext, Nat.le_trans hbw.le hk.2.1, by rw [keep _ hk.lt (hv1 _ hk.2.1)]; exact hk.2.2⟩
  have lt : ∀ {k : Nat} {xs : List Int}, NewInts b w k xs → k < w.heap.size := fun hk => hk.lt
  refine ⟨?_, fun k hk => ?_, fun k hk => ?_, fun i j hi hj e => ?_, fun i j hi hj e => ?_, fun i j hi hj e => ?_⟩
  · rw [rowCells_succ, if_pos rfl, if_pos rfl]
    have : rowCells n m c (fun k => if k = c then g0 else g k) (fun k => if k = c then h0 else h k) = rowCells n m c g h := rowCells_congr (fun k hk => by rw [if_neg (by omega)]) (fun k hk => by rw [if_neg (by omega)])
    rw [this]; exact ho
  · by_cases e : k = c
    · subst e; rw [if_pos rfl, hLc]; exact ⟨new hg, hl⟩
    · rw [if_neg e]; exact ⟨old (hm.gl k (by omega)).1, (hm.gl k (by omega)).2⟩
  · by_cases e : k = c
    · subst e; rw [if_pos rfl, hBc]; exact ⟨new hh, hb⟩
    · rw [if_neg e]; exact ⟨old (hm.hb k (by omega)).1, (hm.hb k (by omega)).2⟩
  · by_cases e1 : i = c <;> by_cases e2 : j = c <;> simp only [e1, e2, if_true, if_false] at e ⊢
    · have h1 := lt (hm.gl j (by omega)).1; have h2 := hg.2.1; omega
    · have h1 := lt (hm.gl i (by omega)).1; have h2 := hg.2.1; omega
    · exact hm.gg i j (by omega) (by omega) e
  · by_cases e1 : i = c <;> by_cases e2 : j = c <;> simp only [e1, e2, if_true, if_false] at e ⊢
    · have h1 := lt (hm.hb j (by omega)).1; have h2 := hh.2.1; omega
    · have h1 := lt (hm.hb i (by omega)).1; have h2 := hh.2.1; omega
    · exact hm.hh i j (by omega) (by omega) e
  · by_cases e1 : i = c <;> by_cases e2 : j = c <;> simp only [e1, e2, if_true, if_false] at e
    · exact hne e
    · have h1 := lt (hm.hb j (by omega)).1; have h2 := hg.2.1; omega
    · have h1 := lt (hm.gl i (by omega)).1; have h2 := hh.2.1; omega
    · exact hm.gh i j (by omega) (by omega) e

/-- A number of row k's line is stored. -/
theorem MF.storeL (hm : MF b w v n m c g h L B) {k : Nat} (hk : k < c) (hn : n ≤ 1000000) (hmm : m ≤ 1000000) (j : Nat) (x : Int) :
    MF b (w.setCell ⟨g k, j, none⟩ (vint x)) v n m c g h (fun i => if i = k then (L k).set j x else L i) B := by
  have hlk := hm.gl k hk
  refine ⟨hm.own.other hlk.1.2.1 (hm.apart_of hlk.1) _, fun i hi => ?_, fun i hi => ?_, hm.gg, hm.hh, hm.gh⟩
  · by_cases e : i = k
    · subst e; rw [if_pos rfl]
      exact ⟨hlk.1.store (by rw [hlk.2]; unfold maxLen; omega) j x, by simp [hlk.2]⟩
    · rw [if_neg e]
      have hi' := hm.gl i hi
      exact ⟨hi'.1.other (p := ⟨g k, j, none⟩) (by rw [hi'.2]; unfold maxLen; omega) hlk.1.2.1 (fun e' => e (hm.gg i k hi hk e'.symm)) _, hi'.2⟩
  · have hi' := hm.hb i hi
    exact ⟨hi'.1.other (p := ⟨g k, j, none⟩) (by rw [hi'.2]; unfold maxLen; omega) hlk.1.2.1 (fun e' => hm.gh k i hk hi e') _, hi'.2⟩
/-- .. of its other line. -/
theorem MF.storeB (hm : MF b w v n m c g h L B) {k : Nat} (hk : k < c) (hn : n ≤ 1000000) (hmm : m ≤ 1000000) (j : Nat) (x : Int) :
    MF b (w.setCell ⟨h k, j, none⟩ (vint x)) v n m c g h L (fun i => if i = k then (B k).set j x else B i) := by
  have hlk := hm.hb k hk
  refine ⟨hm.own.other hlk.1.2.1 (hm.apart_of hlk.1) _, fun i hi => ?_, fun i hi => ?_, hm.gg, hm.hh, hm.gh⟩
  · have hi' := hm.gl i hi
    exact ⟨hi'.1.other (p := ⟨h k, j, none⟩) (by rw [hi'.2]; unfold maxLen; omega) hlk.1.2.1 (fun e' => hm.gh i k hi hk e'.symm) _, hi'.2⟩
  · by_cases e : i = k
    · subst e; rw [if_pos rfl]
      exact ⟨hlk.1.store (by rw [hlk.2]; unfold maxLen; omega) j x, by simp [hlk.2]⟩
    · rw [if_neg e]
      have hi' := hm.hb i hi
      exact ⟨hi'.1.other (p := ⟨h k, j, none⟩) (by rw [hi'.2]; unfold maxLen; omega) hlk.1.2.1 (fun e' => e (hm.hh i k hi hk e'.symm)) _, hi'.2⟩
/-- A store in a block that is none of these. -/
theorem MF.other (hm : MF b w v n m c g h L B) (hn : n ≤ 1000000) (hmm : m ≤ 1000000) {p : Addr} (hp : b.heap.size ≤ p.block) (hv : v.ownBlock ≠ some p.block) (h1 : ∀ k, k < c → p.block ≠ g k) (h2 : ∀ k, k < c → p.block ≠ h k) (u : Value) :
    MF b (w.setCell p u) v n m c g h L B :=
  ⟨hm.own.other hp hv u, fun k hk => ⟨(hm.gl k hk).1.other (by rw [(hm.gl k hk).2]; unfold maxLen; omega) hp (h1 k hk) u, (hm.gl k hk).2⟩,
    fun k hk => ⟨(hm.hb k hk).1.other (by rw [(hm.hb k hk).2]; unfold maxLen; omega) hp (h2 k hk) u, (hm.hb k hk).2⟩, hm.gg, hm.hh, hm.gh⟩
theorem MF.congr (hm : MF b w v n m c g h L B) {L' B' : Nat → List Int} (hL : ∀ k, k < c → L k = L' k) (hB : ∀ k, k < c → B k = B' k) : MF b w v n m c g h L' B' :=
  ⟨hm.own, fun k hk => by rw [← hL k hk]; exact hm.gl k hk, fun k hk => by rw [← hB k hk]; exact hm.hb k hk, hm.gg, hm.hh, hm.gh⟩
end

/-- A struct in a block of its own. -/
structure Bx (w : World) (k : Nat) (xs : List Value) : Prop where
  cell : ∀ j, j < xs.length → w.cell? ⟨k, j, none⟩ = xs[j]?
  free : ∀ j, w.frozen? ⟨k, j, none⟩ = false
  lt : k < w.heap.size
section
variable {w w' : World} {k : Nat} {xs : List Value}
theorem Bx.later (h : Bx w k xs) (he : Ext w w') : Bx w' k xs :=
  ⟨fun j hj => by have := h.cell j hj; rw [List.getElem?_eq_getElem hj] at this ⊢; exact he.cell this, fun j => (he.frozen h.lt).trans (h.free j), Nat.lt_of_lt_of_le h.lt he.le⟩
theorem Bx.other (h : Bx w k xs) {p : Addr} (hp : p.block ≠ k) (u : Value) : Bx (w.setCell p u) k xs :=
  ⟨fun j hj => by rw [World.cell?_setCell_other _ _ _ _ (fun e => hp (by rw [e]))]; exact h.cell j hj, fun j => by rw [World.frozen?_setCell]; exact h.free j, by simp; exact h.lt⟩
theorem Bx.grown (h : Bx w k xs) {row : Option Nat} (hg : w.grownBy w' row) (hr : row ≠ some k) : Bx w' k xs :=
  ⟨fun j hj => by rw [hg.cell_far ⟨k, j, none⟩ h.lt (fun e => hr e.symm)]; exact h.cell j hj, fun j => (hg.frozen_far ⟨k, j, none⟩ h.lt (fun e => hr e.symm)).trans (h.free j), Nat.lt_of_lt_of_le h.lt hg.size⟩
theorem Bx.set (h : Bx w k xs) {j : Nat} (hj : j < xs.length) (u : Value) : Bx (w.setCell ⟨k, j, none⟩ u) k (xs.set j u) := by
  refine ⟨fun i hi => ?_, fun i => by rw [World.frozen?_setCell]; exact h.free i, by simp; exact h.lt⟩
  simp only [List.length_set] at hi
  by_cases e : j = i
  · subst e
    have := h.cell j hj
    rw [List.getElem?_eq_getElem hj] at this
    rw [World.cell?_setCell_same _ _ _ this, List.getElem?_set_self hj]
  · rw [World.cell?_setCell_other _ _ _ _ (by simp), List.getElem?_set_ne e]
    exact h.cell i hi
theorem Bx.of_heap {cs : Array Value} {t : TypeId} (h : w.heap[k]? = some (.cells cs t)) : Bx w k cs.toList :=
  ⟨fun j hj => by rw [cell_heap h]; simp, fun j => frozen_heap h j, (Array.getElem?_eq_some_iff.1 h).1⟩
end
end Go.Proofs.YtebkhdhhajjhfaaGreat.Gr

/- solve: the lists of a row's numbers, the map's law, a shaft's factor. -/
namespace Go.Proofs.YtebkhdhhajjhfaaGreat.Gr
open Go.RowKit

def lineOf (M : Nat → Nat → Int) (n x : Nat) : List Int := (List.range n).map fun j => M x j
def byOf (M : Nat → Nat → Int) (n m x : Nat) : List Int := (List.range m).map fun j => M x (n + j)
def mixL (N M : Nat → Nat → Int) (n x j : Nat) : List Int := (List.range n).map fun i => if i < j then N x i else M x i
def mixB (N M : Nat → Nat → Int) (n m x j : Nat) : List Int := (List.range m).map fun i => if i < j then N x (n + i) else M x (n + i)
section
variable {N M : Nat → Nat → Int} {n m x j : Nat}
theorem lineOf_length : (lineOf M n x).length = n := by simp [lineOf]
theorem byOf_length : (byOf M n m x).length = m := by simp [byOf]
theorem mixL_length : (mixL N M n x j).length = n := by simp [mixL]
theorem mixB_length : (mixB N M n m x j).length = m := by simp [mixB]
theorem getI_lineOf (h : j < n) : getI (lineOf M n x) j = M x j := by simp [getI, lineOf, h]
theorem getI_byOf (h : j < m) : getI (byOf M n m x) j = M x (n + j) := by simp [getI, byOf, h]
theorem getI_mixL (h : j < n) : getI (mixL N M n x j) j = M x j := by simp [getI, mixL, h]
theorem getI_mixB (h : j < m) : getI (mixB N M n m x j) j = M x (n + j) := by simp [getI, mixB, h]
theorem mixL_zero : mixL N M n x 0 = lineOf M n x := by simp [mixL, lineOf]
theorem mixB_zero : mixB N M n m x 0 = byOf M n m x := by simp [mixB, byOf]
theorem mixL_all : mixL N M n x n = lineOf N n x := List.map_congr_left fun _ hi => if_pos (List.mem_range.1 hi)
theorem mixB_all : mixB N M n m x m = byOf N n m x := List.map_congr_left fun _ hi => if_pos (List.mem_range.1 hi)
theorem mixL_set (_h : j < n) : (mixL N M n x j).set j (N x j) = mixL N M n x (j + 1) := by
  refine List.ext_getElem (by simp [mixL]) fun i h1 h2 => ?_
  simp only [mixL, List.length_map, List.length_range] at h2
  by_cases e : j = i
  · subst e; simp [mixL]
  · rw [List.getElem_set_ne e]
    simp only [mixL, List.getElem_map, List.getElem_range]
    by_cases e2 : i < j
    · rw [if_pos e2, if_pos (by omega)]
    · rw [if_neg e2, if_neg (by omega)]
theorem mixB_set (_h : j < m) : (mixB N M n m x j).set j (N x (n + j)) = mixB N M n m x (j + 1) := by
  refine List.ext_getElem (by simp [mixB]) fun i h1 h2 => ?_
  simp only [mixB, List.length_map, List.length_range] at h2
  by_cases e : j = i
  · subst e; simp [mixB]
  · rw [List.getElem_set_ne e]
    simp only [mixB, List.getElem_map, List.getElem_range]
    by_cases e2 : i < j
    · rw [if_pos e2, if_pos (by omega)]
    · rw [if_neg e2, if_neg (by omega)]
end

theorem wf_nat (x : Nat) (hx : x ≤ 1000) : (Lit.int .i64 (x : Int)).wf = true := by
  have h1 : IntKind.i64.min = -9223372036854775808 := by decide
  have h2 : IntKind.i64.max = 9223372036854775807 := by decide
  simp [Lit.wf, h1, h2]
  omega

/-- The map holds each pivot column's number. -/
structure MapIs (D : DataW Unit) (cs : List Nat) : Prop where
  tidy : Maps.Tidy D
  has : ∀ c : Nat, Maps.has D (.int .i64 (c : Int)) = decide (c ∈ cs)
  at_ : ∀ k (h : k < cs.length), ∀ z, D.atKey (.int .i64 (cs[k] : Int)) z = .lit (.int .i64 (k : Int))
  size : Maps.size D = cs.length
theorem MapIs.start : MapIs (.map []) [] := ⟨Maps.tidy_empty, fun c => by simp [Maps.has], fun k h => by simp at h, rfl⟩
theorem isKey_nat (c : Nat) : WideAt.IsKeyLit (.int .i64 (c : Int)) := by simp [WideAt.IsKeyLit]
theorem MapIs.put {D : DataW Unit} {cs : List Nat} (h : MapIs D cs) {c : Nat} (hc : c ∉ cs) : MapIs (D.put (.int .i64 (c : Int)) (.lit (.int .i64 (cs.length : Int)))) (cs ++ [c]) := by
  have hk := isKey_nat c
  have hne : ∀ c' : Nat, c' ≠ c → (Lit.int .i64 (c' : Int)) ≠ .int .i64 (c : Int) := fun c' e e' => by injection e' with _ e'; omega
  refine ⟨h.tidy.put hk _, fun c' => ?_, fun k hk' z => ?_, ?_⟩
  · by_cases e : c' = c
    · subst e; rw [Maps.has_put_same h.tidy.isMap hk]; simp
    · rw [Maps.has_put_other (hne c' e), h.has]; simp [e]
  · by_cases e : k < cs.length
    · have : (cs ++ [c])[k] = cs[k] := List.getElem_append_left e
      rw [this, Maps.atKey_put_other (hne _ (fun e' => hc (e' ▸ List.getElem_mem e)))]
      exact h.at_ k e z
    · have e2 : k = cs.length := by simp at hk'; omega
      subst e2
      simp only [List.getElem_concat_length]
      exact Maps.atKey_put_same h.tidy.isMap hk _ _
  · rw [Maps.size_put h.tidy, h.has, h.size]
    simp [hc]

theorem at_any (A : Option Addr) (c k : Nat) (xs : List Int) (w : World) (hA : Ints w A xs) (hk : k < xs.length) :
    Calls Tryz.prog 53 #[.slice A xs.length c, .int .i64 k] w fun e w' => e = .returned (.int .i64 (getI xs k)) ∧ w = w' := by
  obtain ⟨ad, rfl, hc⟩ := hA.at_ hk
  have hi : (k : Int) < (xs.length : Int) := by omega
  generalize xs.length = n at *
  generalize getI xs k = x at *
  go_enter Tryz.func53, Tryz.ntmps53
  go_wp2
  go_ret
  exact ⟨rfl, rfl⟩
end Go.Proofs.YtebkhdhhajjhfaaGreat.Gr

/- solve: what lies beside the rows. -/
namespace Go.Proofs.YtebkhdhhajjhfaaGreat.Gr
open Go.RowKit

/-- The rows that come in, to be read. -/
def RIn (w : World) (A : Option Addr) (n m : Nat) (L B : Nat → List Int) : Prop := ∀ k, k < m → ∃ ad A1 A2, A = some ad ∧
  (∀ w', Ext w w' → w'.cell? (ad.add (k * 2)) = some (.slice A1 n n)) ∧ (∀ w', Ext w w' → w'.cell? ⟨(ad.add (k * 2)).block, (ad.add (k * 2)).off + 1, none⟩ = some (.slice A2 m m)) ∧
  (∀ w', Ext w w' → Ints w' A1 (L k)) ∧ (∀ w', Ext w w' → Ints w' A2 (B k)) ∧ (L k).length = n ∧ (B k).length = m

abbrev MapI (w : World) (mb cnt : Nat) (D : DataW Unit) : Prop := w.ownsMap Tryz.prog 3 (plainElem Tryz.prog 3) mb cnt D

/-- What lies beside the rows: the result's place, the map, the struct. -/
structure Fr (w : World) (g4 mb g5 : Nat) (v ord : Value) (d : Int) (cnt : Nat) (D : DataW Unit) : Prop where
  b4 : Bx w g4 [.slice none 0 0, .map none, .slice none 0 0, .int .i64 0]
  b5 : Bx w g5 [v, .map (some mb), ord, .int .i64 d]
  mp : MapI w mb cnt D
  e4 : g4 < mb
  e5 : mb < g5
structure Sep (g5 : Nat) (v : Value) (c : Nat) (g h : Nat → Nat) : Prop where
  v : ∀ k, v.ownBlock = some k → g5 < k
  g : ∀ k, k < c → g5 < g k
  h : ∀ k, k < c → g5 < h k

theorem Fr.later {w w' : World} {g4 mb g5 : Nat} {v ord : Value} {d : Int} {cnt : Nat} {D : DataW Unit} (h : Fr w g4 mb g5 v ord d cnt D) (he : Ext w w') : Fr w' g4 mb g5 v ord d cnt D := by
  refine ⟨h.b4.later he, h.b5.later he, ?_, h.e4, h.e5⟩
  obtain ⟨es, clock, hb, r⟩ := h.mp
  exact ⟨es, clock, he.heap hb, r⟩
theorem Fr.grown {w w' : World} {g4 mb g5 : Nat} {v ord : Value} {d : Int} {cnt : Nat} {D : DataW Unit} (h : Fr w g4 mb g5 v ord d cnt D) {row : Option Nat} (hg : w.grownBy w' row) (hr : ∀ k, row = some k → g5 < k) : Fr w' g4 mb g5 v ord d cnt D := by
  have e4 := h.e4
  have e5 := h.e5
  refine ⟨h.b4.grown hg (fun e => by have := hr _ e; omega), h.b5.grown hg (fun e => by have := hr _ e; omega), ?_, h.e4, h.e5⟩
  exact h.mp.kept hg (fun e => by have := hr _ e.symm; omega)
/-- A store behind all of these. -/
theorem Fr.other {w : World} {g4 mb g5 : Nat} {v ord : Value} {d : Int} {cnt : Nat} {D : DataW Unit} (h : Fr w g4 mb g5 v ord d cnt D) {p : Addr} (hp : g5 < p.block) (u : Value) : Fr (w.setCell p u) g4 mb g5 v ord d cnt D := by
  have e4 := h.e4
  have e5 := h.e5
  exact ⟨h.b4.other (by omega) u, h.b5.other (by omega) u, h.mp.setCell (by omega) u, h.e4, h.e5⟩
theorem Fr.setRows {w : World} {g4 mb g5 : Nat} {v ord : Value} {d : Int} {cnt : Nat} {D : DataW Unit} (h : Fr w g4 mb g5 v ord d cnt D) (v' : Value) : Fr (w.setCell ⟨g5, 0, none⟩ v') g4 mb g5 v' ord d cnt D := by
  have e4 := h.e4
  have e5 := h.e5
  refine ⟨h.b4.other (p := ⟨g5, 0, none⟩) (by simp only; omega) _, ?_, h.mp.setCell (a := ⟨g5, 0, none⟩) (by simp only; omega) _, h.e4, h.e5⟩
  have := h.b5.set (j := 0) (by simp) v'
  simpa using this


theorem Fr.pivot {w w2 : World} {g4 mb g5 : Nat} {v ord : Value} {d : Int} {cnt cnt2 : Nat} {D D2 : DataW Unit} (h : Fr w g4 mb g5 v ord d cnt D) (hown : MapI w2 mb cnt2 D2) (hg : w.grownBy w2 (some mb)) (p : Int) :
    Fr (w2.setCell ⟨g5, 3, none⟩ (.int .i64 p)) g4 mb g5 v ord p cnt2 D2 := by
  have e4 := h.e4
  have e5 := h.e5
  refine ⟨(h.b4.grown hg (fun e => by have := Option.some.inj e; omega)).other (p := ⟨g5, 3, none⟩) (by first | omega | (simp only; omega)) _, ?_, hown.setCell (a := ⟨g5, 3, none⟩) (by first | omega | (simp only; omega)) _, h.e4, h.e5⟩
  have := (h.b5.grown hg (fun e => by have := Option.some.inj e; omega)).set (j := 3) (by simp) (.int .i64 p)
  simpa using this

/-- Another block turns. -/
theorem MF.grown {b w w' : World} {v : Value} {n m c : Nat} {g h : Nat → Nat} {L B : Nat → List Int} (hm : MF b w v n m c g h L B) {k : Nat} (hg : w.grownBy w' (some k)) (hk : b.heap.size ≤ k) (hv : v.ownBlock ≠ some k) (h1 : ∀ i, i < c → g i ≠ k) (h2 : ∀ i, i < c → h i ≠ k) :
    MF b w' v n m c g h L B := by
  have hx : Ext b w' := hm.ext.grown hg (fun j e => by have := Option.some.inj e; omega)
  have old : ∀ {j : Nat} {xs : List Int}, NewInts b w j xs → j ≠ k → NewInts b w' j xs := fun {j xs} hj hne => ⟨hx, hj.2.1, (hg.block j hj.lt (fun e => hne (Option.some.inj e))).trans hj.2.2⟩
  exact ⟨⟨hx, hm.own.2.kept hg (.inr hv)⟩, fun i hi => ⟨old (hm.gl i hi).1 (h1 i hi), (hm.gl i hi).2⟩, fun i hi => ⟨old (hm.hb i hi).1 (h2 i hi), (hm.hb i hi).2⟩, hm.gg, hm.hh, hm.gh⟩
end Go.Proofs.YtebkhdhhajjhfaaGreat.Gr

/- Rows exchanged in memory. No program in sight but the table of types. -/
namespace Go.Proofs.YtebkhdhhajjhfaaGreat.Gr
open Go.RowKit

theorem rowCells_swap (n m c : Nat) (g h : Nat → Nat) {a b : Nat} (ha : a < c) (hb : b < c) :
    ((((rowCells n m c g h).set (a * 2) (sl (g b) n)).set (a * 2 + 1) (sl (h b) m)).set (b * 2) (sl (g a) n)).set (b * 2 + 1) (sl (h a) m) = rowCells n m c (swapF g a b) (swapF h a b) := by
  refine List.ext_getElem? fun i => ?_
  by_cases hi : i < c * 2
  · obtain ⟨k, hk⟩ : ∃ k, k = i / 2 := ⟨_, rfl⟩
    have hkc : k < c := by omega
    obtain ⟨g0, g1⟩ := rowCells_get n m c g h hkc
    obtain ⟨s0, s1⟩ := rowCells_get n m c (swapF g a b) (swapF h a b) hkc
    have hl := rowCells_len n m c g h
    rcases (by omega : i = k * 2 ∨ i = k * 2 + 1) with rfl | rfl
    · rw [s0, List.getElem?_set_ne (by omega)]
      by_cases e1 : k = b
      · subst e1
        rw [List.getElem?_set_self (by simp [hl]; omega)]
        unfold swapF
        by_cases e2 : k = a
        · subst e2; simp
        · rw [if_neg e2, if_pos rfl]
      · rw [List.getElem?_set_ne (by omega), List.getElem?_set_ne (by omega)]
        by_cases e2 : k = a
        · subst e2
          rw [List.getElem?_set_self (by omega)]
          unfold swapF; rw [if_pos rfl]
        · rw [List.getElem?_set_ne (by omega), g0]
          unfold swapF; rw [if_neg e2, if_neg e1]
    · rw [s1]
      by_cases e1 : k = b
      · subst e1
        rw [List.getElem?_set_self (by simp [hl]; omega)]
        unfold swapF
        by_cases e2 : k = a
        · subst e2; simp
        · rw [if_neg e2, if_pos rfl]
      · rw [List.getElem?_set_ne (by omega), List.getElem?_set_ne (by omega)]
        by_cases e2 : k = a
        · subst e2
          rw [List.getElem?_set_self (by simp [hl]; omega)]
          unfold swapF; rw [if_pos rfl]
        · rw [List.getElem?_set_ne (by omega), List.getElem?_set_ne (by omega), g1]
          unfold swapF; rw [if_neg e2, if_neg e1]
  · rw [List.getElem?_eq_none (by simp [rowCells_len]; omega), List.getElem?_eq_none (by rw [rowCells_len]; omega)]

theorem swapF_lt {σ : Nat → Nat} {a b c k : Nat} (ha : a < c) (hb : b < c) (hk : k < c) : ∃ k', k' < c ∧ swapF σ a b k = σ k' := by
  unfold swapF
  split
  · exact ⟨b, hb, rfl⟩
  · split
    · exact ⟨a, ha, rfl⟩
    · exact ⟨k, hk, rfl⟩
theorem swapF_inj {σ : Nat → Nat} {a b c : Nat} (ha : a < c) (hb : b < c) (h : ∀ i j, i < c → j < c → σ i = σ j → i = j) : ∀ i j, i < c → j < c → swapF σ a b i = swapF σ a b j → i = j := by
  intro i j hi hj e
  unfold swapF at e
  by_cases a1 : i = a <;> by_cases b1 : j = a <;> by_cases a2 : i = b <;> by_cases b2 : j = b <;> simp only [a1, b1, a2, b2, if_true, if_false] at e <;> (try omega)
  all_goals
    first
      | (have := h _ _ (by omega) (by omega) e; omega)
      | (split at e <;> (try split at e) <;> (have := h _ _ (by omega) (by omega) e; omega))

theorem MF.swap {b0 w : World} {gv cv n m c : Nat} {g h : Nat → Nat} {F G : Nat → List Int} {σ : Nat → Nat} (hm : MF b0 w (.slice (some ⟨gv, 0, none⟩) c cv) n m c g h (fun k => F (σ k)) (fun k => G (σ k))) {a b : Nat} (ha : a < c) (hb : b < c) (hn : n ≤ 1000000) (hmm : m ≤ 1000000) :
    MF b0 ((((w.setCell ⟨gv, a * 2, none⟩ (sl (g b) n)).setCell ⟨gv, a * 2 + 1, none⟩ (sl (h b) m)).setCell ⟨gv, b * 2, none⟩ (sl (g a) n)).setCell ⟨gv, b * 2 + 1, none⟩ (sl (h a) m)) (.slice (some ⟨gv, 0, none⟩) c cv) n m c (swapF g a b) (swapF h a b) (fun k => F (swapF σ a b k)) (fun k => G (swapF σ a b k)) := by
  have hge := hm.own.ge
  have hgv : ∀ k, k < c → gv ≠ g k := fun k hk e => hm.apart_of (hm.gl k hk).1 (by simp [Value.ownBlock, e])
  have hhv : ∀ k, k < c → gv ≠ h k := fun k hk e => hm.apart_of (hm.hb k hk).1 (by simp [Value.ownBlock, e])
  have keep : ∀ {k : Nat} {xs : List Int} {W : World} (j : Nat) (u : Value), NewInts b0 W k xs → xs.length ≤ maxLen → gv ≠ k → NewInts b0 (W.setCell ⟨gv, j, none⟩ u) k xs := fun {k xs W} j u h1 h2 h3 => h1.other (p := ⟨gv, j, none⟩) h2 hge h3 u
  have g1 : ∀ k, k < c → NewInts b0 ((((w.setCell ⟨gv, a * 2, none⟩ (sl (g b) n)).setCell ⟨gv, a * 2 + 1, none⟩ (sl (h b) m)).setCell ⟨gv, b * 2, none⟩ (sl (g a) n)).setCell ⟨gv, b * 2 + 1, none⟩ (sl (h a) m)) (g k) (F (σ k)) ∧ (F (σ k)).length = n := fun k hk => by
    obtain ⟨h1, h2⟩ := hm.gl k hk
    have hl : (F (σ k)).length ≤ maxLen := by rw [h2]; unfold maxLen; omega
    exact ⟨keep _ _ (keep _ _ (keep _ _ (keep _ _ h1 hl (hgv k hk)) hl (hgv k hk)) hl (hgv k hk)) hl (hgv k hk), h2⟩
  have h1 : ∀ k, k < c → NewInts b0 ((((w.setCell ⟨gv, a * 2, none⟩ (sl (g b) n)).setCell ⟨gv, a * 2 + 1, none⟩ (sl (h b) m)).setCell ⟨gv, b * 2, none⟩ (sl (g a) n)).setCell ⟨gv, b * 2 + 1, none⟩ (sl (h a) m)) (h k) (G (σ k)) ∧ (G (σ k)).length = m := fun k hk => by
    obtain ⟨h1, h2⟩ := hm.hb k hk
    have hl : (G (σ k)).length ≤ maxLen := by rw [h2]; unfold maxLen; omega
    exact ⟨keep _ _ (keep _ _ (keep _ _ (keep _ _ h1 hl (hhv k hk)) hl (hhv k hk)) hl (hhv k hk)) hl (hhv k hk), h2⟩
  have both : ∀ k, k < c → ∃ k', k' < c ∧ swapF g a b k = g k' ∧ swapF h a b k = h k' ∧ swapF σ a b k = σ k' := fun k hk => by
    unfold swapF
    by_cases e1 : k = a
    · exact ⟨b, hb, by rw [if_pos e1], by rw [if_pos e1], by rw [if_pos e1]⟩
    · by_cases e2 : k = b
      · exact ⟨a, ha, by rw [if_neg e1, if_pos e2], by rw [if_neg e1, if_pos e2], by rw [if_neg e1, if_pos e2]⟩
      · exact ⟨k, hk, by rw [if_neg e1, if_neg e2], by rw [if_neg e1, if_neg e2], by rw [if_neg e1, if_neg e2]⟩
  refine ⟨?_, fun k hk => ?_, fun k hk => ?_, swapF_inj ha hb hm.gg, swapF_inj ha hb hm.hh, fun i j hi hj => ?_⟩
  · rw [← rowCells_swap n m c g h ha hb]
    exact (((hm.own.store _ _).store _ _).store _ _).store _ _
  · obtain ⟨k', hk', e1, _, e3⟩ := both k hk
    rw [e1, e3]; exact g1 k' hk'
  · obtain ⟨k', hk', _, e2, e3⟩ := both k hk
    rw [e2, e3]; exact h1 k' hk'
  · obtain ⟨i', hi', e1, _, _⟩ := both i hi
    obtain ⟨j', hj', _, e2, _⟩ := both j hj
    rw [e1, e2]; exact hm.gh i' j' hi' hj'
end Go.Proofs.YtebkhdhhajjhfaaGreat.Gr

/- math/bits: the number of bits of a word. -/
namespace Go.Proofs.YtebkhdhhajjhfaaGreat.Gr
open Go.RowKit

def lenT (v : Nat) : Nat := if v = 0 then 0 else Nat.log2 v + 1
def tabT : ByteArray := ⟨#[0, 1, 2, 2, 3, 3, 3, 3, 4, 4, 4, 4, 4, 4, 4, 4, 5, 5, 5, 5, 5, 5, 5, 5, 5, 5, 5, 5, 5, 5, 5, 5, 6, 6, 6, 6, 6, 6, 6, 6, 6, 6, 6, 6, 6, 6, 6, 6, 6, 6, 6, 6, 6, 6, 6, 6, 6, 6, 6, 6, 6, 6, 6, 6, 7, 7, 7, 7, 7, 7, 7, 7, 7, 7, 7, 7, 7, 7, 7, 7, 7, 7, 7, 7, 7, 7, 7, 7, 7, 7, 7, 7, 7, 7, 7, 7, 7, 7, 7, 7, 7, 7, 7, 7, 7, 7, 7, 7, 7, 7, 7, 7, 7, 7, 7, 7, 7, 7, 7, 7, 7, 7, 7, 7, 7, 7, 7, 7, 8, 8, 8, 8, 8, 8, 8, 8, 8, 8, 8, 8, 8, 8, 8, 8, 8, 8, 8, 8, 8, 8, 8, 8, 8, 8, 8, 8, 8, 8, 8, 8, 8, 8, 8, 8, 8, 8, 8, 8, 8, 8, 8, 8, 8, 8, 8, 8, 8, 8, 8, 8, 8, 8, 8, 8, 8, 8, 8, 8, 8, 8, 8, 8, 8, 8, 8, 8, 8, 8, 8, 8, 8, 8, 8, 8, 8, 8, 8, 8, 8, 8, 8, 8, 8, 8, 8, 8, 8, 8, 8, 8, 8, 8, 8, 8, 8, 8, 8, 8, 8, 8, 8, 8, 8, 8, 8, 8, 8, 8, 8, 8, 8, 8, 8, 8, 8, 8, 8, 8, 8, 8, 8, 8, 8, 8, 8, 8]⟩
set_option maxRecDepth 100000 in
theorem tabT_at : ∀ x : Fin 256, (tabT.data[x.val]'(x.isLt)).toNat = lenT x.val ∧ (1 ≤ x.val → 1 ≤ lenT x.val ∧ 2 ^ (lenT x.val - 1) ≤ x.val ∧ x.val < 2 ^ lenT x.val ∧ lenT x.val ≤ 8) := by decide +kernel

theorem wrap64_small {a : Int} (h0 : 0 ≤ a) (h : a ≤ 1000) : wrap64 a = a := by
  unfold wrap64
  omega

theorem len_back {x n v L : Nat} (hv : v = x / 2 ^ n) (h : 1 ≤ L ∧ 2 ^ (L - 1) ≤ v ∧ v < 2 ^ L) : 1 ≤ n + L ∧ 2 ^ (n + L - 1) ≤ x ∧ x < 2 ^ (n + L) := by
  subst hv
  obtain ⟨h1, h2, h3⟩ := h
  refine ⟨by omega, ?_, ?_⟩
  · rw [show n + L - 1 = (L - 1) + n by omega, Nat.pow_add]
    exact (Nat.le_div_iff_mul_le (Nat.two_pow_pos n)).1 h2
  · rw [Nat.add_comm, Nat.pow_add]
    exact (Nat.div_lt_iff_lt_mul (Nat.two_pow_pos n)).1 h3

theorem wrapT {t L n : Nat} {N : Int} (h : t = L) (hN : N = n) (hL : L ≤ 8) (hn : n ≤ 56) : wrap64 (N + wrap64 (t : Int)) = ((n + L : Nat) : Int) := by
  rw [wrap64_small (a := (t : Int)) (by omega) (by omega), wrap64_small (by omega) (by omega)]
  omega
theorem wrapT0 {t L : Nat} (h : t = L) (hL : L ≤ 8) : wrap64 (wrap64 (t : Int)) = ((0 + L : Nat) : Int) := by
  rw [wrap64_small (a := (t : Int)) (by omega) (by omega), wrap64_small (by omega) (by omega)]
  omega

set_option maxRecDepth 100000 in
set_option maxHeartbeats 4000000 in
theorem len64_any (x : Nat) (w : World) (hx : x < 18446744073709551616) (h1 : 1 ≤ x) :
    Calls Tryz.prog 156 #[.int .u64 x] w fun e w' => ∃ L : Nat, e = .returned (.int .i64 L) ∧ (1 ≤ L ∧ 2 ^ (L - 1) ≤ x ∧ x < 2 ^ L) ∧ w = w' := by
  by_cases c0 : x < 4294967296
  · have d0 : decide ((4294967296 : Int) ≤ ((x : Nat) : Int)) = false := by simp; omega
    by_cases c1 : x < 65536
    · have d1 : decide ((65536 : Int) ≤ ((x : Nat) : Int)) = false := by simp; omega
      by_cases c2 : x < 256
      · have d2 : decide ((256 : Int) ≤ ((x : Nat) : Int)) = false := by simp; omega
        have hv1 : 1 ≤ x := by omega
        obtain ⟨t1, t2⟩ := tabT_at ⟨x, c2⟩
        simp only at t1
        have t3 : 1 ≤ lenT x ∧ 2 ^ (lenT x - 1) ≤ x ∧ x < 2 ^ lenT x ∧ lenT x ≤ 8 := t2 hv1
        have T1 := Lib.hid t1
        have T3 := Lib.hid t3
        clear t1 t2 t3 hv1
        go_enter Tryz.func156, Tryz.ntmps156
        go_wp2
        go_ret
        refine ⟨0 + lenT x, ?_, ?_, rfl⟩
        · exact congrArg (fun z => Ending.returned (Value.int .i64 z)) (wrapT0 T1.out T3.out.2.2.2)
        · have t3 := T3.out
          have t4 : 1 ≤ lenT x ∧ 2 ^ (lenT x - 1) ≤ x ∧ x < 2 ^ lenT x := ⟨t3.1, t3.2.1, t3.2.2.1⟩
          rw [Nat.zero_add]
          exact t4
      · have d2 : decide ((256 : Int) ≤ ((x : Nat) : Int)) = true := by simp; omega
        obtain ⟨v, hv⟩ : ∃ v, v = x / 2 ^ 8 := ⟨_, rfl⟩
        have s2 : ((x : Nat) : Int) / 256 = (v : Int) := by rw [hv]; omega
        have b2 : 1 ≤ v ∧ v < 256 := by rw [hv]; omega
        have Hv := Lib.hid hv
        clear hv
        have c2 := b2.2
        have hv1 : 1 ≤ v := by omega
        obtain ⟨t1, t2⟩ := tabT_at ⟨v, c2⟩
        simp only at t1
        have t3 : 1 ≤ lenT v ∧ 2 ^ (lenT v - 1) ≤ v ∧ v < 2 ^ lenT v ∧ lenT v ≤ 8 := t2 hv1
        have T1 := Lib.hid t1
        have T3 := Lib.hid t3
        clear t1 t2 t3 hv1
        go_enter Tryz.func156, Tryz.ntmps156
        go_wp2
        go_ret
        refine ⟨8 + lenT v, ?_, ?_, rfl⟩
        · exact congrArg (fun z => Ending.returned (Value.int .i64 z)) (wrapT T1.out rfl T3.out.2.2.2 (by omega))
        · have t3 := T3.out
          have t4 : 1 ≤ lenT v ∧ 2 ^ (lenT v - 1) ≤ v ∧ v < 2 ^ lenT v := ⟨t3.1, t3.2.1, t3.2.2.1⟩
          have v_ := len_back (n := 8) Hv.out t4
          exact v_
    · have d1 : decide ((65536 : Int) ≤ ((x : Nat) : Int)) = true := by simp; omega
      obtain ⟨z, hz⟩ : ∃ z, z = x / 2 ^ 16 := ⟨_, rfl⟩
      have s1 : ((x : Nat) : Int) / 65536 = (z : Int) := by rw [hz]; omega
      have b1 : 1 ≤ z ∧ z < 65536 := by rw [hz]; omega
      have Hz := Lib.hid hz
      clear hz
      by_cases c2 : z < 256
      · have d2 : decide ((256 : Int) ≤ ((z : Nat) : Int)) = false := by simp; omega
        have hv1 : 1 ≤ z := by omega
        obtain ⟨t1, t2⟩ := tabT_at ⟨z, c2⟩
        simp only at t1
        have t3 : 1 ≤ lenT z ∧ 2 ^ (lenT z - 1) ≤ z ∧ z < 2 ^ lenT z ∧ lenT z ≤ 8 := t2 hv1
        have T1 := Lib.hid t1
        have T3 := Lib.hid t3
        clear t1 t2 t3 hv1
        go_enter Tryz.func156, Tryz.ntmps156
        go_wp2
        go_ret
        refine ⟨16 + lenT z, ?_, ?_, rfl⟩
        · exact congrArg (fun z => Ending.returned (Value.int .i64 z)) (wrapT T1.out rfl T3.out.2.2.2 (by omega))
        · have t3 := T3.out
          have t4 : 1 ≤ lenT z ∧ 2 ^ (lenT z - 1) ≤ z ∧ z < 2 ^ lenT z := ⟨t3.1, t3.2.1, t3.2.2.1⟩
          have z_ := len_back (n := 16) Hz.out t4
          exact z_
      · have d2 : decide ((256 : Int) ≤ ((z : Nat) : Int)) = true := by simp; omega
        obtain ⟨v, hv⟩ : ∃ v, v = z / 2 ^ 8 := ⟨_, rfl⟩
        have s2 : ((z : Nat) : Int) / 256 = (v : Int) := by rw [hv]; omega
        have b2 : 1 ≤ v ∧ v < 256 := by rw [hv]; omega
        have Hv := Lib.hid hv
        clear hv
        have c2 := b2.2
        have hv1 : 1 ≤ v := by omega
        obtain ⟨t1, t2⟩ := tabT_at ⟨v, c2⟩
        simp only at t1
        have t3 : 1 ≤ lenT v ∧ 2 ^ (lenT v - 1) ≤ v ∧ v < 2 ^ lenT v ∧ lenT v ≤ 8 := t2 hv1
        have T1 := Lib.hid t1
        have T3 := Lib.hid t3
        clear t1 t2 t3 hv1
        go_enter Tryz.func156, Tryz.ntmps156
        go_wp2
        go_ret
        refine ⟨24 + lenT v, ?_, ?_, rfl⟩
        · exact congrArg (fun z => Ending.returned (Value.int .i64 z)) (wrapT T1.out rfl T3.out.2.2.2 (by omega))
        · have t3 := T3.out
          have t4 : 1 ≤ lenT v ∧ 2 ^ (lenT v - 1) ≤ v ∧ v < 2 ^ lenT v := ⟨t3.1, t3.2.1, t3.2.2.1⟩
          have v_ := len_back (n := 8) Hv.out t4
          have z_ := len_back (n := 16) Hz.out v_
          have ee : 24 + lenT v = 16 + (8 + (lenT v)) := by omega
          rw [ee]
          exact z_
  · have d0 : decide ((4294967296 : Int) ≤ ((x : Nat) : Int)) = true := by simp; omega
    obtain ⟨y, hy⟩ : ∃ y, y = x / 2 ^ 32 := ⟨_, rfl⟩
    have s0 : ((x : Nat) : Int) / 4294967296 = (y : Int) := by rw [hy]; omega
    have b0 : 1 ≤ y ∧ y < 4294967296 := by rw [hy]; omega
    have Hy := Lib.hid hy
    clear hy
    by_cases c1 : y < 65536
    · have d1 : decide ((65536 : Int) ≤ ((y : Nat) : Int)) = false := by simp; omega
      by_cases c2 : y < 256
      · have d2 : decide ((256 : Int) ≤ ((y : Nat) : Int)) = false := by simp; omega
        have hv1 : 1 ≤ y := by omega
        obtain ⟨t1, t2⟩ := tabT_at ⟨y, c2⟩
        simp only at t1
        have t3 : 1 ≤ lenT y ∧ 2 ^ (lenT y - 1) ≤ y ∧ y < 2 ^ lenT y ∧ lenT y ≤ 8 := t2 hv1
        have T1 := Lib.hid t1
        have T3 := Lib.hid t3
        clear t1 t2 t3 hv1
        go_enter Tryz.func156, Tryz.ntmps156
        go_wp2
        go_ret
        refine ⟨32 + lenT y, ?_, ?_, rfl⟩
        · exact congrArg (fun z => Ending.returned (Value.int .i64 z)) (wrapT T1.out rfl T3.out.2.2.2 (by omega))
        · have t3 := T3.out
          have t4 : 1 ≤ lenT y ∧ 2 ^ (lenT y - 1) ≤ y ∧ y < 2 ^ lenT y := ⟨t3.1, t3.2.1, t3.2.2.1⟩
          have y_ := len_back (n := 32) Hy.out t4
          exact y_
      · have d2 : decide ((256 : Int) ≤ ((y : Nat) : Int)) = true := by simp; omega
        obtain ⟨v, hv⟩ : ∃ v, v = y / 2 ^ 8 := ⟨_, rfl⟩
        have s2 : ((y : Nat) : Int) / 256 = (v : Int) := by rw [hv]; omega
        have b2 : 1 ≤ v ∧ v < 256 := by rw [hv]; omega
        have Hv := Lib.hid hv
        clear hv
        have c2 := b2.2
        have hv1 : 1 ≤ v := by omega
        obtain ⟨t1, t2⟩ := tabT_at ⟨v, c2⟩
        simp only at t1
        have t3 : 1 ≤ lenT v ∧ 2 ^ (lenT v - 1) ≤ v ∧ v < 2 ^ lenT v ∧ lenT v ≤ 8 := t2 hv1
        have T1 := Lib.hid t1
        have T3 := Lib.hid t3
        clear t1 t2 t3 hv1
        go_enter Tryz.func156, Tryz.ntmps156
        go_wp2
        go_ret
        refine ⟨40 + lenT v, ?_, ?_, rfl⟩
        · exact congrArg (fun z => Ending.returned (Value.int .i64 z)) (wrapT T1.out rfl T3.out.2.2.2 (by omega))
        · have t3 := T3.out
          have t4 : 1 ≤ lenT v ∧ 2 ^ (lenT v - 1) ≤ v ∧ v < 2 ^ lenT v := ⟨t3.1, t3.2.1, t3.2.2.1⟩
          have v_ := len_back (n := 8) Hv.out t4
          have y_ := len_back (n := 32) Hy.out v_
          have ee : 40 + lenT v = 32 + (8 + (lenT v)) := by omega
          rw [ee]
          exact y_
    · have d1 : decide ((65536 : Int) ≤ ((y : Nat) : Int)) = true := by simp; omega
      obtain ⟨z, hz⟩ : ∃ z, z = y / 2 ^ 16 := ⟨_, rfl⟩
      have s1 : ((y : Nat) : Int) / 65536 = (z : Int) := by rw [hz]; omega
      have b1 : 1 ≤ z ∧ z < 65536 := by rw [hz]; omega
      have Hz := Lib.hid hz
      clear hz
      by_cases c2 : z < 256
      · have d2 : decide ((256 : Int) ≤ ((z : Nat) : Int)) = false := by simp; omega
        have hv1 : 1 ≤ z := by omega
        obtain ⟨t1, t2⟩ := tabT_at ⟨z, c2⟩
        simp only at t1
        have t3 : 1 ≤ lenT z ∧ 2 ^ (lenT z - 1) ≤ z ∧ z < 2 ^ lenT z ∧ lenT z ≤ 8 := t2 hv1
        have T1 := Lib.hid t1
        have T3 := Lib.hid t3
        clear t1 t2 t3 hv1
        go_enter Tryz.func156, Tryz.ntmps156
        go_wp2
        go_ret
        refine ⟨48 + lenT z, ?_, ?_, rfl⟩
        · exact congrArg (fun z => Ending.returned (Value.int .i64 z)) (wrapT T1.out rfl T3.out.2.2.2 (by omega))
        · have t3 := T3.out
          have t4 : 1 ≤ lenT z ∧ 2 ^ (lenT z - 1) ≤ z ∧ z < 2 ^ lenT z := ⟨t3.1, t3.2.1, t3.2.2.1⟩
          have z_ := len_back (n := 16) Hz.out t4
          have y_ := len_back (n := 32) Hy.out z_
          have ee : 48 + lenT z = 32 + (16 + (lenT z)) := by omega
          rw [ee]
          exact y_
      · have d2 : decide ((256 : Int) ≤ ((z : Nat) : Int)) = true := by simp; omega
        obtain ⟨v, hv⟩ : ∃ v, v = z / 2 ^ 8 := ⟨_, rfl⟩
        have s2 : ((z : Nat) : Int) / 256 = (v : Int) := by rw [hv]; omega
        have b2 : 1 ≤ v ∧ v < 256 := by rw [hv]; omega
        have Hv := Lib.hid hv
        clear hv
        have c2 := b2.2
        have hv1 : 1 ≤ v := by omega
        obtain ⟨t1, t2⟩ := tabT_at ⟨v, c2⟩
        simp only at t1
        have t3 : 1 ≤ lenT v ∧ 2 ^ (lenT v - 1) ≤ v ∧ v < 2 ^ lenT v ∧ lenT v ≤ 8 := t2 hv1
        have T1 := Lib.hid t1
        have T3 := Lib.hid t3
        clear t1 t2 t3 hv1
        go_enter Tryz.func156, Tryz.ntmps156
        go_wp2
        go_ret
        refine ⟨56 + lenT v, ?_, ?_, rfl⟩
        · exact congrArg (fun z => Ending.returned (Value.int .i64 z)) (wrapT T1.out rfl T3.out.2.2.2 (by omega))
        · have t3 := T3.out
          have t4 : 1 ≤ lenT v ∧ 2 ^ (lenT v - 1) ≤ v ∧ v < 2 ^ lenT v := ⟨t3.1, t3.2.1, t3.2.2.1⟩
          have v_ := len_back (n := 8) Hv.out t4
          have z_ := len_back (n := 16) Hz.out v_
          have y_ := len_back (n := 32) Hy.out z_
          have ee : 56 + lenT v = 32 + (16 + (8 + (lenT v))) := by omega
          rw [ee]
          exact y_
end Go.Proofs.YtebkhdhhajjhfaaGreat.Gr
