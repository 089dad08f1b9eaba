/- Trains that laws build: gears, train, first. -/
import Derived.Lib.AppendZeros
import Derived.Test.YtbclbcldplmppaaMv12
namespace Go.Proofs.Ytbclbcldplmppaa
open Go.RowKit

theorem cellsL_append (xs ys : List Msh) : cellsL (xs ++ ys) = cellsL xs ++ cellsL ys := by simp [cellsL]
theorem cellsL_len (ms : List Msh) : (cellsL ms).length = ms.length * 6 := by
  have := flatten_len 6 (ms.map Msh.cells) (by simp [Msh.cells])
  simpa [cellsL] using this
theorem add_zero' (b k : Nat) : (⟨b, 0, none⟩ : Addr).add k = ⟨b, k, none⟩ := by unfold Addr.add; split <;> simp_all

/-- 'append' to a full list of meshes. -/
theorem app_full {w : World} {b c : Nat} {B : Option Addr} {xs ys : List Msh} (ty : TypeId) (hA : MRow w (some ⟨b, 0, none⟩) xs) (hB : MRow w B ys) (hl : xs.length ≤ 500) (hl2 : ys.length ≤ 500) :
    ∃ h c' w', (Builtin.append_ #[39, 39] ty #[.slice (some ⟨b, 0, none⟩) xs.length xs.length, .slice B ys.length c]).run Try.prog w = .ok (.slice (some ⟨h, 0, none⟩) (xs.length + ys.length) c') w' ∧ Ext w w' ∧ MRow w' (some ⟨h, 0, none⟩) (xs ++ ys) ∧ (h = b ∨ h = w.heap.size) := by
  obtain ⟨i, hi, hz0, hz1, hz2⟩ := mesh_elem.info
  have hlen := cellsL_len ys
  have hs : Src Try.prog 6 39 (.slice B ys.length c) ys.length (cellsL ys) w := by
    cases B with
    | none =>
      cases ys with
      | nil => exact Src.ofNil w Try.underlying39 c
      | cons x xs =>
        obtain ⟨ad, e, _⟩ := hB 0 (by simp [Msh.cells])
        cases e
    | some a =>
      refine Src.ofSlice w Try.underlying39 a _ c _ hlen (fun j u hu => ?_) (fun u hu => ?_)
      · obtain ⟨ad, e, hc⟩ := hB j (List.getElem?_eq_some_iff.1 hu).1
        rw [Option.some.inj e, hc]
        exact hu
      · obtain ⟨r, hr, hur⟩ := List.mem_flatten.1 hu
        obtain ⟨x, _, rfl⟩ := List.mem_map.1 hr
        simp [Msh.cells] at hur
        rcases hur with rfl | rfl | rfl | rfl | rfl | rfl <;> rfl
  have hs' : Src Try.prog i.size 39 (.slice B ys.length c) ys.length (cellsL ys) w := by rw [hz1]; exact hs
  by_cases h0 : ys.length = 0
  · have : ys = [] := List.eq_nil_of_length_eq_zero h0
    subst this
    exact ⟨_, _, w, run_append_nothing w 39 39 ty 57 i Try.underlying39 hi _ _ _ (Nat.le_refl _) _ hs', Ext.refl _, by rw [List.append_nil]; exact hA, .inl rfl⟩
  · have hfit : Builtin.nextslicecap (xs.length + ys.length) xs.length * i.bytes ≤ 281474976710656 := by rw [hz2]; exact growslice_fits (by omega) (by omega)
    have hold : (Builtin.firstCells i.size xs.length (.slice (some ⟨b, 0, none⟩) xs.length xs.length)).run Try.prog w.drew = .ok (cellsL xs).toArray w.drew := by
      refine run_firstCells_some w.drew i.size xs.length _ _ _ (cellsL xs) (by rw [hz1]; exact cellsL_len xs) fun j v hj => ?_
      obtain ⟨ad, e, hc⟩ := hA j (List.getElem?_eq_some_iff.1 hj).1
      cases Option.some.inj e
      exact (show w.drew.cell? _ = w.cell? _ from rfl).trans (hc.trans hj)
    have hrun := run_append_grow_src (P := Try.prog) w 39 39 ty 57 i _ Try.underlying39 hi hz0 (some ⟨b, 0, none⟩) xs.length xs.length (cellsL xs) hold _ ys.length (cellsL ys) hs' (by omega) (by omega) hfit
    refine ⟨_, _, _, hrun, by simp, fun k hk => ⟨_, rfl, ?_⟩, .inr rfl⟩
    have hk : k < (cellsL (xs ++ ys)).length := hk
    have e : (List.map Msh.cells (xs ++ ys)).flatten = cellsL xs ++ cellsL ys := cellsL_append xs ys
    have hk' : k < (cellsL xs ++ cellsL ys).length := by rw [← cellsL_append]; exact hk
    rw [add_zero', show w.heap.size = w.drew.heap.size from rfl, cell_heap (heap_alloc_new w.drew _)]
    rw [Array.getElem?_append_left (by simpa using hk'), List.getElem?_toArray, e]

theorem results_mesh {fn : Func} {t : Tmp} (h : fn.results = #[.cell t 57]) (tmps : Array Value) (w : World) {g : Nat} {u0 u1 u2 u3 u4 u5 : Value} (h8 : tmps.getD t undef = .pointer (some ⟨g, 0, none⟩)) (c0 : w.cell? ⟨g, 0, none⟩ = some u0) (c1 : w.cell? ⟨g, 1, none⟩ = some u1) (c2 : w.cell? ⟨g, 2, none⟩ = some u2) (c3 : w.cell? ⟨g, 3, none⟩ = some u3) (c4 : w.cell? ⟨g, 4, none⟩ = some u4) (c5 : w.cell? ⟨g, 5, none⟩ = some u5) :
    (results fn tmps).run Try.prog w = .ok (.agg #[u0, u1, u2, u3, u4, u5]) w := by
  rw [Array.getD_eq_getD_getElem?] at h8
  simp [results, h, loadVar, h8, c0, c1, c2, c3, c4, c5, loadCells, loadCellsFrom, asAddr, Addr.add_lit, Result.andThen, go_sem]
theorem results_train {fn : Func} {t : Tmp} (h : fn.results = #[.cell t 41]) (tmps : Array Value) (w : World) {g : Nat} {u0 u1 : Value} (h8 : tmps.getD t undef = .pointer (some ⟨g, 0, none⟩)) (c0 : w.cell? ⟨g, 0, none⟩ = some u0) (c1 : w.cell? ⟨g, 1, none⟩ = some u1) :
    (results fn tmps).run Try.prog w = .ok (.agg #[u0, u1]) w := by
  rw [Array.getD_eq_getD_getElem?] at h8
  simp [results, h, loadVar, h8, c0, c1, loadCells, loadCellsFrom, asAddr, Addr.add_lit, Result.andThen, go_sem]

/-- Two gears. -/
def gearsM (a b n m : Int) : Msh := ⟨1, a, b, 0, n, m⟩
set_option maxRecDepth 100000 in
theorem gears_any (a b n m : Int) (w : World) : Calls Try.prog 49 #[.int .i64 a, .int .i64 b, .int .i64 n, .int .i64 m] w fun e w' => e = .returned (.agg #[.int .u8 1, .int .i64 a, .int .i64 b, .int .i64 0, .int .i64 n, .int .i64 m]) ∧ Ext w w' := by
  go_enter Try.func49, Try.ntmps49
  (repeat (first | go_values | go_skip | go_guarded | go_step | go_upon))
  (try simp only [Exit.inBlock, Exit.then])
  refine bodyPost_ret (results_mesh rfl _ _ rfl (cells_last rfl rfl) (cells_last rfl rfl) (cells_last rfl rfl) (cells_last rfl rfl) (cells_last rfl rfl) (cells_last rfl rfl)) rfl ?_
  exact ⟨rfl, by simp⟩
set_option maxRecDepth 100000 in
theorem train_any3 (A : Option Addr) (n c : Nat) (w : World) : Calls Try.prog 48 #[.slice A n c] w fun e w' => e = .returned (.agg #[.int .i64 3, .slice A n c]) ∧ Ext w w' := by
  go_enter Try.func48, Try.ntmps48
  (repeat (first | go_values | go_skip | go_guarded | go_step | go_upon))
  (try simp only [Exit.inBlock, Exit.then])
  refine bodyPost_ret (results_train rfl _ _ rfl (cells_last rfl rfl) (cells_last rfl rfl)) rfl ?_
  exact ⟨rfl, by simp⟩

/-- A train in the call's own struct. -/
structure TOk (W : World) (g : Nat) (u0 u1 : Value) : Prop where
  c0 : W.cell? ⟨g, 0, none⟩ = some u0
  c1 : W.cell? ⟨g, 1, none⟩ = some u1
  f : ∀ j, W.frozen? ⟨g, j, none⟩ = false
theorem TOk.lt {W : World} {g : Nat} {u0 u1 : Value} (h : TOk W g u0 u1) : g < W.heap.size := World.block_lt_of_cell? _ _ h.c0
theorem TOk.ext {W W' : World} {g : Nat} {u0 u1 : Value} (h : TOk W g u0 u1) (he : Ext W W') : TOk W' g u0 u1 :=
  ⟨he.cell h.c0, he.cell h.c1, fun j => (he.frozen h.lt).trans (h.f j)⟩
theorem TOk.new {W : World} {u0 u1 : Value} : TOk (W.alloc (.cells #[u0, u1] 41)) W.heap.size u0 u1 :=
  ⟨cells_last rfl rfl, cells_last rfl rfl, fun j => by simp only [World.frozen?, heap_alloc_new]; simp⟩
theorem TOk.set {W : World} {g : Nat} {u0 u1 : Value} (h : TOk W g u0 u1) (x0 x1 : Value) : TOk ((W.setCell ⟨g, 0, none⟩ x0).setCell ⟨g, 1, none⟩ x1) g x0 x1 :=
  ⟨(cell_far' (by decide)).trans (cell_same' u0 h.c0), cell_same' u1 ((cell_far' (by decide)).trans h.c1), fun j => by rw [World.frozen?_setCell, World.frozen?_setCell]; exact h.f j⟩

def firstL (ys : List Msh) : List Msh := [gearsM 0 1 8 24, gearsM 1 2 12 12] ++ ys
theorem mrow_lit {w : World} {g : Nat} {ms : List Msh} (h : w.heap[g]? = some (.cells (cellsL ms).toArray 57)) : MRow w (some ⟨g, 0, none⟩) ms := fun k hk => by
  refine ⟨_, rfl, ?_⟩
  rw [add_zero', cell_heap h, List.getElem?_toArray]
  rfl
set_option maxRecDepth 100000 in
theorem first_any (A : Option Addr) (c : Nat) (ys : List Msh) (w : World) (hA : MRow w A ys) (hl : ys.length ≤ 500) : Calls Try.prog 50 #[.slice A ys.length c] w fun e w' => ∃ h c', e = .returned (.agg #[.int .i64 3, .slice (some ⟨h, 0, none⟩) (firstL ys).length c']) ∧ Ext w w' ∧ MRow w' (some ⟨h, 0, none⟩) (firstL ys) := by
  have HA := Lib.hid hA
  have ha := fun (w2 : World) (he : Ext w w2) => app_full (w := w2.alloc (.cells (cellsL [gearsM 0 1 8 24, gearsM 1 2 12 12]).toArray 57)) (c := c) 39 (mrow_lit (heap_alloc_new _ _)) (hA.ext (he.alloc _)) (by simp) hl
  have Ha := Lib.hid ha
  clear ha hA
  obtain ⟨q, hq⟩ : ∃ q, q = ys.length := ⟨_, rfl⟩
  rw [← hq] at Ha ⊢
  have hn : (firstL ys).length = 2 + q := by rw [hq]; simp [firstL]; omega
  rw [hn]
  have Hq := Lib.hid hq
  clear hq hn
  go_enter Try.func50, Try.ntmps50
  (repeat (first
    | (at_builtin; obtain ⟨h, c', w4, hr, hx4, hm4, hh4⟩ := Ha.out _ hxw; refine Lib.wpList_append_run _ rfl _ _ 39 39 rfl _ _ rfl rfl _ w4 hr ?_; have hw4 := (hxw.alloc _).trans hx4; have k0 := (hh.trans hx2).trans ((Ext.alloc (Ext.refl w2) _).trans hx4))
    | (go_at_call 48; refine (train_any3 _ _ _ _).mono ?_; rintro e w5 ⟨rfl, hx5⟩; have k5 := k0.trans hx5; obtain ⟨z0, z1, zf⟩ := TOk.ext TOk.new k5; have hz := TOk.ext TOk.new k5; simp only [])
    | (go_at_call 49; have hh := hx1; refine (gears_any _ _ _ _ _).mono ?_; rintro e w2 ⟨rfl, hx2⟩; have hxw := ((Ext.alloc (Ext.refl w) (.cells #[.int .i64 0, .slice none 0 0] 41)).trans hx1).trans hx2; simp only [])
    | (go_at_call 49; refine (gears_any _ _ _ _ _).mono ?_; rintro e w1 ⟨rfl, hx1⟩; simp only [])
    | go_values | go_skip | go_guarded | go_step | go_upon))
  (try simp only [Exit.inBlock, Exit.then])
  have hz2 := hz.set (.int .i64 3) (.slice (some ⟨h, 0, none⟩) (2 + q) c')
  refine bodyPost_ret (results_train rfl _ _ rfl hz2.c0 hz2.c1) rfl ?_
  have hsz : w.heap.size < w2.heap.size := by
    have h1 := hx1.le
    have h2 := hx2.le
    have h3 : (w.alloc (.cells #[.int .i64 0, .slice none 0 0] 41)).heap.size = w.heap.size + 1 := by simp
    omega
  have hne : w.heap.size ≠ h := by
    rcases hh4 with rfl | rfl
    · omega
    · simp; omega
  have hm5 := MRow.ext hm4 hx5
  exact ⟨h, c', rfl, ((hw4.trans hx5).setCell (p := ⟨w.heap.size, 0, none⟩) (Nat.le_refl _) _).setCell (p := ⟨w.heap.size, 1, none⟩) (Nat.le_refl _) _, (hm5.setCell (p := ⟨w.heap.size, 0, none⟩) hne _).setCell (p := ⟨w.heap.size, 1, none⟩) hne _⟩
end Go.Proofs.Ytbclbcldplmppaa

/- What an answer of 'Ratio' is, from another proof. Plain Lean. -/
namespace Go.Proofs.Ytbclbcldplmppaa

section
variable {s : Int} {ms : List Msh} {i o num den x : Int} {F M T F' M' T' : List Int}
theorem ratOk.of_rat (h : ratOk s ms i o num den x F M T) (hz : askE s ms [i, o] = 0) {n d : Int} (hc : ratPr (gearL ms s.toNat) ms.length s.toNat i.toNat o.toNat n d F' M' T') :
    x = 0 ∧ num = n ∧ den = d ∧ ratPr (gearL ms s.toNat) ms.length s.toNat i.toNat o.toNat num den F M T := by
  obtain ⟨S, I, O, rfl, rfl, rfl, hi, ho, _⟩ := ask_two hz
  simp only [Int.toNat_natCast] at hc h ⊢
  rcases h with ⟨h, _⟩ | ⟨_, ⟨_, _, _, h⟩ | ⟨_, _, _, h⟩ | ⟨h0, h⟩⟩
  · exact absurd hz h
  · exact (jam_no_ratio h hc hi).elim
  · exact (ratio_no_loose hc h hi ho).elim
  · obtain ⟨h1, h2⟩ := h.same hc hi ho
    exact ⟨h0, h1, h2, h⟩
theorem ratOk.of_jam (h : ratOk s ms i o num den x F M T) (hz : askE s ms [i, o] = 0) (hc : jamPr (gearL ms s.toNat) ms.length s.toNat i.toNat F' M' T') :
    x = 41 ∧ num = 0 ∧ den = 0 ∧ jamPr (gearL ms s.toNat) ms.length s.toNat i.toNat F M T := by
  obtain ⟨S, I, O, rfl, rfl, rfl, hi, ho, _⟩ := ask_two hz
  simp only [Int.toNat_natCast] at hc h ⊢
  rcases h with ⟨h, _⟩ | ⟨_, ⟨h0, h1, h2, h⟩ | ⟨_, _, _, h⟩ | ⟨_, h⟩⟩
  · exact absurd hz h
  · exact ⟨h0, h1, h2, h⟩
  · exact (jam_no_loose hc h hi).elim
  · exact (jam_no_ratio hc h hi).elim
theorem ratOk.of_loose (h : ratOk s ms i o num den x F M T) (hz : askE s ms [i, o] = 0) (hc : loosePr (gearL ms s.toNat) ms.length s.toNat i.toNat o.toNat F' M' T') :
    x = 42 ∧ num = 0 ∧ den = 0 ∧ loosePr (gearL ms s.toNat) ms.length s.toNat i.toNat o.toNat F M T := by
  obtain ⟨S, I, O, rfl, rfl, rfl, hi, ho, _⟩ := ask_two hz
  simp only [Int.toNat_natCast] at hc h ⊢
  rcases h with ⟨h, _⟩ | ⟨_, ⟨_, _, _, h⟩ | ⟨h0, h1, h2, h⟩ | ⟨_, h⟩⟩
  · exact absurd hz h
  · exact (jam_no_loose h hc hi).elim
  · exact ⟨h0, h1, h2, h⟩
  · exact (ratio_no_loose h hc hi ho).elim
theorem ratPr.fit' {S I O : Nat} (ht : trainP S ms) (hi : I < S) (ho : O < S) (h : ratPr (gearL ms S) ms.length S I O num den F M T) : (-9223372036854775807 ≤ num ∧ num ≤ 9223372036854775807) ∧ den ≤ 9223372036854775807 ∧ 1 ≤ den := by
  obtain ⟨h1, _, _, _, hd, _, h⟩ := h
  have hb := fun k (hk : k < S) => sumT_bound h1.bound (gearL_bound ht) hk (Nat.le_refl ms.length)
  have hm := ht.2.2.1
  by_cases e : I = O
  · rw [if_pos e] at h
    omega
  · rw [if_neg e] at h
    obtain ⟨_, h2, h3, h4, h5⟩ := h
    have b1 := hb I hi
    have b2 := hb O ho
    generalize sumT F (gearL ms S) ms.length I = u at *
    generalize sumT F (gearL ms S) ms.length O = v at *
    have b1 : u.natAbs ≤ 9223372036854775807 := by omega
    have b2 : v.natAbs ≤ 9223372036854775807 := by omega
    have hv := Int.tdiv_mul_add_tmod v den
    have hle : den ≤ v := by
      rw [h2, Int.add_zero] at hv
      have : den * 1 ≤ den * v.tdiv den := Int.mul_le_mul_of_nonneg_left h3 (by omega)
      rw [Int.mul_comm den (v.tdiv den)] at this
      omega
    have hu := Int.natAbs_tdiv_le_natAbs u (v.tdiv den)
    omega
theorem ratPr.fit {S I O : Nat} (ht : trainP S ms) (hi : I < S) (ho : O < S) (h : ratPr (gearL ms S) ms.length S I O num den F M T) : (-9223372036854775808 ≤ num ∧ num ≤ 9223372036854775807) ∧ den ≤ 9223372036854775807 ∧ 1 ≤ den := by
  have := h.fit' ht hi ho
  omega
theorem ratOk.lens (h : ratOk s ms i o num den x F M T) (hl : ms.length ≤ 1000) : F.length ≤ 1000 ∧ M.length ≤ 1000 ∧ T.length ≤ 1000 := by
  rcases h with ⟨_, _, _, rfl, rfl, rfl⟩ | ⟨hz, h⟩
  · simp
  · obtain ⟨S, I, O, rfl, rfl, rfl, hi, ho, ht⟩ := ask_two hz
    simp only [Int.toNat_natCast] at h
    have h8 : S ≤ 8 := by have := ht.2.1; omega
    rcases h with ⟨_, _, _, h1, h2, h3, _⟩ | ⟨_, _, _, h1, h2, h3, _⟩ | ⟨_, h1, h2, h3, _⟩
    · have := h1.1; omega
    · have := h2.1.1; have := h3.1.1; omega
    · have := h1.1; have := h3.1.1; omega
end
end Go.Proofs.Ytbclbcldplmppaa

/- The laws' own helpers: is, verdict. -/
namespace Go.Proofs.Ytbclbcldplmppaa
open Go.RowKit

theorem ask_fst {s : Int} {ms : List Msh} {i o : Int} (h : askE s ms [i, o] = 0) : askE s ms [i] = 0 := by
  obtain ⟨hT, hin⟩ := askE_zero h
  exact askE_ok hT fun x hx => hin x (by simp at hx; simp [hx])
theorem ratE_ok {s : Int} {ms : List Msh} {i o num den : Int} {F M T : List Int} (hz : askE s ms [i, o] = 0) (h : ratPr (gearL ms s.toNat) ms.length s.toNat i.toNat o.toNat num den F M T) : ratE s ms i o num den F M T = 0 := by
  unfold ratE; rw [if_pos hz, if_pos (decide_eq_true h)]
theorem jamE_ok {s : Int} {ms : List Msh} {i : Int} {F M T : List Int} (hz : askE s ms [i] = 0) (h : jamPr (gearL ms s.toNat) ms.length s.toNat i.toNat F M T) : jamE s ms i F M T = 0 := by
  unfold jamE; rw [if_pos hz, if_pos (decide_eq_true h)]
theorem looseE_ok {s : Int} {ms : List Msh} {i o : Int} {F M T : List Int} (hz : askE s ms [i, o] = 0) (h : loosePr (gearL ms s.toNat) ms.length s.toNat i.toNat o.toNat F M T) : looseE s ms i o F M T = 0 := by
  unfold looseE; rw [if_pos hz, if_pos (decide_eq_true h)]

set_option maxRecDepth 100000 in
set_option maxHeartbeats 4000000 in
theorem is_any (A : Option Addr) (c : Nat) (s i o num den : Int) (ms : List Msh) (w : World) (hA : MRow w A ms) (hl : ms.length ≤ 1000) (hz : askE s ms [i, o] = 0) {F' M' T' : List Int} (hc : ratPr (gearL ms s.toNat) ms.length s.toNat i.toNat o.toNat num den F' M' T') :
    Calls Try.prog 51 #[.agg #[.int .i64 s, .slice A ms.length c], .int .i64 i, .int .i64 o, .int .i64 num, .int .i64 den] w fun e w' => e = .returned (.bool true) ∧ Ext w w' := by
  have hfit : (-9223372036854775808 ≤ num ∧ num ≤ 9223372036854775807) ∧ den ≤ 9223372036854775807 ∧ 1 ≤ den := by
    obtain ⟨S, I, O, rfl, rfl, rfl, hi, ho, ht⟩ := ask_two hz
    exact ratPr.fit ht hi ho hc
  have c34 : ∀ (w' : World) (_ : Ext w w'), Calls Try.prog 34 #[.agg #[.int .i64 s, .slice A ms.length c], .int .i64 i, .int .i64 o] w' fun e w'' => ∃ (B1 B2 B3 : Option Addr) (r1 d1 r2 d2 r3 d3 : Nat), e = .returned (.tuple #[.int .i64 num, .int .i64 den, .agg #[.slice B1 r1 d1, .slice B2 r2 d2, .slice B3 r3 d3], .int .i64 0]) ∧ Ext w' w'' ∧
      ∀ w3, Ext w'' w3 → Calls Try.prog 37 #[.agg #[.int .i64 s, .slice A ms.length c], .int .i64 i, .int .i64 o, .int .i64 num, .int .i64 den, .agg #[.slice B1 r1 d1, .slice B2 r2 d2, .slice B3 r3 d3]] w3 fun e w4 => e = .returned (.int .i64 0) ∧ Ext w3 w4 := fun w' he => by
    refine (ratio_any A c s i o ms w' (hA.ext he) (by omega)).mono fun e w'' h => ?_
    obtain ⟨rn, rd, B1, B2, B3, d1, d2, d3, F, M, T, h0, h1, h2, h3, hx, hok⟩ := h
    have hls := hok.lens hl
    obtain ⟨e0, rfl, rfl, hp⟩ := hok.of_rat hz hc
    refine ⟨B1, B2, B3, _, d1, _, d2, _, d3, by rw [h0, e0], hx, fun w3 hx3 => ?_⟩
    have := checkRatio_any A c s ms i o rn rd B1 B2 B3 d1 d2 d3 F M T w3 (hA.ext (he.trans (hx.trans hx3))) (by omega) (h1.ext hx3) (h2.ext hx3) (by omega) (by omega) hfit.2.1 hfit.1
    rw [ratE_ok hz hp] at this
    exact this
  have C34 := Lib.hid c34
  clear c34 hc hfit hz hA
  generalize ms.length = m at *
  go_enter Try.func51, Try.ntmps51
  have t0 : ∀ w', Ext (w.alloc (.cells #[.int .i64 s, .slice A m c] 41)) w' → w'.cell? ⟨w.heap.size, 0, none⟩ = some (.int .i64 s) := fun w' he => he.cell (cells_last rfl rfl)
  have t1 : ∀ w', Ext (w.alloc (.cells #[.int .i64 s, .slice A m c] 41)) w' → w'.cell? ⟨w.heap.size, 1, none⟩ = some (.slice A m c) := fun w' he => he.cell (cells_last rfl rfl)
  have hxb : Ext w (w.alloc (.cells #[.int .i64 s, .slice A m c] 41)) := (Ext.refl w).alloc _
  (repeat (first
    | (go_at_call 34; refine (C34.out _ hxb).mono ?_; rintro e w2 ⟨B1, B2, B3, r1, d1, r2, d2, r3, d3, rfl, hx2, h37⟩; have C37 := Lib.hid h37; clear h37; have hx3 := hx2.alloc (.cells #[.slice B1 r1 d1, .slice B2 r2 d2, .slice B3 r3 d3] 60); simp only [])
    | (go_at_call 37; refine (C37.out _ ((Ext.refl _).alloc _)).mono ?_; rintro e w4 ⟨rfl, hx4⟩; simp only [])
    | go_values | go_skip | go_guarded | go_step | go_upon))
  go_ret
  exact ⟨rfl, hxb.trans (hx3.trans hx4)⟩
end Go.Proofs.Ytbclbcldplmppaa

/- Every train has an answer; what jams, from proofs; the examples. Plain Lean. -/
namespace Go.Proofs.Ytbclbcldplmppaa

theorem verdE_nat {S I O : Nat} {ms : List Msh} (ht : trainP S ms) (hi : I < S) (ho : O < S) : askE S ms [(I : Int), (O : Int)] = 0 ∧ verdE S ms I O = verdS ms.length S (gearL ms S) I O := by
  have hz : askE S ms [(I : Int), (O : Int)] = 0 := askE_ok (decide_eq_true ht) (by simp; omega)
  refine ⟨hz, ?_⟩
  unfold verdE
  rw [if_pos hz]
  simp

/-- Every valid train has an answer. -/
theorem ok_exists {S i o : Nat} {ms : List Msh} (ht : trainP S ms) (hi : i < S) (ho : o < S) : ∃ num den F M T, ratOk S ms i o num den (verdE S ms i o) F M T := by
  obtain ⟨hz, hv⟩ := verdE_nat ht hi ho
  rw [hv]
  obtain ⟨σ, pv, M, d, hs⟩ := solved_exists (augF S (gearL ms S)) S ms.length (ratCols S i o) (ratCols_lt hi ho)
  have h53 := hs.two53 ht
  have hF : ∀ q : Nat × Nat, FacOf S ms.length M d q (outL ms.length fun y => sg d * M q.1 (S + y)) := fun q => ⟨outL_len _ _, fun y hy => outL_get hy⟩
  have hM : ∀ f, f < S → f ∉ colsP pv → ∃ x, MotOf S pv M d f x := fun f hf hfo => by
    have hone : ∀ q q' : Nat × Nat, q ∈ pv → q' ∈ pv → q.2 = q'.2 → q = q' := fun q q' hq hq' e => by
      have := hs.red' hq hq'
      rcases Classical.em (q = q') with h | h
      · exact h
      · rw [if_neg h, ← e, hs.red' hq hq, if_pos rfl] at this
        exact absurd this hs.bar.ne
    refine ⟨outL S fun j => if j = f then sg d * d else match pv.find? (fun q => q.2 == j) with | some q => -sg d * M q.1 f | none => 0, outL_len _ _, ?_, fun q hq => ?_, fun j hj hjf hjp => ?_⟩
    · rw [outL_get hf, if_pos rfl]
    · have hqS : q.2 < S := (hs.cin q.2 (List.mem_map.2 ⟨q, hq, rfl⟩)).2
      have hqf : q.2 ≠ f := fun e => hfo (e ▸ List.mem_map.2 ⟨q, hq, rfl⟩)
      rw [outL_get hqS, if_neg hqf]
      cases hfd : pv.find? (fun q' => q'.2 == q.2) with
      | none =>
        have := List.find?_eq_none.1 hfd q hq
        simp at this
      | some q' =>
        have h1 := List.find?_some hfd
        have h2 := List.mem_of_find?_eq_some hfd
        rw [hone q' q h2 hq (by simpa using h1)]
    · rw [outL_get hj, if_neg hjf]
      cases hfd : pv.find? (fun q' => q'.2 == j) with
      | none => rfl
      | some q' =>
        have h1 := List.find?_some hfd
        have h2 := List.mem_of_find?_eq_some hfd
        exact absurd (List.mem_map.2 ⟨q', h2, by simpa using h1⟩) hjp
  unfold ratOk
  simp only [Int.toNat_natCast]
  by_cases hin : i ∈ colsP pv
  · obtain ⟨q, hq, hqi⟩ := List.mem_map.1 hin
    obtain ⟨c1, hc1⟩ := ratCols_last S i o
    exact ⟨0, 0, _, [], [], .inr ⟨hz, .inl ⟨(verd_jam hs hi hin).symm, rfl, rfl, hs.provesJam ratCols_all h53 hc1 ratCols_nodup hi hq hqi (hF q)⟩⟩⟩
  · obtain ⟨x, hx⟩ := hM i hi hin
    by_cases hoi : o = i
    · subst hoi
      exact ⟨1, 1, _, x, [], .inr ⟨hz, .inr (.inr ⟨(verd_same hs hi hin).symm, hs.provesSame ratCols_all h53 hi hin hx⟩)⟩⟩
    · have hverd := verd_loose hs hi ho hoi hin
      by_cases hon : o ∈ colsP pv
      · obtain ⟨q, hq, hqo⟩ := List.mem_map.1 hon
        obtain ⟨c1, hc1⟩ := ratCols_two hoi
        rw [if_pos hon] at hverd
        exact ⟨_, _, _, x, [], .inr ⟨hz, .inr (.inr ⟨hverd, hs.provesRatio ratCols_all h53 hc1 ratCols_nodup hi ho (fun e => hoi e.symm) hin hq hqo (hF q) hx⟩)⟩⟩
      · obtain ⟨y, hy⟩ := hM o ho hon
        rw [if_neg hon] at hverd
        exact ⟨0, 0, [], x, y, .inr ⟨hz, .inr (.inl ⟨hverd, rfl, rfl, hs.provesLoose ratCols_all h53 hi ho (fun e => hoi e.symm) hin hon hx hy⟩)⟩⟩

theorem jamB_verd {m n i o : Nat} {L : Nat → Nat → Int} : jamB m n L i = true ↔ verdS m n L i o = 41 := by
  unfold verdS
  by_cases h : jamB m n L i = true
  · simp [h]
  · rw [if_neg h]
    constructor
    · exact fun h' => absurd h' h
    · split <;> intro h' <;> omega
/-- A shaft is jammed exactly if a proof says so. -/
theorem jam_iff {S i : Nat} {ms : List Msh} (ht : trainP S ms) (hi : i < S) : jamB ms.length S (gearL ms S) i = true ↔ ∃ F, jamPr (gearL ms S) ms.length S i F [] [] := by
  obtain ⟨hz, hv⟩ := verdE_nat ht hi hi
  obtain ⟨num, den, F, M, T, h⟩ := ok_exists ht hi hi
  rw [hv] at h
  rw [jamB_verd (o := i)]
  constructor
  · intro h1
    unfold ratOk at h
    simp only [Int.toNat_natCast] at h
    rcases h with ⟨h, _⟩ | ⟨_, ⟨_, _, _, h⟩ | ⟨h, _⟩ | ⟨h, _⟩⟩
    · exact absurd hz h
    · exact ⟨F, h.1, rfl, rfl, h.2.2.2⟩
    · omega
    · omega
  · rintro ⟨F', hF'⟩
    exact (ratOk.of_jam h hz (by simpa using hF')).1
theorem jam_not {S i o : Nat} {ms : List Msh} (ht : trainP S ms) (hi : i < S) {num den : Int} {F M T : List Int} (h : ratPr (gearL ms S) ms.length S i o num den F M T) : jamB ms.length S (gearL ms S) i = false := by
  refine Bool.eq_false_iff.2 fun hb => ?_
  obtain ⟨F', hF'⟩ := (jam_iff ht hi).1 hb
  exact jam_no_ratio hF' h hi

/-! ### The examples -/
def threeL : List Msh := [⟨1, 0, 1, 0, 8, 8⟩, ⟨1, 1, 2, 0, 8, 8⟩, ⟨1, 0, 2, 0, 8, 8⟩]
def diffL : List Msh := [⟨5, 0, 1, 2, 0, 0⟩]
def fstL : List Msh := [⟨1, 0, 1, 0, 8, 24⟩, ⟨1, 1, 2, 0, 12, 12⟩]
def clutL : List Msh := [⟨1, 0, 1, 0, 8, 24⟩, ⟨1, 1, 2, 0, 12, 12⟩, ⟨7, 0, 1, 0, 0, 0⟩]
theorem three_ask : askE 3 threeL [0, 0] = 0 := by decide
theorem diff_ask : askE 3 diffL [2, 0] = 0 := by decide
theorem fst_ask : askE 3 fstL [0, 2] = 0 := by decide
theorem clut_ask : askE 3 clutL [0] = 0 := by decide
theorem three_jam : jamPr (gearL threeL 3) 3 3 0 [1, -1, 1] [] [] := by decide
theorem diff_loose : loosePr (gearL diffL 3) 1 3 2 0 [] [1, 1, 1] [1, -1, 0] := by decide
theorem fst_rat : ratPr (gearL fstL 3) 2 3 0 2 1 3 [-1, 2] [3, -1, 1] [] := by decide
theorem fst_rat0 : ratPr (gearL fstL 3) 2 3 0 0 1 1 [0, 0] [3, -1, 1] [] := by decide
theorem clut_jam : jamPr (gearL clutL 3) 3 3 0 [1, 0, 24] [] [] := by decide
theorem diff_free : freeS 3 diffL = 2 := by
  have hL : ∀ j, j < 3 → ((0 : Int)) ∣ gearL diffL 3 0 j - S (List.range 1) fun k => (if k = 0 then 1 else 0) * gearL diffL 3 k j := fun j _ => by
    rw [show (S (List.range 1) fun k => (if k = 0 then 1 else 0) * gearL diffL 3 k j) = gearL diffL 3 0 j by simp [S_cons, S_nil, List.range_succ]]
    rw [Int.sub_self]
    exact Int.dvd_zero _
  have hb : BasisOf 3 1 (gearL diffL 3) (gearL diffL 3) [0] 1 := by
    refine ⟨by simp, fun i hi => ?_, fun i hi => ?_, by decide, fun x hx => ?_⟩
    · obtain rfl : i = 0 := by simp at hi; omega
      exact ⟨show gearL diffL 3 0 0 ≠ 0 by decide, fun x h1 h2 => by simp at h2; omega⟩
    · obtain rfl : i = 0 := by simp at hi; omega
      exact ⟨_, hL⟩
    · obtain rfl : x = 0 := by omega
      refine ⟨fun k => if k = 0 then 1 else 0, fun j hj => ?_⟩
      simp
  have h1 : rkF 1 3 (gearL diffL 3) = 1 := hb.rkF
  unfold freeS
  rw [if_pos (by decide)]
  show (3 : Int) - (rkF 1 3 (gearL diffL 3) : Int) = 2
  rw [h1]
  rfl
theorem clut_slip : slipO clutL 3 0 = some [2] := by
  have ht : trainP 3 clutL := by decide
  have h0 : jamO clutL 3 0 [] = true := by
    have := (jam_iff (S := 3) (i := 0) ht (by decide)).2 ⟨_, clut_jam⟩
    exact this
  have h1 : jamO clutL 3 0 [2] = false := by
    have := jam_not (S := 3) (i := 0) (ms := fstL) (by decide) (by decide) fst_rat
    exact this
  refine slipO_some (n := 1) (by decide) (fun k hk => ?_) ?_
  · obtain rfl : k = 0 := by omega
    unfold slipN
    rw [chooseL_zero, h0]
    rfl
  · show chooseL (jamO clutL 3 0) [2] 1 [] = some [2]
    refine chooseL_some ?_
    rw [chooseL_zero]
    show (if jamO clutL 3 0 [2] = true then none else some [2]) = some [2]
    rw [h1]
    rfl
theorem clut_slipL : slipL 3 clutL 0 = [2] ∧ slipX 3 clutL 0 = 0 := by
  unfold slipL slipX
  rw [if_pos clut_ask, if_pos clut_ask]
  show natI ((slipO clutL 3 0).getD []) = [2] ∧ _
  rw [show slipO clutL (Int.toNat 3) (Int.toNat 0) = some [2] from clut_slip, clut_slip]
  exact ⟨rfl, rfl⟩
end Go.Proofs.Ytbclbcldplmppaa

/- The laws' own helper: alive. -/
namespace Go.Proofs.Ytbclbcldplmppaa
open Go.RowKit

/-- A jammed shaft's answer, and that it is accepted. -/
theorem ratio_jam (A : Option Addr) (c : Nat) (s i o : Int) (ms : List Msh) (w : World) (hA : MRow w A ms) (hl : ms.length ≤ 1000) (hz : askE s ms [i, o] = 0) {F' M' T' : List Int} (hc : jamPr (gearL ms s.toNat) ms.length s.toNat i.toNat F' M' T') :
    Calls Try.prog 34 #[.agg #[.int .i64 s, .slice A ms.length c], .int .i64 i, .int .i64 o] w fun e w'' => ∃ (B1 B2 B3 : Option Addr) (r1 d1 r2 d2 r3 d3 : Nat), e = .returned (.tuple #[.int .i64 0, .int .i64 0, .agg #[.slice B1 r1 d1, .slice B2 r2 d2, .slice B3 r3 d3], .int .i64 41]) ∧ Ext w w'' ∧
      ∀ w3, Ext w'' w3 → Calls Try.prog 39 #[.agg #[.int .i64 s, .slice A ms.length c], .int .i64 i, .agg #[.slice B1 r1 d1, .slice B2 r2 d2, .slice B3 r3 d3]] w3 fun e w4 => e = .returned (.int .i64 0) ∧ Ext w3 w4 := by
  refine (ratio_any A c s i o ms w hA (by omega)).mono fun e w'' h => ?_
  obtain ⟨rn, rd, B1, B2, B3, d1, d2, d3, F, M, T, h0, h1, h2, h3, hx, hok⟩ := h
  have hls := hok.lens hl
  obtain ⟨e0, rfl, rfl, hp⟩ := hok.of_jam hz hc
  refine ⟨B1, B2, B3, _, d1, _, d2, _, d3, by rw [h0, e0], hx, fun w3 hx3 => ?_⟩
  have := checkJam_any A c s ms i B1 B2 B3 d1 d2 d3 F M T w3 (hA.ext (hx.trans hx3)) (by omega) (h1.ext hx3) (by omega)
  rw [jamE_ok (ask_fst hz) hp] at this
  exact this
theorem ratio_loose (A : Option Addr) (c : Nat) (s i o : Int) (ms : List Msh) (w : World) (hA : MRow w A ms) (hl : ms.length ≤ 1000) (hz : askE s ms [i, o] = 0) {F' M' T' : List Int} (hc : loosePr (gearL ms s.toNat) ms.length s.toNat i.toNat o.toNat F' M' T') :
    Calls Try.prog 34 #[.agg #[.int .i64 s, .slice A ms.length c], .int .i64 i, .int .i64 o] w fun e w'' => ∃ (B1 B2 B3 : Option Addr) (r1 d1 r2 d2 r3 d3 : Nat), e = .returned (.tuple #[.int .i64 0, .int .i64 0, .agg #[.slice B1 r1 d1, .slice B2 r2 d2, .slice B3 r3 d3], .int .i64 42]) ∧ Ext w w'' ∧
      ∀ w3, Ext w'' w3 → Calls Try.prog 41 #[.agg #[.int .i64 s, .slice A ms.length c], .int .i64 i, .int .i64 o, .agg #[.slice B1 r1 d1, .slice B2 r2 d2, .slice B3 r3 d3]] w3 fun e w4 => e = .returned (.int .i64 0) ∧ Ext w3 w4 := by
  refine (ratio_any A c s i o ms w hA (by omega)).mono fun e w'' h => ?_
  obtain ⟨rn, rd, B1, B2, B3, d1, d2, d3, F, M, T, h0, h1, h2, h3, hx, hok⟩ := h
  have hls := hok.lens hl
  obtain ⟨e0, rfl, rfl, hp⟩ := hok.of_loose hz hc
  refine ⟨B1, B2, B3, _, d1, _, d2, _, d3, by rw [h0, e0], hx, fun w3 hx3 => ?_⟩
  have := checkLoose_any A c s ms i o B1 B2 B3 d1 d2 d3 F M T w3 (hA.ext (hx.trans hx3)) (by omega) (h2.ext hx3) (h3.ext hx3) (by omega) (by omega)
  rw [looseE_ok hz hp] at this
  exact this

set_option maxRecDepth 100000 in
set_option maxHeartbeats 8000000 in
theorem alive_any (w : World) : Calls Try.prog 43 #[] w fun e w' => e = .returned (.bool true) ∧ Ext w w' := by
  go_enter Try.func43, Try.ntmps43
  (repeat (first | go_values | go_skip | go_guarded | go_step | go_upon))
  go_at_call 49
  refine (gears_any 0 1 8 8 _).mono ?_
  rintro e w1 ⟨rfl, hx1⟩
  simp only []
  (repeat (first | go_values | go_skip | go_guarded | go_step | go_upon))
  go_at_call 49
  refine (gears_any 1 2 8 8 _).mono ?_
  rintro e w2 ⟨rfl, hx2⟩
  simp only []
  (repeat (first | go_values | go_skip | go_guarded | go_step | go_upon))
  go_at_call 49
  refine (gears_any 0 2 8 8 _).mono ?_
  rintro e w3 ⟨rfl, hx3⟩
  simp only []
  (repeat (first | go_values | go_skip | go_guarded | go_step | go_upon))
  go_at_call 48
  refine (train_any3 _ _ _ _).mono ?_
  rintro e w4 ⟨rfl, hx4⟩
  simp only []
  have hx : Ext w w4 := (((hx1.trans hx2).trans hx3).alloc _).trans hx4
  have hm3 : MRow w4 (some ⟨w3.heap.size, 0, none⟩) threeL := MRow.ext (mrow_lit (ms := threeL) (heap_alloc_new w3 _)) hx4
  clear hx1 hx2 hx3 hx4
  generalize w3.heap.size = g3 at *
  (repeat (first | go_values | go_skip | go_guarded | go_step | go_upon))
  go_at_call 48
  refine (train_any3 _ _ _ _).mono ?_
  rintro e w5 ⟨rfl, hx5⟩
  simp only []
  have E : Ext w4 w5 := (((Ext.refl _).alloc _).alloc _).trans hx5
  have hT1 := TOk.ext (TOk.new (W := w4) (u0 := .int .i64 3) (u1 := .slice (some ⟨g3, 0, none⟩) 3 3)) (((Ext.refl _).alloc _).trans hx5)
  have hmd := MRow.ext (mrow_lit (ms := diffL) (heap_alloc_new (w4.alloc (.cells #[.int .i64 3, .slice (some ⟨g3, 0, none⟩) 3 3] 41)) _)) hx5
  rw [show (w4.alloc (.cells #[.int .i64 3, .slice (some ⟨g3, 0, none⟩) 3 3] 41)).heap.size = w4.heap.size + 1 by simp] at hmd
  have hm3 := hm3.ext E
  have hx := hx.trans E
  clear hx5 E
  generalize w4.heap.size + 1 = gd at *
  generalize w4.heap.size = g1 at *
  have t10 := Ext.cells hT1.c0
  have t11 := Ext.cells hT1.c1
  (repeat (first | go_values | go_skip | go_guarded | go_step | go_upon))
  go_at_call 34
  refine (ratio_jam (some ⟨g3, 0, none⟩) 3 3 0 0 threeL _ (hm3.ext ((Ext.refl _).alloc _)) (by decide) three_ask three_jam).mono ?_
  rintro e w6 ⟨B1, B2, B3, r1, d1, r2, d2, r3, d3, rfl, hx6, hcj⟩
  simp only []
  have E : Ext w5 w6 := ((Ext.refl _).alloc _).trans hx6
  have hT2 := TOk.ext (TOk.new (W := w5) (u0 := .int .i64 3) (u1 := .slice (some ⟨gd, 0, none⟩) 1 1)) hx6
  have hT1 := hT1.ext E
  have hmd := hmd.ext E
  have hx := hx.trans E
  clear hx6 E t10 t11 hm3
  generalize w5.heap.size = g2 at *
  have hcj' := Lib.hid hcj
  clear hcj
  have t20 := Ext.cells hT2.c0
  have t21 := Ext.cells hT2.c1
  (repeat (first | go_values | go_skip | go_guarded | go_step | go_upon))
  go_at_call 34
  refine (ratio_loose (some ⟨gd, 0, none⟩) 1 3 2 0 diffL _ (hmd.ext ((Ext.refl _).alloc _)) (by decide) diff_ask diff_loose).mono ?_
  rintro e w7 ⟨D1, D2, D3, s1, f1, s2, f2, s3, f3, rfl, hx7, hcl⟩
  simp only []
  have E : Ext w6 w7 := ((Ext.refl _).alloc _).trans hx7
  have hP1 := GOk.ext (GOk.new (W := w6) (u0 := .slice B1 r1 d1) (u1 := .slice B2 r2 d2) (u2 := .slice B3 r3 d3) rfl) hx7
  have hT1 := hT1.ext E
  have hT2 := hT2.ext E
  have hmd := hmd.ext E
  have hx := hx.trans E
  have Hcj := Lib.hid (fun w' he => hcj'.out w' (E.trans he))
  clear hx7 E t20 t21 hcj'
  generalize w6.heap.size = p1 at *
  have hcl' := Lib.hid hcl
  clear hcl
  have t20 := Ext.cells hT2.c0
  have t21 := Ext.cells hT2.c1
  (repeat (first | go_values | go_skip | go_guarded | go_step | go_upon))
  go_at_call 26
  refine (free_any (some ⟨gd, 0, none⟩) 1 3 diffL _ (hmd.ext ((Ext.refl _).alloc _)) (by decide)).mono ?_
  rintro e w8 ⟨rfl, hx8⟩
  simp only []
  have E : Ext w7 w8 := ((Ext.refl _).alloc _).trans hx8
  have hP2 := GOk.ext (GOk.new (W := w7) (u0 := .slice D1 s1 f1) (u1 := .slice D2 s2 f2) (u2 := .slice D3 s3 f3) rfl) hx8
  have hT1 := hT1.ext E
  have hT2 := hT2.ext E
  have hP1 := hP1.ext E
  have hx := hx.trans E
  have Hcj := Lib.hid (fun w' he => Hcj.out w' (E.trans he))
  have Hcl := Lib.hid (fun w' he => hcl'.out w' (E.trans he))
  clear hx8 E t20 t21 hcl' hmd
  generalize w7.heap.size = p2 at *
  rw [diff_free, show trainE 3 diffL = 0 by decide]
  (repeat (first | go_values | go_skip | go_guarded | go_step | go_upon))
  go_at_call 50
  refine (first_any (some ⟨w8.heap.size, 0, none⟩) 1 [⟨7, 0, 1, 0, 0, 0⟩] _ (mrow_lit (heap_alloc_new w8 _)) (by decide)).mono ?_
  rintro e w9 ⟨h9, c9, rfl, hx9, hm9⟩
  simp only []
  (repeat (first | go_values | go_skip | go_guarded | go_step | go_upon))
  go_at_call 31
  refine (slips_any (some ⟨h9, 0, none⟩) c9 3 clutL 0 _ hm9 (by decide)).mono ?_
  rintro e w10 ⟨A10, d10, rfl, hi10, hx10⟩
  simp only []
  have E : Ext w8 w10 := (((Ext.refl _).alloc _).trans hx9).trans hx10
  rw [clut_slipL.1] at hi10
  rw [clut_slipL.1, clut_slipL.2]
  have hT1 := hT1.ext E
  have hT2 := hT2.ext E
  have hP1 := hP1.ext E
  have hP2 := hP2.ext E
  have hx := hx.trans E
  have Hcj := Lib.hid (fun w' he => Hcj.out w' (E.trans he))
  have Hcl := Lib.hid (fun w' he => Hcl.out w' (E.trans he))
  clear hx9 hx10 E hm9
  (repeat (first | go_values | go_skip | go_guarded | go_step | go_upon))
  go_at_call 14
  refine (places_good (some ⟨w10.heap.size, 0, none⟩) 3 [5, 5, 0] 3 1 7 _ (row_heap (heap_alloc_new w10 _)) (by decide) (by decide) (by decide)).mono ?_
  rintro e w11 ⟨v11, rfl, hown⟩
  simp only []
  obtain ⟨A11, c11, rfl⟩ := hown.form
  have hi11 := hown.row
  have E : Ext w10 w11 := ((Ext.refl _).alloc _).trans hown.ext
  have hT1 := hT1.ext E
  have hT2 := hT2.ext E
  have hP1 := hP1.ext E
  have hP2 := hP2.ext E
  have hi10 := hi10.ext E
  have hx := hx.trans E
  have Hcj := Lib.hid (fun w' he => Hcj.out w' (E.trans he))
  have Hcl := Lib.hid (fun w' he => Hcl.out w' (E.trans he))
  clear E hown
  rw [show placesL [5, 5, 0] 3 1 (7 + 1) = [0, 1, 1, 0, 1, 1, 0, 1] by decide] at hi11
  rw [show placesL [5, 5, 0] 3 1 (7 + 1) = [0, 1, 1, 0, 1, 1, 0, 1] by decide]
  (repeat (first | go_values | go_skip | go_guarded | go_step | go_upon))
  go_at_call 50
  refine (first_any none 0 [] _ (Row.nil _ _) (by decide)).mono ?_
  rintro e w12 ⟨h12, c12, rfl, hx12, hm12⟩
  simp only []
  (repeat (first | go_values | go_skip | go_guarded | go_step | go_upon))
  go_at_call 51
  refine (is_any (some ⟨h12, 0, none⟩) c12 3 0 2 1 3 fstL _ hm12 (by decide) fst_ask fst_rat).mono ?_
  rintro e w13 ⟨rfl, hx13⟩
  simp only []
  have E : Ext w11 w13 := hx12.trans hx13
  have hT1 := hT1.ext E
  have hT2 := hT2.ext E
  have hP1 := hP1.ext E
  have hP2 := hP2.ext E
  have hi10 := hi10.ext E
  have hi11 := hi11.ext E
  have hx := hx.trans E
  have Hcj := Lib.hid (fun w' he => Hcj.out w' (E.trans he))
  have Hcl := Lib.hid (fun w' he => Hcl.out w' (E.trans he))
  clear hx12 hx13 E hm12
  have t10 := Ext.cells hT1.c0
  have t11 := Ext.cells hT1.c1
  have q10 := Ext.cells hP1.c0
  have q11 := Ext.cells hP1.c1
  have q12 := Ext.cells hP1.c2
  (repeat (first | go_values | go_skip | go_guarded | go_step | go_upon))
  go_at_call 39
  refine (Hcj.out _ (Ext.refl _)).mono ?_
  rintro e w14 ⟨rfl, hx14⟩
  simp only []
  have E := hx14
  have hT2 := hT2.ext E
  have hP2 := hP2.ext E
  have hi10 := hi10.ext E
  have hi11 := hi11.ext E
  have hx := hx.trans E
  have Hcl := Lib.hid (fun w' he => Hcl.out w' (E.trans he))
  clear hx14 E Hcj t10 t11 q10 q11 q12 hT1 hP1
  have t10 := Ext.cells hT2.c0
  have t11 := Ext.cells hT2.c1
  have q10 := Ext.cells hP2.c0
  have q11 := Ext.cells hP2.c1
  have q12 := Ext.cells hP2.c2
  (repeat (first | go_values | go_skip | go_guarded | go_step | go_upon))
  go_at_call 41
  refine (Hcl.out _ (Ext.refl _)).mono ?_
  rintro e w15 ⟨rfl, hx15⟩
  simp only []
  have E := hx15
  have hi10 := hi10.ext E
  have hi11 := hi11.ext E
  have hx := hx.trans E
  clear hx15 E Hcl t10 t11 q10 q11 q12 hT2 hP2
  (repeat (first | go_values | go_skip | go_guarded | go_step | go_upon))
  go_at_call 16
  refine (same_ints A10 (some ⟨w15.heap.size, 0, none⟩) d10 1 [2] [2] _ (hi10.ext ((Ext.refl _).alloc _)) (row_heap (heap_alloc_new w15 _)) (by decide)).mono ?_
  rintro e w16 ⟨rfl, hx16⟩
  simp only []
  have E : Ext w15 w16 := ((Ext.refl _).alloc _).trans hx16
  have hi11 := hi11.ext E
  have hx := hx.trans E
  clear hx16 E hi10
  rw [show sameB [2] [2] = true from decide_eq_true rfl]
  (repeat (first | go_values | go_skip | go_guarded | go_step | go_upon))
  go_at_call 16
  refine (same_ints A11 (some ⟨w16.heap.size, 0, none⟩) c11 8 [0, 1, 1, 0, 1, 1, 0, 1] [0, 1, 1, 0, 1, 1, 0, 1] _ (hi11.ext ((Ext.refl _).alloc _)) (row_heap (heap_alloc_new w16 _)) (by decide)).mono ?_
  rintro e w17 ⟨rfl, hx17⟩
  simp only []
  have hx : Ext w w17 := hx.trans (((Ext.refl _).alloc _).trans hx17)
  rw [show sameB [0, 1, 1, 0, 1, 1, 0, 1] [0, 1, 1, 0, 1, 1, 0, 1] = true from decide_eq_true rfl]
  (repeat (first | go_values | go_skip | go_guarded | go_step | go_upon))
  go_ret
  exact ⟨rfl, hx⟩
end Go.Proofs.Ytbclbcldplmppaa

/- The laws' own helpers: verdict. -/
namespace Go.Proofs.Ytbclbcldplmppaa
open Go.RowKit

theorem askE_cases (s : Int) (ms : List Msh) (l : List Int) : askE s ms l = 0 ∨ askE s ms l = 2 ∨ askE s ms l = 40 := by
  unfold askE
  split
  · split <;> simp
  · simp

set_option maxRecDepth 100000 in
set_option maxHeartbeats 8000000 in
theorem verdict_any (A : Option Addr) (c : Nat) (s i o : Int) (ms : List Msh) (w : World) (hA : MRow w A ms) (hl : ms.length ≤ 1000) :
    Calls Try.prog 44 #[.agg #[.int .i64 s, .slice A ms.length c], .int .i64 i, .int .i64 o] w fun e w' => e = .returned (.tuple #[.int .i64 (verdE s ms i o), .bool true]) ∧ Ext w w' := by
  have c34 : ∀ (w' : World) (_ : Ext w w'), Calls Try.prog 34 #[.agg #[.int .i64 s, .slice A ms.length c], .int .i64 i, .int .i64 o] w' fun e w'' => ∃ (B1 B2 B3 : Option Addr) (r1 d1 r2 d2 r3 d3 : Nat) (num den : Int), e = .returned (.tuple #[.int .i64 num, .int .i64 den, .agg #[.slice B1 r1 d1, .slice B2 r2 d2, .slice B3 r3 d3], .int .i64 (verdE s ms i o)]) ∧ Ext w' w'' ∧
      (((verdE s ms i o = 2 ∨ verdE s ms i o = 40) ∧ num = 0 ∧ den = 0 ∧ r1 = 0 ∧ r2 = 0 ∧ r3 = 0) ∨
      (verdE s ms i o = 41 ∧ num = 0 ∧ den = 0 ∧ ∀ w3, Ext w'' w3 → Calls Try.prog 39 #[.agg #[.int .i64 s, .slice A ms.length c], .int .i64 i, .agg #[.slice B1 r1 d1, .slice B2 r2 d2, .slice B3 r3 d3]] w3 fun e w4 => e = .returned (.int .i64 0) ∧ Ext w3 w4) ∨
      (verdE s ms i o = 42 ∧ num = 0 ∧ den = 0 ∧ ∀ w3, Ext w'' w3 → Calls Try.prog 41 #[.agg #[.int .i64 s, .slice A ms.length c], .int .i64 i, .int .i64 o, .agg #[.slice B1 r1 d1, .slice B2 r2 d2, .slice B3 r3 d3]] w3 fun e w4 => e = .returned (.int .i64 0) ∧ Ext w3 w4) ∨
      (verdE s ms i o = 0 ∧ ∀ w3, Ext w'' w3 → Calls Try.prog 37 #[.agg #[.int .i64 s, .slice A ms.length c], .int .i64 i, .int .i64 o, .int .i64 num, .int .i64 den, .agg #[.slice B1 r1 d1, .slice B2 r2 d2, .slice B3 r3 d3]] w3 fun e w4 => e = .returned (.int .i64 0) ∧ Ext w3 w4)) := fun w' he => by
    refine (ratio_any A c s i o ms w' (hA.ext he) (by omega)).mono fun e w'' h => ?_
    obtain ⟨rn, rd, B1, B2, B3, d1, d2, d3, F, M, T, h0, h1, h2, h3, hx, hok⟩ := h
    have hls := hok.lens hl
    refine ⟨B1, B2, B3, _, d1, _, d2, _, d3, rn, rd, h0, hx, ?_⟩
    rcases hok with ⟨hz, hn, hd, rfl, rfl, rfl⟩ | ⟨hz, ⟨hv, hn, hd, hp⟩ | ⟨hv, hn, hd, hp⟩ | ⟨hv, hp⟩⟩
    · refine .inl ⟨?_, hn, hd, rfl, rfl, rfl⟩
      rw [show verdE s ms i o = askE s ms [i, o] from if_neg hz]
      rcases askE_cases s ms [i, o] with h | h | h
      · exact absurd h hz
      · exact .inl h
      · exact .inr h
    · refine .inr (.inl ⟨hv, hn, hd, fun w3 hx3 => ?_⟩)
      have := checkJam_any A c s ms i B1 B2 B3 d1 d2 d3 F M T w3 (hA.ext (he.trans (hx.trans hx3))) (by omega) (h1.ext hx3) (by omega)
      rw [jamE_ok (ask_fst hz) hp] at this
      exact this
    · refine .inr (.inr (.inl ⟨hv, hn, hd, fun w3 hx3 => ?_⟩))
      have := checkLoose_any A c s ms i o B1 B2 B3 d1 d2 d3 F M T w3 (hA.ext (he.trans (hx.trans hx3))) (by omega) (h2.ext hx3) (h3.ext hx3) (by omega) (by omega)
      rw [looseE_ok hz hp] at this
      exact this
    · refine .inr (.inr (.inr ⟨hv, fun w3 hx3 => ?_⟩))
      have hfit : (-9223372036854775808 ≤ rn ∧ rn ≤ 9223372036854775807) ∧ rd ≤ 9223372036854775807 ∧ 1 ≤ rd := by
        obtain ⟨S, I, O, rfl, rfl, rfl, hi, ho, ht⟩ := ask_two hz
        exact ratPr.fit ht hi ho hp
      have := checkRatio_any A c s ms i o rn rd B1 B2 B3 d1 d2 d3 F M T w3 (hA.ext (he.trans (hx.trans hx3))) (by omega) (h1.ext hx3) (h2.ext hx3) (by omega) (by omega) hfit.2.1 hfit.1
      rw [ratE_ok hz hp] at this
      exact this
  have C34 := Lib.hid c34
  clear c34 hA
  generalize ms.length = m at *
  generalize verdE s ms i o = vE at *
  go_enter Try.func44, Try.ntmps44
  have t0 : ∀ w', Ext (w.alloc (.cells #[.int .i64 s, .slice A m c] 41)) w' → w'.cell? ⟨w.heap.size, 0, none⟩ = some (.int .i64 s) := fun w' he => he.cell (cells_last rfl rfl)
  have t1 : ∀ w', Ext (w.alloc (.cells #[.int .i64 s, .slice A m c] 41)) w' → w'.cell? ⟨w.heap.size, 1, none⟩ = some (.slice A m c) := fun w' he => he.cell (cells_last rfl rfl)
  have hxb : Ext w (w.alloc (.cells #[.int .i64 s, .slice A m c] 41)) := (Ext.refl w).alloc _
  (repeat (first | go_values | go_skip | go_guarded | go_step | go_upon))
  go_at_call 34
  refine (C34.out _ hxb).mono ?_
  rintro e w2 ⟨B1, B2, B3, r1, d1, r2, d2, r3, d3, num, den, rfl, hx2, hcs⟩
  have hx3 := hx2.alloc (.cells #[.slice B1 r1 d1, .slice B2 r2 d2, .slice B3 r3 d3] 60)
  have p0 : ∀ w', Ext (w2.alloc (.cells #[.slice B1 r1 d1, .slice B2 r2 d2, .slice B3 r3 d3] 60)) w' → w'.cell? ⟨w2.heap.size, 0, none⟩ = some (.slice B1 r1 d1) := fun w' he => he.cell (cells_last rfl rfl)
  have p1 : ∀ w', Ext (w2.alloc (.cells #[.slice B1 r1 d1, .slice B2 r2 d2, .slice B3 r3 d3] 60)) w' → w'.cell? ⟨w2.heap.size, 1, none⟩ = some (.slice B2 r2 d2) := fun w' he => he.cell (cells_last rfl rfl)
  have p2 : ∀ w', Ext (w2.alloc (.cells #[.slice B1 r1 d1, .slice B2 r2 d2, .slice B3 r3 d3] 60)) w' → w'.cell? ⟨w2.heap.size, 2, none⟩ = some (.slice B3 r3 d3) := fun w' he => he.cell (cells_last rfl rfl)
  simp only []
  rcases hcs with ⟨hv | hv, rfl, rfl, rfl, rfl, rfl⟩ | ⟨rfl, rfl, rfl, hck⟩ | ⟨rfl, rfl, rfl, hck⟩ | ⟨rfl, hck⟩
  rotate_left 2
  · have Hck := Lib.hid hck
    clear hck
    (repeat (first
      | (go_at_call 39; refine (Hck.out _ ((Ext.refl _).alloc _)).mono ?_; rintro e w4 ⟨rfl, hx4⟩; simp only [])
      | go_values | go_skip | go_guarded | go_step | go_upon))
    go_ret2
    exact ⟨rfl, hxb.trans (hx3.trans hx4)⟩
  · have Hck := Lib.hid hck
    clear hck
    (repeat (first
      | (go_at_call 41; refine (Hck.out _ ((Ext.refl _).alloc _)).mono ?_; rintro e w4 ⟨rfl, hx4⟩; simp only [])
      | go_values | go_skip | go_guarded | go_step | go_upon))
    go_ret2
    exact ⟨rfl, hxb.trans (hx3.trans hx4)⟩
  · have Hck := Lib.hid hck
    clear hck
    (repeat (first
      | (go_at_call 37; refine (Hck.out _ ((Ext.refl _).alloc _)).mono ?_; rintro e w4 ⟨rfl, hx4⟩; simp only [])
      | go_values | go_skip | go_guarded | go_step | go_upon))
    go_ret2
    exact ⟨rfl, hxb.trans (hx3.trans hx4)⟩
  all_goals
    subst hv
    (repeat (first | go_values | go_skip | go_guarded | go_step | go_upon))
    go_region_held3 (fun w' => Ext (w2.alloc (.cells #[.slice B1 0 d1, .slice B2 0 d2, .slice B3 0 d3] 60)) w') (first | assumption | (simp (maxDischargeDepth := 8); done) | fail) (fail)
    (repeat (first | go_values | go_skip | go_guarded | go_step | go_upon))
    go_ret2
    exact ⟨rfl, hxb.trans (Ext.drew hx3)⟩
end Go.Proofs.Ytbclbcldplmppaa

/- GearProved: the law's own walk. -/
namespace Go.Proofs.Ytbclbcldplmppaa
open Go.RowKit

set_option maxRecDepth 100000 in
set_option maxHeartbeats 8000000 in
theorem proved_law (A : Option Addr) (c : Nat) (s : Int) (ms : List Msh) (i o num den : Int) (A1 A2 A3 : Option Addr) (c1 c2 c3 : Nat) (F M T : List Int) (w : World) (hA : MRow w A ms) (h1 : Ints w A1 F) (h2 : Ints w A2 M) (h3 : Ints w A3 T) (hden : den ≤ 9223372036854775807) (hnum : -9223372036854775808 ≤ num ∧ num ≤ 9223372036854775807) :
    Calls Try.prog 6 #[.agg #[.int .i64 s, .slice A ms.length c], .int .i64 i, .int .i64 o, .int .i64 num, .int .i64 den, .agg #[.slice A1 F.length c1, .slice A2 M.length c2, .slice A3 T.length c3]] w fun e w' => e = .returned (.bool true) ∧ Ext w w' := by
  have hg := fun (w' : World) => great_any A c ms.length s w'
  have hgp := fun (w' : World) => greatProof_any A1 A2 A3 c1 c2 c3 F.length M.length T.length w'
  by_cases g1 : 30 < ms.length
  · have e1 : decide ((30 : Int) < (ms.length : Int)) = true := by simp; omega
    rw [e1] at hg
    have Hg := Lib.hid hg
    clear hg hgp hA h1 h2 h3 e1
    generalize ms.length = m at *
    generalize F.length = q1 at *
    generalize M.length = q2 at *
    generalize T.length = q3 at *
    go_enter Try.func6, Try.ntmps6
    have t0 : ∀ w', Ext ((w.alloc (.cells #[.int .i64 s, .slice A m c] 41)).alloc (.cells #[.slice A1 q1 c1, .slice A2 q2 c2, .slice A3 q3 c3] 60)) w' → w'.cell? ⟨w.heap.size, 0, none⟩ = some (.int .i64 s) := fun w' he => cells_one rfl w' (Ext.trans ((Ext.refl _).alloc _) he)
    have t1 : ∀ w', Ext ((w.alloc (.cells #[.int .i64 s, .slice A m c] 41)).alloc (.cells #[.slice A1 q1 c1, .slice A2 q2 c2, .slice A3 q3 c3] 60)) w' → w'.cell? ⟨w.heap.size, 1, none⟩ = some (.slice A m c) := fun w' he => cells_one rfl w' (Ext.trans ((Ext.refl _).alloc _) he)
    have p0 : ∀ w', Ext ((w.alloc (.cells #[.int .i64 s, .slice A m c] 41)).alloc (.cells #[.slice A1 q1 c1, .slice A2 q2 c2, .slice A3 q3 c3] 60)) w' → w'.cell? ⟨w.heap.size + 1, 0, none⟩ = some (.slice A1 q1 c1) := fun w' he => he.cell (cells_last (by simp) rfl)
    have p1 : ∀ w', Ext ((w.alloc (.cells #[.int .i64 s, .slice A m c] 41)).alloc (.cells #[.slice A1 q1 c1, .slice A2 q2 c2, .slice A3 q3 c3] 60)) w' → w'.cell? ⟨w.heap.size + 1, 1, none⟩ = some (.slice A2 q2 c2) := fun w' he => he.cell (cells_last (by simp) rfl)
    have p2 : ∀ w', Ext ((w.alloc (.cells #[.int .i64 s, .slice A m c] 41)).alloc (.cells #[.slice A1 q1 c1, .slice A2 q2 c2, .slice A3 q3 c3] 60)) w' → w'.cell? ⟨w.heap.size + 1, 2, none⟩ = some (.slice A3 q3 c3) := fun w' he => he.cell (cells_last (by simp) rfl)
    have hxb : Ext w ((w.alloc (.cells #[.int .i64 s, .slice A m c] 41)).alloc (.cells #[.slice A1 q1 c1, .slice A2 q2 c2, .slice A3 q3 c3] 60)) := ((Ext.refl w).alloc _).alloc _
    (repeat (first
      | (go_at_call 43; refine (alive_any _).mono ?_; rintro e w1 ⟨rfl, hx1⟩; have b1 := hx1; simp only [])
      | (go_at_call 21; refine (Hg.out _).mono ?_; rintro e w2 ⟨rfl, hx2⟩; have b2 := b1.trans hx2; simp only [])
      | go_values | go_skip | go_guarded | go_step | go_upon))
    go_ret
    exact ⟨rfl, hxb.trans b2⟩
  have e1 : decide ((30 : Int) < (ms.length : Int)) = false := by simp; omega
  rw [e1] at hg
  have Hg := Lib.hid hg
  clear hg e1
  cases e2 : (decide ((100 : Int) < (F.length : Int)) || decide ((100 : Int) < (M.length : Int)) || decide ((100 : Int) < (T.length : Int)))
  case true =>
    rw [e2] at hgp
    have Hgp := Lib.hid hgp
    clear hgp hA h1 h2 h3 e2
    generalize ms.length = m at *
    generalize F.length = q1 at *
    generalize M.length = q2 at *
    generalize T.length = q3 at *
    go_enter Try.func6, Try.ntmps6
    have t0 : ∀ w', Ext ((w.alloc (.cells #[.int .i64 s, .slice A m c] 41)).alloc (.cells #[.slice A1 q1 c1, .slice A2 q2 c2, .slice A3 q3 c3] 60)) w' → w'.cell? ⟨w.heap.size, 0, none⟩ = some (.int .i64 s) := fun w' he => cells_one rfl w' (Ext.trans ((Ext.refl _).alloc _) he)
    have t1 : ∀ w', Ext ((w.alloc (.cells #[.int .i64 s, .slice A m c] 41)).alloc (.cells #[.slice A1 q1 c1, .slice A2 q2 c2, .slice A3 q3 c3] 60)) w' → w'.cell? ⟨w.heap.size, 1, none⟩ = some (.slice A m c) := fun w' he => cells_one rfl w' (Ext.trans ((Ext.refl _).alloc _) he)
    have p0 : ∀ w', Ext ((w.alloc (.cells #[.int .i64 s, .slice A m c] 41)).alloc (.cells #[.slice A1 q1 c1, .slice A2 q2 c2, .slice A3 q3 c3] 60)) w' → w'.cell? ⟨w.heap.size + 1, 0, none⟩ = some (.slice A1 q1 c1) := fun w' he => he.cell (cells_last (by simp) rfl)
    have p1 : ∀ w', Ext ((w.alloc (.cells #[.int .i64 s, .slice A m c] 41)).alloc (.cells #[.slice A1 q1 c1, .slice A2 q2 c2, .slice A3 q3 c3] 60)) w' → w'.cell? ⟨w.heap.size + 1, 1, none⟩ = some (.slice A2 q2 c2) := fun w' he => he.cell (cells_last (by simp) rfl)
    have p2 : ∀ w', Ext ((w.alloc (.cells #[.int .i64 s, .slice A m c] 41)).alloc (.cells #[.slice A1 q1 c1, .slice A2 q2 c2, .slice A3 q3 c3] 60)) w' → w'.cell? ⟨w.heap.size + 1, 2, none⟩ = some (.slice A3 q3 c3) := fun w' he => he.cell (cells_last (by simp) rfl)
    have hxb : Ext w ((w.alloc (.cells #[.int .i64 s, .slice A m c] 41)).alloc (.cells #[.slice A1 q1 c1, .slice A2 q2 c2, .slice A3 q3 c3] 60)) := ((Ext.refl w).alloc _).alloc _
    (repeat (first
      | (go_at_call 43; refine (alive_any _).mono ?_; rintro e w1 ⟨rfl, hx1⟩; have b1 := hx1; simp only [])
      | (go_at_call 21; refine (Hg.out _).mono ?_; rintro e w2 ⟨rfl, hx2⟩; have b2 := b1.trans hx2; simp only [])
      | (go_at_call 33; refine (Hgp.out _).mono ?_; rintro e w3 ⟨rfl, hx3⟩; have b3 := b2.trans hx3; simp only [])
      | go_values | go_skip | go_guarded | go_step | go_upon))
    go_ret
    exact ⟨rfl, hxb.trans b3⟩
  have hl : ms.length ≤ 1000000 := by omega
  have hl1 : F.length ≤ 1000000 := by simp only [Bool.or_eq_false_iff, decide_eq_false_iff_not] at e2; omega
  have hl2 : M.length ≤ 1000000 := by simp only [Bool.or_eq_false_iff, decide_eq_false_iff_not] at e2; omega
  have hl3 : T.length ≤ 1000000 := by simp only [Bool.or_eq_false_iff, decide_eq_false_iff_not] at e2; omega
  rw [e2] at hgp
  have Hgp := Lib.hid hgp
  have c44 := fun (w' : World) (he : Ext w w') => verdict_any A c s i o ms w' (hA.ext he) (by omega)
  have c45 := fun (w' : World) (he : Ext w w') => train_ref A c s ms w' (hA.ext he) hl
  have c39 := fun (w' : World) (he : Ext w w') => checkJam_any A c s ms i A1 A2 A3 c1 c2 c3 F M T w' (hA.ext he) hl (h1.ext he) hl1
  have c41 := fun (w' : World) (he : Ext w w') => checkLoose_any A c s ms i o A1 A2 A3 c1 c2 c3 F M T w' (hA.ext he) hl (h2.ext he) (h3.ext he) hl2 hl3
  have c37 := fun (w' : World) (he : Ext w w') => checkRatio_any A c s ms i o num den A1 A2 A3 c1 c2 c3 F M T w' (hA.ext he) hl (h1.ext he) (h2.ext he) hl1 hl2 hden hnum
  have C44 := Lib.hid c44
  have C45 := Lib.hid c45
  clear hgp c44 c45 e2
  by_cases hz : askE s ms [i, o] = 0
  · have hok : ∃ n d F' M' T', ratOk s ms i o n d (verdE s ms i o) F' M' T' := by
      obtain ⟨S, I, O, rfl, rfl, rfl, hi, ho, ht⟩ := ask_two hz
      exact ok_exists ht hi ho
    have hj : jamE s ms i F M T = 0 → verdE s ms i o = 41 := fun h => by
      unfold jamE at h
      rw [if_pos (ask_fst hz)] at h
      split at h
      · rename_i hd
        obtain ⟨n, d, F', M', T', hok⟩ := hok
        exact (hok.of_jam hz (of_decide_eq_true hd)).1
      · omega
    have hlo : looseE s ms i o F M T = 0 → verdE s ms i o = 42 := fun h => by
      unfold looseE at h
      rw [if_pos hz] at h
      split at h
      · rename_i hd
        obtain ⟨n, d, F', M', T', hok⟩ := hok
        exact (hok.of_loose hz (of_decide_eq_true hd)).1
      · omega
    have hra : ratE s ms i o num den F M T = 0 → verdE s ms i o = 0 ∧ ∀ (w' : World) (_ : Ext w w'), Calls Try.prog 34 #[.agg #[.int .i64 s, .slice A ms.length c], .int .i64 i, .int .i64 o] w' fun e w'' => ∃ (B1 B2 B3 : Option Addr) (r1 d1 r2 d2 r3 d3 : Nat), e = .returned (.tuple #[.int .i64 num, .int .i64 den, .agg #[.slice B1 r1 d1, .slice B2 r2 d2, .slice B3 r3 d3], .int .i64 0]) ∧ Ext w' w'' := fun h => by
      unfold ratE at h
      rw [if_pos hz] at h
      split at h
      · rename_i hd
        have hd := of_decide_eq_true hd
        constructor
        · obtain ⟨n, d, F', M', T', hok⟩ := hok
          exact (hok.of_rat hz hd).1
        · intro w' he
          refine (ratio_any A c s i o ms w' (hA.ext he) hl).mono fun e w'' h => ?_
          obtain ⟨rn, rd, B1, B2, B3, d1, d2, d3, F', M', T', h0, _, _, _, hx, hok⟩ := h
          obtain ⟨e0, rfl, rfl, hp⟩ := hok.of_rat hz hd
          exact ⟨B1, B2, B3, _, d1, _, d2, _, d3, by rw [h0, e0], hx⟩
      · omega
    have hv3 : verdE s ms i o = 0 ∨ verdE s ms i o = 41 ∨ verdE s ms i o = 42 := by
      obtain ⟨n, d, F', M', T', h⟩ := hok
      rcases h with ⟨h, _⟩ | ⟨_, ⟨h, _⟩ | ⟨h, _⟩ | ⟨h, _⟩⟩
      · exact absurd hz h
      · exact .inr (.inl h)
      · exact .inr (.inr h)
      · exact .inl h
    have htB : trainB s ms = true := (askE_zero hz).1
    have hib : 0 ≤ i ∧ i < s := (askE_zero hz).2 i (by simp)
    have hob : 0 ≤ o ∧ o < s := (askE_zero hz).2 o (by simp)
    have C39 := Lib.hid c39
    have C41 := Lib.hid c41
    have C37 := Lib.hid c37
    rw [htB] at C45
    clear c39 c41 c37 hok hA h1 h2 h3 hz htB hl1 hl2 hl3 hnum hden g1
    generalize ratE s ms i o num den F M T = eR at *
    generalize jamE s ms i F M T = eJ at *
    generalize looseE s ms i o F M T = eL at *
    generalize verdE s ms i o = vE at *
    generalize ms.length = m at *
    generalize F.length = q1 at *
    generalize M.length = q2 at *
    generalize T.length = q3 at *
    have Hra := Lib.hid hra
    have hr0 : eR = 0 → vE = 0 := fun h => (Hra.out h).1
    clear hra
    obtain ⟨hi0, hi1⟩ := hib
    obtain ⟨ho0, ho1⟩ := hob
    rcases hv3 with rfl | rfl | rfl
    · have nj : ¬ eJ = 0 := fun h => by have := hj h; omega
      have nl : ¬ eL = 0 := fun h => by have := hlo h; omega
      clear hj hlo hr0
      by_cases nr : eR = 0
      · have C34 := Lib.hid (Hra.out nr).2
        subst nr
        clear Hra
        go_enter Try.func6, Try.ntmps6
        have t0 : ∀ w', Ext ((w.alloc (.cells #[.int .i64 s, .slice A m c] 41)).alloc (.cells #[.slice A1 q1 c1, .slice A2 q2 c2, .slice A3 q3 c3] 60)) w' → w'.cell? ⟨w.heap.size, 0, none⟩ = some (.int .i64 s) := fun w' he => cells_one rfl w' (Ext.trans ((Ext.refl _).alloc _) he)
        have t1 : ∀ w', Ext ((w.alloc (.cells #[.int .i64 s, .slice A m c] 41)).alloc (.cells #[.slice A1 q1 c1, .slice A2 q2 c2, .slice A3 q3 c3] 60)) w' → w'.cell? ⟨w.heap.size, 1, none⟩ = some (.slice A m c) := fun w' he => cells_one rfl w' (Ext.trans ((Ext.refl _).alloc _) he)
        have p0 : ∀ w', Ext ((w.alloc (.cells #[.int .i64 s, .slice A m c] 41)).alloc (.cells #[.slice A1 q1 c1, .slice A2 q2 c2, .slice A3 q3 c3] 60)) w' → w'.cell? ⟨w.heap.size + 1, 0, none⟩ = some (.slice A1 q1 c1) := fun w' he => he.cell (cells_last (by simp) rfl)
        have p1 : ∀ w', Ext ((w.alloc (.cells #[.int .i64 s, .slice A m c] 41)).alloc (.cells #[.slice A1 q1 c1, .slice A2 q2 c2, .slice A3 q3 c3] 60)) w' → w'.cell? ⟨w.heap.size + 1, 1, none⟩ = some (.slice A2 q2 c2) := fun w' he => he.cell (cells_last (by simp) rfl)
        have p2 : ∀ w', Ext ((w.alloc (.cells #[.int .i64 s, .slice A m c] 41)).alloc (.cells #[.slice A1 q1 c1, .slice A2 q2 c2, .slice A3 q3 c3] 60)) w' → w'.cell? ⟨w.heap.size + 1, 2, none⟩ = some (.slice A3 q3 c3) := fun w' he => he.cell (cells_last (by simp) rfl)
        have hxb : Ext w ((w.alloc (.cells #[.int .i64 s, .slice A m c] 41)).alloc (.cells #[.slice A1 q1 c1, .slice A2 q2 c2, .slice A3 q3 c3] 60)) := ((Ext.refl w).alloc _).alloc _
        (repeat (first
          | (go_at_call 43; refine (alive_any _).mono ?_; rintro e w1 ⟨rfl, hx1⟩; have b1 := hx1; simp only [])
          | (go_at_call 21; refine (Hg.out _).mono ?_; rintro e w2 ⟨rfl, hx2⟩; have b2 := b1.trans hx2; simp only [])
          | (go_at_call 33; refine (Hgp.out _).mono ?_; rintro e w3 ⟨rfl, hx3⟩; have b3 := b2.trans hx3; simp only [])
          | (go_at_call 44; refine (C44.out _ (hxb.trans b3)).mono ?_; rintro e w4 ⟨rfl, hx4⟩; have b4 := b3.trans hx4; simp only [])
          | (go_at_call 45; refine (C45.out _ (hxb.trans b4)).mono ?_; rintro e w5 ⟨rfl, hx5⟩; have b5 := b4.trans hx5; simp only [])
          | (go_at_call 39; refine (C39.out _ (hxb.trans b5)).mono ?_; rintro e w6 ⟨rfl, hx6⟩; have b6 := b5.trans hx6; simp only [])
          | (go_at_call 41; refine (C41.out _ (hxb.trans b6)).mono ?_; rintro e w7 ⟨rfl, hx7⟩; have b7 := b6.trans hx7; simp only [])
          | (go_at_call 37; refine (C37.out _ (hxb.trans b7)).mono ?_; rintro e w8 ⟨rfl, hx8⟩; have b8 := b7.trans hx8; simp only [])
          | (go_at_call 34; refine (C34.out _ (hxb.trans b8)).mono ?_; rintro e w9 ⟨B1, B2, B3, r1, d1, r2, d2, r3, d3, rfl, hx9⟩; have b9 := b8.trans hx9; simp only [])
          | go_values | go_skip | go_guarded | go_step | go_upon))
        go_ret
        exact ⟨rfl, hxb.trans (b9.alloc _)⟩
      · clear Hra
        go_enter Try.func6, Try.ntmps6
        have t0 : ∀ w', Ext ((w.alloc (.cells #[.int .i64 s, .slice A m c] 41)).alloc (.cells #[.slice A1 q1 c1, .slice A2 q2 c2, .slice A3 q3 c3] 60)) w' → w'.cell? ⟨w.heap.size, 0, none⟩ = some (.int .i64 s) := fun w' he => cells_one rfl w' (Ext.trans ((Ext.refl _).alloc _) he)
        have t1 : ∀ w', Ext ((w.alloc (.cells #[.int .i64 s, .slice A m c] 41)).alloc (.cells #[.slice A1 q1 c1, .slice A2 q2 c2, .slice A3 q3 c3] 60)) w' → w'.cell? ⟨w.heap.size, 1, none⟩ = some (.slice A m c) := fun w' he => cells_one rfl w' (Ext.trans ((Ext.refl _).alloc _) he)
        have p0 : ∀ w', Ext ((w.alloc (.cells #[.int .i64 s, .slice A m c] 41)).alloc (.cells #[.slice A1 q1 c1, .slice A2 q2 c2, .slice A3 q3 c3] 60)) w' → w'.cell? ⟨w.heap.size + 1, 0, none⟩ = some (.slice A1 q1 c1) := fun w' he => he.cell (cells_last (by simp) rfl)
        have p1 : ∀ w', Ext ((w.alloc (.cells #[.int .i64 s, .slice A m c] 41)).alloc (.cells #[.slice A1 q1 c1, .slice A2 q2 c2, .slice A3 q3 c3] 60)) w' → w'.cell? ⟨w.heap.size + 1, 1, none⟩ = some (.slice A2 q2 c2) := fun w' he => he.cell (cells_last (by simp) rfl)
        have p2 : ∀ w', Ext ((w.alloc (.cells #[.int .i64 s, .slice A m c] 41)).alloc (.cells #[.slice A1 q1 c1, .slice A2 q2 c2, .slice A3 q3 c3] 60)) w' → w'.cell? ⟨w.heap.size + 1, 2, none⟩ = some (.slice A3 q3 c3) := fun w' he => he.cell (cells_last (by simp) rfl)
        have hxb : Ext w ((w.alloc (.cells #[.int .i64 s, .slice A m c] 41)).alloc (.cells #[.slice A1 q1 c1, .slice A2 q2 c2, .slice A3 q3 c3] 60)) := ((Ext.refl w).alloc _).alloc _
        (repeat (first
          | (go_at_call 43; refine (alive_any _).mono ?_; rintro e w1 ⟨rfl, hx1⟩; have b1 := hx1; simp only [])
          | (go_at_call 21; refine (Hg.out _).mono ?_; rintro e w2 ⟨rfl, hx2⟩; have b2 := b1.trans hx2; simp only [])
          | (go_at_call 33; refine (Hgp.out _).mono ?_; rintro e w3 ⟨rfl, hx3⟩; have b3 := b2.trans hx3; simp only [])
          | (go_at_call 44; refine (C44.out _ (hxb.trans b3)).mono ?_; rintro e w4 ⟨rfl, hx4⟩; have b4 := b3.trans hx4; simp only [])
          | (go_at_call 45; refine (C45.out _ (hxb.trans b4)).mono ?_; rintro e w5 ⟨rfl, hx5⟩; have b5 := b4.trans hx5; simp only [])
          | (go_at_call 39; refine (C39.out _ (hxb.trans b5)).mono ?_; rintro e w6 ⟨rfl, hx6⟩; have b6 := b5.trans hx6; simp only [])
          | (go_at_call 41; refine (C41.out _ (hxb.trans b6)).mono ?_; rintro e w7 ⟨rfl, hx7⟩; have b7 := b6.trans hx7; simp only [])
          | (go_at_call 37; refine (C37.out _ (hxb.trans b7)).mono ?_; rintro e w8 ⟨rfl, hx8⟩; have b8 := b7.trans hx8; simp only [])
          | go_values | go_skip | go_guarded | go_step | go_upon))
        go_ret
        exact ⟨rfl, hxb.trans b8⟩
    · have nr : ¬ eR = 0 := fun h => by have := hr0 h; omega
      have nl : ¬ eL = 0 := fun h => by have := hlo h; omega
      clear hj hlo hr0 Hra
      by_cases nj : eJ = 0
      all_goals
        (try subst nj)
        go_enter Try.func6, Try.ntmps6
        have t0 : ∀ w', Ext ((w.alloc (.cells #[.int .i64 s, .slice A m c] 41)).alloc (.cells #[.slice A1 q1 c1, .slice A2 q2 c2, .slice A3 q3 c3] 60)) w' → w'.cell? ⟨w.heap.size, 0, none⟩ = some (.int .i64 s) := fun w' he => cells_one rfl w' (Ext.trans ((Ext.refl _).alloc _) he)
        have t1 : ∀ w', Ext ((w.alloc (.cells #[.int .i64 s, .slice A m c] 41)).alloc (.cells #[.slice A1 q1 c1, .slice A2 q2 c2, .slice A3 q3 c3] 60)) w' → w'.cell? ⟨w.heap.size, 1, none⟩ = some (.slice A m c) := fun w' he => cells_one rfl w' (Ext.trans ((Ext.refl _).alloc _) he)
        have p0 : ∀ w', Ext ((w.alloc (.cells #[.int .i64 s, .slice A m c] 41)).alloc (.cells #[.slice A1 q1 c1, .slice A2 q2 c2, .slice A3 q3 c3] 60)) w' → w'.cell? ⟨w.heap.size + 1, 0, none⟩ = some (.slice A1 q1 c1) := fun w' he => he.cell (cells_last (by simp) rfl)
        have p1 : ∀ w', Ext ((w.alloc (.cells #[.int .i64 s, .slice A m c] 41)).alloc (.cells #[.slice A1 q1 c1, .slice A2 q2 c2, .slice A3 q3 c3] 60)) w' → w'.cell? ⟨w.heap.size + 1, 1, none⟩ = some (.slice A2 q2 c2) := fun w' he => he.cell (cells_last (by simp) rfl)
        have p2 : ∀ w', Ext ((w.alloc (.cells #[.int .i64 s, .slice A m c] 41)).alloc (.cells #[.slice A1 q1 c1, .slice A2 q2 c2, .slice A3 q3 c3] 60)) w' → w'.cell? ⟨w.heap.size + 1, 2, none⟩ = some (.slice A3 q3 c3) := fun w' he => he.cell (cells_last (by simp) rfl)
        have hxb : Ext w ((w.alloc (.cells #[.int .i64 s, .slice A m c] 41)).alloc (.cells #[.slice A1 q1 c1, .slice A2 q2 c2, .slice A3 q3 c3] 60)) := ((Ext.refl w).alloc _).alloc _
        (repeat (first
          | (go_at_call 43; refine (alive_any _).mono ?_; rintro e w1 ⟨rfl, hx1⟩; have b1 := hx1; simp only [])
          | (go_at_call 21; refine (Hg.out _).mono ?_; rintro e w2 ⟨rfl, hx2⟩; have b2 := b1.trans hx2; simp only [])
          | (go_at_call 33; refine (Hgp.out _).mono ?_; rintro e w3 ⟨rfl, hx3⟩; have b3 := b2.trans hx3; simp only [])
          | (go_at_call 44; refine (C44.out _ (hxb.trans b3)).mono ?_; rintro e w4 ⟨rfl, hx4⟩; have b4 := b3.trans hx4; simp only [])
          | (go_at_call 45; refine (C45.out _ (hxb.trans b4)).mono ?_; rintro e w5 ⟨rfl, hx5⟩; have b5 := b4.trans hx5; simp only [])
          | (go_at_call 39; refine (C39.out _ (hxb.trans b5)).mono ?_; rintro e w6 ⟨rfl, hx6⟩; have b6 := b5.trans hx6; simp only [])
          | (go_at_call 41; refine (C41.out _ (hxb.trans b6)).mono ?_; rintro e w7 ⟨rfl, hx7⟩; have b7 := b6.trans hx7; simp only [])
          | (go_at_call 37; refine (C37.out _ (hxb.trans b7)).mono ?_; rintro e w8 ⟨rfl, hx8⟩; have b8 := b7.trans hx8; simp only [])
          | go_values | go_skip | go_guarded | go_step | go_upon))
        go_ret
        exact ⟨rfl, hxb.trans b8⟩
    · have nr : ¬ eR = 0 := fun h => by have := hr0 h; omega
      have nj : ¬ eJ = 0 := fun h => by have := hj h; omega
      clear hj hlo hr0 Hra
      by_cases nl : eL = 0
      all_goals
        (try subst nl)
        go_enter Try.func6, Try.ntmps6
        have t0 : ∀ w', Ext ((w.alloc (.cells #[.int .i64 s, .slice A m c] 41)).alloc (.cells #[.slice A1 q1 c1, .slice A2 q2 c2, .slice A3 q3 c3] 60)) w' → w'.cell? ⟨w.heap.size, 0, none⟩ = some (.int .i64 s) := fun w' he => cells_one rfl w' (Ext.trans ((Ext.refl _).alloc _) he)
        have t1 : ∀ w', Ext ((w.alloc (.cells #[.int .i64 s, .slice A m c] 41)).alloc (.cells #[.slice A1 q1 c1, .slice A2 q2 c2, .slice A3 q3 c3] 60)) w' → w'.cell? ⟨w.heap.size, 1, none⟩ = some (.slice A m c) := fun w' he => cells_one rfl w' (Ext.trans ((Ext.refl _).alloc _) he)
        have p0 : ∀ w', Ext ((w.alloc (.cells #[.int .i64 s, .slice A m c] 41)).alloc (.cells #[.slice A1 q1 c1, .slice A2 q2 c2, .slice A3 q3 c3] 60)) w' → w'.cell? ⟨w.heap.size + 1, 0, none⟩ = some (.slice A1 q1 c1) := fun w' he => he.cell (cells_last (by simp) rfl)
        have p1 : ∀ w', Ext ((w.alloc (.cells #[.int .i64 s, .slice A m c] 41)).alloc (.cells #[.slice A1 q1 c1, .slice A2 q2 c2, .slice A3 q3 c3] 60)) w' → w'.cell? ⟨w.heap.size + 1, 1, none⟩ = some (.slice A2 q2 c2) := fun w' he => he.cell (cells_last (by simp) rfl)
        have p2 : ∀ w', Ext ((w.alloc (.cells #[.int .i64 s, .slice A m c] 41)).alloc (.cells #[.slice A1 q1 c1, .slice A2 q2 c2, .slice A3 q3 c3] 60)) w' → w'.cell? ⟨w.heap.size + 1, 2, none⟩ = some (.slice A3 q3 c3) := fun w' he => he.cell (cells_last (by simp) rfl)
        have hxb : Ext w ((w.alloc (.cells #[.int .i64 s, .slice A m c] 41)).alloc (.cells #[.slice A1 q1 c1, .slice A2 q2 c2, .slice A3 q3 c3] 60)) := ((Ext.refl w).alloc _).alloc _
        (repeat (first
          | (go_at_call 43; refine (alive_any _).mono ?_; rintro e w1 ⟨rfl, hx1⟩; have b1 := hx1; simp only [])
          | (go_at_call 21; refine (Hg.out _).mono ?_; rintro e w2 ⟨rfl, hx2⟩; have b2 := b1.trans hx2; simp only [])
          | (go_at_call 33; refine (Hgp.out _).mono ?_; rintro e w3 ⟨rfl, hx3⟩; have b3 := b2.trans hx3; simp only [])
          | (go_at_call 44; refine (C44.out _ (hxb.trans b3)).mono ?_; rintro e w4 ⟨rfl, hx4⟩; have b4 := b3.trans hx4; simp only [])
          | (go_at_call 45; refine (C45.out _ (hxb.trans b4)).mono ?_; rintro e w5 ⟨rfl, hx5⟩; have b5 := b4.trans hx5; simp only [])
          | (go_at_call 39; refine (C39.out _ (hxb.trans b5)).mono ?_; rintro e w6 ⟨rfl, hx6⟩; have b6 := b5.trans hx6; simp only [])
          | (go_at_call 41; refine (C41.out _ (hxb.trans b6)).mono ?_; rintro e w7 ⟨rfl, hx7⟩; have b7 := b6.trans hx7; simp only [])
          | (go_at_call 37; refine (C37.out _ (hxb.trans b7)).mono ?_; rintro e w8 ⟨rfl, hx8⟩; have b8 := b7.trans hx8; simp only [])
          | go_values | go_skip | go_guarded | go_step | go_upon))
        go_ret
        exact ⟨rfl, hxb.trans b8⟩
  · have hvE : verdE s ms i o = askE s ms [i, o] := if_neg hz
    rw [hvE] at C44
    clear c39 c41 c37 hA h1 h2 h3 hl1 hl2 hl3 hnum hden g1 hvE
    cases hT : trainB s ms
    · have h40 : askE s ms [i, o] = 40 := askE_bad hT
      rw [h40] at C44
      rw [hT] at C45
      clear h40 hz hT
      generalize ms.length = m at *
      generalize F.length = q1 at *
      generalize M.length = q2 at *
      generalize T.length = q3 at *
      go_enter Try.func6, Try.ntmps6
      have t0 : ∀ w', Ext ((w.alloc (.cells #[.int .i64 s, .slice A m c] 41)).alloc (.cells #[.slice A1 q1 c1, .slice A2 q2 c2, .slice A3 q3 c3] 60)) w' → w'.cell? ⟨w.heap.size, 0, none⟩ = some (.int .i64 s) := fun w' he => cells_one rfl w' (Ext.trans ((Ext.refl _).alloc _) he)
      have t1 : ∀ w', Ext ((w.alloc (.cells #[.int .i64 s, .slice A m c] 41)).alloc (.cells #[.slice A1 q1 c1, .slice A2 q2 c2, .slice A3 q3 c3] 60)) w' → w'.cell? ⟨w.heap.size, 1, none⟩ = some (.slice A m c) := fun w' he => cells_one rfl w' (Ext.trans ((Ext.refl _).alloc _) he)
      have p0 : ∀ w', Ext ((w.alloc (.cells #[.int .i64 s, .slice A m c] 41)).alloc (.cells #[.slice A1 q1 c1, .slice A2 q2 c2, .slice A3 q3 c3] 60)) w' → w'.cell? ⟨w.heap.size + 1, 0, none⟩ = some (.slice A1 q1 c1) := fun w' he => he.cell (cells_last (by simp) rfl)
      have p1 : ∀ w', Ext ((w.alloc (.cells #[.int .i64 s, .slice A m c] 41)).alloc (.cells #[.slice A1 q1 c1, .slice A2 q2 c2, .slice A3 q3 c3] 60)) w' → w'.cell? ⟨w.heap.size + 1, 1, none⟩ = some (.slice A2 q2 c2) := fun w' he => he.cell (cells_last (by simp) rfl)
      have p2 : ∀ w', Ext ((w.alloc (.cells #[.int .i64 s, .slice A m c] 41)).alloc (.cells #[.slice A1 q1 c1, .slice A2 q2 c2, .slice A3 q3 c3] 60)) w' → w'.cell? ⟨w.heap.size + 1, 2, none⟩ = some (.slice A3 q3 c3) := fun w' he => he.cell (cells_last (by simp) rfl)
      have hxb : Ext w ((w.alloc (.cells #[.int .i64 s, .slice A m c] 41)).alloc (.cells #[.slice A1 q1 c1, .slice A2 q2 c2, .slice A3 q3 c3] 60)) := ((Ext.refl w).alloc _).alloc _
      (repeat (first
        | (go_at_call 43; refine (alive_any _).mono ?_; rintro e w1 ⟨rfl, hx1⟩; have b1 := hx1; simp only [])
        | (go_at_call 21; refine (Hg.out _).mono ?_; rintro e w2 ⟨rfl, hx2⟩; have b2 := b1.trans hx2; simp only [])
        | (go_at_call 33; refine (Hgp.out _).mono ?_; rintro e w3 ⟨rfl, hx3⟩; have b3 := b2.trans hx3; simp only [])
        | (go_at_call 44; refine (C44.out _ (hxb.trans b3)).mono ?_; rintro e w4 ⟨rfl, hx4⟩; have b4 := b3.trans hx4; simp only [])
        | (go_at_call 45; refine (C45.out _ (hxb.trans b4)).mono ?_; rintro e w5 ⟨rfl, hx5⟩; have b5 := b4.trans hx5; simp only [])
        | go_values | go_skip | go_guarded | go_step | go_upon))
      go_ret
      exact ⟨rfl, hxb.trans b5⟩
    · rw [hT] at C45
      have h2' : askE s ms [i, o] = 2 := by
        rcases askE_cases s ms [i, o] with h | h | h
        · exact absurd h hz
        · exact h
        · unfold askE at h
          rw [if_pos hT] at h
          split at h <;> omega
      have hout : i < 0 ∨ s ≤ i ∧ 0 ≤ i ∨ o < 0 ∧ 0 ≤ i ∧ i < s ∨ s ≤ o ∧ 0 ≤ o ∧ 0 ≤ i ∧ i < s := by
        by_cases hh : 0 ≤ i ∧ i < s ∧ 0 ≤ o ∧ o < s
        · exact absurd (askE_ok hT (by simp; omega)) hz
        · omega
      rw [h2'] at C44
      clear h2' hz hT
      generalize ms.length = m at *
      generalize F.length = q1 at *
      generalize M.length = q2 at *
      generalize T.length = q3 at *
      rcases hout with k1 | ⟨k1, k2⟩ | ⟨k1, k2, k3⟩ | ⟨k1, k2, k3, k4⟩
      all_goals
        go_enter Try.func6, Try.ntmps6
        have t0 : ∀ w', Ext ((w.alloc (.cells #[.int .i64 s, .slice A m c] 41)).alloc (.cells #[.slice A1 q1 c1, .slice A2 q2 c2, .slice A3 q3 c3] 60)) w' → w'.cell? ⟨w.heap.size, 0, none⟩ = some (.int .i64 s) := fun w' he => cells_one rfl w' (Ext.trans ((Ext.refl _).alloc _) he)
        have t1 : ∀ w', Ext ((w.alloc (.cells #[.int .i64 s, .slice A m c] 41)).alloc (.cells #[.slice A1 q1 c1, .slice A2 q2 c2, .slice A3 q3 c3] 60)) w' → w'.cell? ⟨w.heap.size, 1, none⟩ = some (.slice A m c) := fun w' he => cells_one rfl w' (Ext.trans ((Ext.refl _).alloc _) he)
        have p0 : ∀ w', Ext ((w.alloc (.cells #[.int .i64 s, .slice A m c] 41)).alloc (.cells #[.slice A1 q1 c1, .slice A2 q2 c2, .slice A3 q3 c3] 60)) w' → w'.cell? ⟨w.heap.size + 1, 0, none⟩ = some (.slice A1 q1 c1) := fun w' he => he.cell (cells_last (by simp) rfl)
        have p1 : ∀ w', Ext ((w.alloc (.cells #[.int .i64 s, .slice A m c] 41)).alloc (.cells #[.slice A1 q1 c1, .slice A2 q2 c2, .slice A3 q3 c3] 60)) w' → w'.cell? ⟨w.heap.size + 1, 1, none⟩ = some (.slice A2 q2 c2) := fun w' he => he.cell (cells_last (by simp) rfl)
        have p2 : ∀ w', Ext ((w.alloc (.cells #[.int .i64 s, .slice A m c] 41)).alloc (.cells #[.slice A1 q1 c1, .slice A2 q2 c2, .slice A3 q3 c3] 60)) w' → w'.cell? ⟨w.heap.size + 1, 2, none⟩ = some (.slice A3 q3 c3) := fun w' he => he.cell (cells_last (by simp) rfl)
        have hxb : Ext w ((w.alloc (.cells #[.int .i64 s, .slice A m c] 41)).alloc (.cells #[.slice A1 q1 c1, .slice A2 q2 c2, .slice A3 q3 c3] 60)) := ((Ext.refl w).alloc _).alloc _
        (repeat (first
          | (go_at_call 43; refine (alive_any _).mono ?_; rintro e w1 ⟨rfl, hx1⟩; have b1 := hx1; simp only [])
          | (go_at_call 21; refine (Hg.out _).mono ?_; rintro e w2 ⟨rfl, hx2⟩; have b2 := b1.trans hx2; simp only [])
          | (go_at_call 33; refine (Hgp.out _).mono ?_; rintro e w3 ⟨rfl, hx3⟩; have b3 := b2.trans hx3; simp only [])
          | (go_at_call 44; refine (C44.out _ (hxb.trans b3)).mono ?_; rintro e w4 ⟨rfl, hx4⟩; have b4 := b3.trans hx4; simp only [])
          | (go_at_call 45; refine (C45.out _ (hxb.trans b4)).mono ?_; rintro e w5 ⟨rfl, hx5⟩; have b5 := b4.trans hx5; simp only [])
          | go_values | go_skip | go_guarded | go_step | go_upon))
        go_ret
        exact ⟨rfl, hxb.trans b5⟩
end Go.Proofs.Ytbclbcldplmppaa
