/- The arguments of TopPushed, opened: kinds, models, rests. -/
import Derived.Test.YtebkhdhhajjhfaaGreatU38
import Derived.Test.YtebkhdhhajjhfaaGreatU22
namespace Go.Proofs.YtebkhdhhajjhfaaGreat.Lt
open Go.ChangeShapes Go.WideShapes Go.ChangeAt Go.RowKit Go.Deep
theorem cells_cell : Tryz.prog.cellsOf 60 = 3 := by kernel_rfl
theorem cells_u8 : Tryz.prog.cellsOf 5 = 1 := by kernel_rfl
theorem cells_knob : Tryz.prog.cellsOf 144 = 5 := by kernel_rfl
theorem cells_brick : Tryz.prog.cellsOf 85 = 6 := by kernel_rfl
theorem cells_kind : Tryz.prog.cellsOf 82 = 3 := by kernel_rfl
theorem cells_cs : Tryz.prog.cellsOf 79 = 1 := by kernel_rfl
theorem cells_ks : Tryz.prog.cellsOf 80 = 1 := by kernel_rfl
theorem list3 {α : Type} {l : List α} (h : l.length = 3) : ∃ a b c, l = [a, b, c] := by
  match l, h with
  | [a, b, c], _ => exact ⟨a, b, c, rfl⟩
theorem list6 {α : Type} {l : List α} (h : l.length = 6) : ∃ a b c d e f, l = [a, b, c, d, e, f] := by
  match l, h with
  | [a, b, c, d, e, f], _ => exact ⟨a, b, c, d, e, f, rfl⟩
section
variable {H : Type} {enc : TypeId × Value → H} {w : World} {base : Nat} {held : Bool}
theorem u8_of {n : Nat} {v : Value} {o : Option (DataW H × List MemPlace)} (h : DataW.trod enc Tryz.prog w base (fun _ => true) held n 5 [v] = o) (ho : o.isSome = true) : ∃ x, v = .int .u8 x ∧ 0 ≤ x := by
  obtain ⟨y, rfl⟩ := Option.isSome_iff_exists.1 ho
  obtain ⟨x, hv, _, hw⟩ := DataW.trod_int Tryz.underlying5 h
  simp at hv
  refine ⟨x, hv, ?_⟩
  simp [Lit.wf, IntKind.min, IntKind.max, IntKind.signed, IntKind.bits] at hw
  omega
set_option maxRecDepth 100000 in
theorem cell_of {n : Nat} {cs : List Value} {o : Option (DataW H × List MemPlace)} (h : DataW.trod enc Tryz.prog w base (fun _ => true) held n 60 cs = o) (ho : o.isSome = true) : ∃ s : Ce, cs = s.cells := by
  obtain ⟨y, rfl⟩ := Option.isSome_iff_exists.1 ho
  obtain ⟨xs, m, _, _, hl, hxl, hf⟩ := DataW.trod_struct Tryz.underlying60 h
  rw [cells_cell] at hl
  obtain ⟨c0, c1, c2, rfl⟩ := list3 hl
  have h0 := hf 0 _ rfl
  have h1 := hf 1 _ rfl
  have h2 := hf 2 _ rfl
  have hx2 : xs.length = 3 := hxl
  change DataW.trod enc Tryz.prog w base (fun _ => true) held m 3 (([c0, c1, c2].drop 0).take (Tryz.prog.cellsOf 3)) = xs[0]? at h0
  rw [cells_int] at h0
  change DataW.trod enc Tryz.prog w base (fun _ => true) held m 3 (([c0, c1, c2].drop 1).take (Tryz.prog.cellsOf 3)) = xs[1]? at h1
  rw [cells_int] at h1
  change DataW.trod enc Tryz.prog w base (fun _ => true) held m 3 (([c0, c1, c2].drop 2).take (Tryz.prog.cellsOf 3)) = xs[2]? at h2
  rw [cells_int] at h2
  obtain ⟨x, rfl, _⟩ := int_of' h0 (by simp [hx2])
  obtain ⟨y, rfl, _⟩ := int_of' h1 (by simp [hx2])
  obtain ⟨z, rfl, _⟩ := int_of' h2 (by simp [hx2])
  exact ⟨⟨x, y, z⟩, rfl⟩
set_option maxRecDepth 100000 in
theorem knob_of {n : Nat} {cs : List Value} {y : DataW H × List MemPlace} (h : DataW.trod enc Tryz.prog w base (fun _ => true) held n 144 cs = some y) : ∃ s : Kn, cs = s.cells ∧ 0 ≤ s.dir := by
  obtain ⟨xs, m, _, _, hl, hxl, hf⟩ := DataW.trod_struct Tryz.underlying144 h
  rw [cells_knob] at hl
  obtain ⟨c0, c1, c2, c3, c4, rfl⟩ := list5 hl
  have h0 := hf 0 _ rfl
  have h1 := hf 1 _ rfl
  have h2 := hf 2 _ rfl
  have hx3 : xs.length = 3 := hxl
  change DataW.trod enc Tryz.prog w base (fun _ => true) held m 60 (([c0, c1, c2, c3, c4].drop 0).take (Tryz.prog.cellsOf 60)) = xs[0]? at h0
  rw [cells_cell] at h0
  change DataW.trod enc Tryz.prog w base (fun _ => true) held m 5 (([c0, c1, c2, c3, c4].drop 3).take (Tryz.prog.cellsOf 5)) = xs[1]? at h1
  rw [cells_u8] at h1
  change DataW.trod enc Tryz.prog w base (fun _ => true) held m 5 (([c0, c1, c2, c3, c4].drop 4).take (Tryz.prog.cellsOf 5)) = xs[2]? at h2
  rw [cells_u8] at h2
  obtain ⟨a, ha⟩ := cell_of h0 (by simp [hx3])
  obtain ⟨d, rfl, hd⟩ := u8_of h1 (by simp [hx3])
  obtain ⟨s, rfl, _⟩ := u8_of h2 (by simp [hx3])
  have ha : [c0, c1, c2] = [vint a.x, vint a.y, vint a.z] := ha
  simp only [List.cons.injEq, and_true] at ha
  obtain ⟨rfl, rfl, rfl⟩ := ha
  exact ⟨⟨a, d, s⟩, rfl, hd⟩
set_option maxRecDepth 100000 in
theorem brick_of {n : Nat} {cs : List Value} {y : DataW H × List MemPlace} (h : DataW.trod enc Tryz.prog w base (fun _ => true) held n 85 cs = some y) : ∃ s : Br, cs = s.cells ∧ 0 ≤ s.trn ∧ 0 ≤ s.col := by
  obtain ⟨xs, m, _, _, hl, hxl, hf⟩ := DataW.trod_struct Tryz.underlying85 h
  rw [cells_brick] at hl
  obtain ⟨c0, c1, c2, c3, c4, c5, rfl⟩ := list6 hl
  have h0 := hf 0 _ rfl
  have h1 := hf 1 _ rfl
  have h2 := hf 2 _ rfl
  have h3 := hf 3 _ rfl
  have hx4 : xs.length = 4 := hxl
  change DataW.trod enc Tryz.prog w base (fun _ => true) held m 3 (([c0, c1, c2, c3, c4, c5].drop 0).take (Tryz.prog.cellsOf 3)) = xs[0]? at h0
  rw [cells_int] at h0
  change DataW.trod enc Tryz.prog w base (fun _ => true) held m 60 (([c0, c1, c2, c3, c4, c5].drop 1).take (Tryz.prog.cellsOf 60)) = xs[1]? at h1
  rw [cells_cell] at h1
  change DataW.trod enc Tryz.prog w base (fun _ => true) held m 5 (([c0, c1, c2, c3, c4, c5].drop 4).take (Tryz.prog.cellsOf 5)) = xs[2]? at h2
  rw [cells_u8] at h2
  change DataW.trod enc Tryz.prog w base (fun _ => true) held m 5 (([c0, c1, c2, c3, c4, c5].drop 5).take (Tryz.prog.cellsOf 5)) = xs[3]? at h3
  rw [cells_u8] at h3
  obtain ⟨k, rfl, _⟩ := int_of' h0 (by simp [hx4])
  obtain ⟨a, ha⟩ := cell_of h1 (by simp [hx4])
  obtain ⟨t, rfl, ht⟩ := u8_of h2 (by simp [hx4])
  obtain ⟨c, rfl, hc⟩ := u8_of h3 (by simp [hx4])
  have ha : [c1, c2, c3] = [vint a.x, vint a.y, vint a.z] := ha
  simp only [List.cons.injEq, and_true] at ha
  obtain ⟨rfl, rfl, rfl⟩ := ha
  exact ⟨⟨k, a, t, c⟩, rfl, ht, hc⟩
/-- Elements of a slice, one by one, and what holds of each. -/
theorem elems_with {α : Type} {Q : α → Prop} {t e : TypeId} {fuel : Nat} {v : Value} {x : DataW H × List MemPlace} (cells : α → List Value) (s : Nat) (hs0 : 0 < s) (hs : ∀ x, (cells x).length = s) (ht : Tryz.prog.underlying t = some (.slice e)) (hC : Tryz.prog.cellsOf e = s)
    (hel : ∀ (n : Nat) (cs : List Value) (y : DataW H × List MemPlace), DataW.trod enc Tryz.prog w base (fun _ => true) held n e cs = some y → ∃ q : α, cs = cells q ∧ Q q)
    (h : DataW.trod enc Tryz.prog w base (fun _ => true) held fuel t [v] = some x) :
    ∃ (A : Option Addr) (c : Nat) (l : List α), v = .slice A l.length c ∧ Row w A (l.map cells).flatten ∧ ∀ q ∈ l, Q q := by
  rcases open_slice ht h with ⟨hcs, _⟩ | ⟨a, len, cap, m, n, D, Pl, hcs, hb, hl, hm, hmm, hx, hi⟩
  · simp at hcs
    subst hcs
    exact ⟨none, 0, [], rfl, Row.nil _ _, by simp⟩
  · simp at hcs
    subst hcs
    have each : ∀ i : Nat, i < len → ∃ q : α, (∀ j, j < s → w.cell? (a.add (i * s + j)) = (cells q)[j]?) ∧ Q q := fun i hil => by
      obtain ⟨cs', hc, ht'⟩ := hi i (by rw [hmm]; simp; omega)
      rw [hC] at hc
      obtain ⟨q, rfl, hq⟩ := hel n cs' _ ht'
      obtain ⟨_, hcl, hat⟩ := World.cells?_some hc
      exact ⟨q, fun j hj => by rw [← Go.Deep.add_add, hat j hj], hq⟩
    obtain ⟨l, hlen, hall⟩ := pick_list len each
    refine ⟨some a, cap, l, by rw [hlen], row_of_cells cells s hs0 hs fun i hi j hj => (hall i hi).1 j hj, fun q hq => ?_⟩
    obtain ⟨i, hi, rfl⟩ := List.getElem_of_mem hq
    exact (hall i hi).2
theorem cellrow_of {n : Nat} {v : Value} {o : Option (DataW H × List MemPlace)} (h : DataW.trod enc Tryz.prog w base (fun _ => true) held n 79 [v] = o) (ho : o.isSome = true) :
    ∃ (A : Option Addr) (c : Nat) (l : List Ce), v = .slice A l.length c ∧ CeRow w A l := by
  obtain ⟨y, rfl⟩ := Option.isSome_iff_exists.1 ho
  exact elems_of Ce.cells 3 (by omega) (fun _ => rfl) Tryz.underlying79 cells_cell (fun _ _ _ h => cell_of h rfl) h
theorem knobrow_of {n : Nat} {v : Value} {o : Option (DataW H × List MemPlace)} (h : DataW.trod enc Tryz.prog w base (fun _ => true) held n 80 [v] = o) (ho : o.isSome = true) :
    ∃ (A : Option Addr) (c : Nat) (l : List Kn), v = .slice A l.length c ∧ KnRow w A l ∧ ∀ q ∈ l, 0 ≤ q.dir := by
  obtain ⟨y, rfl⟩ := Option.isSome_iff_exists.1 ho
  exact elems_with Kn.cells 5 (by omega) (fun _ => rfl) Tryz.underlying80 cells_knob (fun _ _ _ h => knob_of h) h
theorem brickrow_of {n : Nat} {v : Value} {y : DataW H × List MemPlace} (h : DataW.trod enc Tryz.prog w base (fun _ => true) held n 23 [v] = some y) :
    ∃ (A : Option Addr) (c : Nat) (l : List Br), v = .slice A l.length c ∧ BrRow w A l ∧ ∀ q ∈ l, 0 ≤ q.trn ∧ 0 ≤ q.col :=
  elems_with Br.cells 6 (by omega) (fun _ => rfl) Tryz.underlying23 cells_brick (fun _ _ _ h => brick_of h) h
set_option maxRecDepth 100000 in
theorem kinds_of {n : Nat} {v : Value} {y : DataW H × List MemPlace} (h : DataW.trod enc Tryz.prog w base (fun _ => true) held n 22 [v] = some y) :
    ∃ (A : Option Addr) (c : Nat) (l : List Ki), v = .slice A l.length c ∧ KiRow w A l ∧ kindsW l := by
  rcases open_slice Tryz.underlying22 h with ⟨hcs, _⟩ | ⟨a, len, cap, m, n, D, Pl, hcs, hb, hl, hm, hmm, hx, hi⟩
  · simp at hcs
    subst hcs
    exact ⟨none, 0, [], rfl, KiRow.nil _ _, fun i hi => absurd hi (by simp)⟩
  · simp at hcs
    subst hcs
    have each : ∀ i : Nat, i < len → ∃ q : Ki, ∃ B b D d, w.cell? (a.add (i * 3)) = some (.slice B q.cs.length b) ∧ w.cell? ((a.add (i * 3)).add 1) = some (.slice D q.ks.length d) ∧ w.cell? ((a.add (i * 3)).add 2) = some (vint q.wt) ∧ CeRow w B q.cs ∧ KnRow w D q.ks ∧ ∀ k ∈ q.ks, 0 ≤ k.dir := fun i hil => by
      obtain ⟨cs', hc, ht'⟩ := hi i (by rw [hmm]; simp; omega)
      rw [cells_kind] at hc
      obtain ⟨xs, m', _, _, hl', hxl, hf⟩ := DataW.trod_struct Tryz.underlying82 ht'
      rw [cells_kind] at hl'
      obtain ⟨_, hcl, hat⟩ := World.cells?_some hc
      obtain ⟨c0, c1, c2, rfl⟩ := list3 hl'
      have h0 := hf 0 _ rfl
      have h1 := hf 1 _ rfl
      have h2 := hf 2 _ rfl
      have hx3 : xs.length = 3 := hxl
      change DataW.trod enc Tryz.prog w base (fun _ => true) held m' 79 (([c0, c1, c2].drop 0).take (Tryz.prog.cellsOf 79)) = xs[0]? at h0
      rw [cells_cs] at h0
      change DataW.trod enc Tryz.prog w base (fun _ => true) held m' 80 (([c0, c1, c2].drop 1).take (Tryz.prog.cellsOf 80)) = xs[1]? at h1
      rw [cells_ks] at h1
      change DataW.trod enc Tryz.prog w base (fun _ => true) held m' 3 (([c0, c1, c2].drop 2).take (Tryz.prog.cellsOf 3)) = xs[2]? at h2
      rw [cells_int] at h2
      obtain ⟨B, b, lc, rfl, hB⟩ := cellrow_of h0 (by simp [hx3])
      obtain ⟨D, d, lk, rfl, hD, hk⟩ := knobrow_of h1 (by simp [hx3])
      obtain ⟨x, rfl, _⟩ := int_of' h2 (by simp [hx3])
      have a0 := hat 0 (by omega)
      rw [add_zero_] at a0
      exact ⟨⟨lc, lk, x⟩, B, b, D, d, a0, hat 1 (by omega), hat 2 (by omega), hB, hD, hk⟩
    obtain ⟨l, hlen, hall⟩ := pick_list len each
    refine ⟨some a, cap, l, by rw [hlen], fun k hk => ?_, fun i hi j hj => ?_⟩
    · obtain ⟨B, b, D, d, h0, h1, h2, h3, h4, _⟩ := hall k hk
      rw [add_lit _ _ (by omega)] at h1 h2
      rw [kiA_at hk]
      exact ⟨a, B, b, D, d, rfl, fun w' he => he.cell h0, fun w' he => he.cell h1, fun w' he => he.cell h2, h3, h4⟩
    · obtain ⟨B, b, D, d, _, _, _, _, _, h5⟩ := hall i hi
      rw [kiA_at hi] at hj ⊢
      rw [knA_at hj]
      exact h5 _ (List.getElem_mem _)
set_option maxRecDepth 100000 in
theorem arg_kinds {r : Reach} {b0 : Nat} {v : Value} {d : DataW H} {p : List MemPlace} (hv : Value.okWide Tryz.prog w r b0 22 v) (h : DataW.Trod enc Tryz.prog w base (fun _ => true) held 22 v d p) :
    ∃ (A : Option Addr) (c : Nat) (l : List Ki), v = .slice A l.length c ∧ KiRow w A l ∧ kindsW l := by
  obtain ⟨A0, len0, cap0, rfl⟩ := okWide_slice Tryz.underlying22 hv
  obtain ⟨fuel, hf⟩ := h
  exact kinds_of hf
theorem array1 {α : Type} {cs : Array α} (h : cs.size = 1) : ∃ c0, cs = #[c0] := by
  obtain ⟨l⟩ := cs
  match l, h with
  | [c0], _ => exact ⟨c0, rfl⟩
set_option maxRecDepth 100000 in
theorem arg_model {r : Reach} {b0 : Nat} {v : Value} {d : DataW H} {p : List MemPlace} (hv : Value.okWide Tryz.prog w r b0 25 v) (h : DataW.Trod enc Tryz.prog w base (fun _ => true) held 25 v d p) :
    ∃ (A : Option Addr) (c : Nat) (l : List Br), v = .agg #[.slice A l.length c] ∧ BrRow w A l ∧ bricksW l := by
  obtain ⟨cs, n, rfl, hsz, hf⟩ := open_fields Tryz.underlying25 (by kernel_rfl) (by kernel_rfl) hv h
  obtain ⟨c0, rfl⟩ := array1 hsz
  obtain ⟨v0, y0, e0, h0⟩ := hf 0 _ rfl
  obtain ⟨A, c, l, rfl, hA, hq⟩ := brickrow_of h0
  obtain rfl : c0 = .slice A l.length c := by injection e0
  exact ⟨A, c, l, rfl, hA, fun i hi => by rw [brA_at hi]; exact hq _ (List.getElem_mem _)⟩
set_option maxRecDepth 100000 in
theorem arg_rest {r : Reach} {b0 : Nat} {v : Value} {d : DataW H} {p : List MemPlace} (hv : Value.okWide Tryz.prog w r b0 28 v) (h : DataW.Trod enc Tryz.prog w base (fun _ => true) held 28 v d p) :
    ∃ (gr : Int) (A : Option Addr) (c : Nat) (fx : List Int), v = .agg #[.int .i64 gr, .slice A fx.length c] ∧ (-9223372036854775808 ≤ gr ∧ gr ≤ 9223372036854775807) ∧ Ints w A fx := by
  obtain ⟨v0, v1, y0, y1, n, rfl, _, _, h0, h1⟩ := Joins.open_agg2 Tryz.underlying28 (by kernel_rfl) (by kernel_rfl) hv h
  obtain ⟨x, rfl, hx⟩ := int_of h0
  obtain ⟨A, c, xs, rfl, hi, _, _⟩ := ints_of h1
  exact ⟨x, A, c, xs, rfl, i64_bounds hx, hi⟩
end
end Go.Proofs.YtebkhdhhajjhfaaGreat.Lt
