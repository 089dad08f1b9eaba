/- The arguments of the laws, opened. -/
import Derived.Test.YteilglljigjefaaRows
import Derived.ProofKit
import Derived.OpenShut
import Derived.ChangeOld
import Derived.Below
import Derived.Deep.Slices
import Derived.Deep.Fields
import Derived.ChangeSame
import Derived.Lib.SmallJoins
import Derived.Test.YteilglljigjefaaHp06
namespace Go.Proofs.Yteilglljigjefaa
open Go.ChangeShapes Go.WideShapes Go.ChangeAt Go.RowKit Go.Deep

theorem own_knob : ownKnob Try.prog.godebug = none := by kernel_rfl
theorem laid_out : laidOutB Try.prog = true := by kernel_rfl
theorem i64_bounds {n : Int} (h : (Lit.int .i64 n).wf = true) : -9223372036854775808 ≤ n ∧ n ≤ 9223372036854775807 := by
  have := h
  simp [Lit.wf, IntKind.min, IntKind.max, IntKind.signed, IntKind.bits] at this
  omega
theorem pick_list {α : Type} {R : Nat → α → Prop} (len : Nat) (h : ∀ i, i < len → ∃ q, R i q) : ∃ l : List α, l.length = len ∧ ∀ i (hi : i < l.length), R i l[i] := by
  have pick : ∀ m, m ≤ len → ∃ ps : List α, ps.length = m ∧ ∀ i (hi : i < ps.length), R i ps[i] := by
    intro m
    induction m with
    | zero => exact fun _ => ⟨[], rfl, fun i hi => by simp at hi⟩
    | succ m ih =>
      intro hm'
      obtain ⟨ps, hl, hps⟩ := ih (by omega)
      obtain ⟨q, hq⟩ := h m (by omega)
      refine ⟨ps ++ [q], by simp [hl], fun i hi => ?_⟩
      by_cases e : i < ps.length
      · rw [List.getElem_append_left e]; exact hps i e
      · have : i = ps.length := by simp at hi; omega
        subst this
        simp
        rw [hl]
        exact hq
  exact pick len (Nat.le_refl _)
theorem row_of_cells {α : Type} {w : World} {a : Addr} {l : List α} (cells : α → List Value) (s : Nat) (hs0 : 0 < s) (hs : ∀ x, (cells x).length = s) (h : ∀ i (hi : i < l.length) j, j < s → w.cell? (a.add (i * s + j)) = (cells l[i])[j]?) : Row w (some a) (l.map cells).flatten := fun k hk => by
  refine ⟨a, rfl, ?_⟩
  have hsz : ∀ r ∈ l.map cells, r.length = s := fun r hr => by obtain ⟨x, _, rfl⟩ := List.mem_map.1 hr; exact hs x
  have hfl := flatten_len s _ hsz
  have hk1 : k / s < l.length := by
    rw [hfl, List.length_map] at hk
    exact Nat.div_lt_of_lt_mul (by rw [Nat.mul_comm]; exact hk)
  have hm : k % s < s := Nat.mod_lt _ hs0
  have e : k = k / s * s + k % s := by rw [Nat.mul_comm]; exact (Nat.div_add_mod k s).symm
  have h3 := flatten_get s _ hsz (k / s) (k % s) hm (by simpa using hk1)
  have h4 := h (k / s) hk1 (k % s) hm
  rw [← e] at h3 h4
  rw [h3, h4]
  simp

section
variable {H : Type} {enc : TypeId × Value → H} {w : World} {base : Nat} {held : Bool}
theorem int_of {n : Nat} {v : Value} {y : DataW H × List MemPlace} (h : DataW.trod enc Try.prog w base (fun _ => true) held n 3 [v] = some y) : ∃ x, v = .int .i64 x ∧ (Lit.int .i64 x).wf = true := by
  obtain ⟨x, hv, _, hw⟩ := DataW.trod_int Try.underlying3 h
  simp at hv
  exact ⟨x, hv, hw⟩
theorem int_of' {n : Nat} {v : Value} {o : Option (DataW H × List MemPlace)} (h : DataW.trod enc Try.prog w base (fun _ => true) held n 3 [v] = o) (ho : o.isSome = true) : ∃ x, v = .int .i64 x ∧ (Lit.int .i64 x).wf = true := by
  obtain ⟨y, rfl⟩ := Option.isSome_iff_exists.1 ho
  exact int_of h
theorem list1 {α : Type} {l : List α} (h : l.length = 1) : ∃ a, l = [a] := by
  match l, h with
  | [a], _ => exact ⟨a, rfl⟩
theorem list2 {α : Type} {l : List α} (h : l.length = 2) : ∃ a b, l = [a, b] := by
  match l, h with
  | [a, b], _ => exact ⟨a, b, rfl⟩
theorem list5 {α : Type} {l : List α} (h : l.length = 5) : ∃ a b c d e, l = [a, b, c, d, e] := by
  match l, h with
  | [a, b, c, d, e], _ => exact ⟨a, b, c, d, e, rfl⟩
theorem cells_int : Try.prog.cellsOf 3 = 1 := by kernel_rfl
theorem cells_spot : Try.prog.cellsOf 27 = 2 := by kernel_rfl
theorem cells_hinge : Try.prog.cellsOf 85 = 5 := by kernel_rfl
theorem cells_panel : Try.prog.cellsOf 40 = 1 := by kernel_rfl
set_option maxRecDepth 100000 in
theorem spot_of {n : Nat} {cs : List Value} {o : Option (DataW H × List MemPlace)} (h : DataW.trod enc Try.prog w base (fun _ => true) held n 27 cs = o) (ho : o.isSome = true) : ∃ s : Sp, cs = s.cells := by
  obtain ⟨y, rfl⟩ := Option.isSome_iff_exists.1 ho
  obtain ⟨xs, m, _, _, hl, hxl, hf⟩ := DataW.trod_struct Try.underlying27 h
  rw [cells_spot] at hl
  obtain ⟨c0, c1, rfl⟩ := list2 hl
  have h0 := hf 0 _ rfl
  have h1 := hf 1 _ rfl
  have hx2 : xs.length = 2 := hxl
  change DataW.trod enc Try.prog w base (fun _ => true) held m 3 (([c0, c1].drop 0).take (Try.prog.cellsOf 3)) = xs[0]? at h0
  rw [cells_int] at h0
  change DataW.trod enc Try.prog w base (fun _ => true) held m 3 (([c0, c1].drop 1).take (Try.prog.cellsOf 3)) = xs[1]? at h1
  rw [cells_int] at h1
  obtain ⟨x, rfl, _⟩ := int_of' h0 (by simp [hx2])
  obtain ⟨y, rfl, _⟩ := int_of' h1 (by simp [hx2])
  exact ⟨⟨x, y⟩, rfl⟩
set_option maxRecDepth 100000 in
theorem hinge_of {n : Nat} {cs : List Value} {y : DataW H × List MemPlace} (h : DataW.trod enc Try.prog w base (fun _ => true) held n 85 cs = some y) : ∃ s : Hg, cs = s.cells := by
  obtain ⟨xs, m, _, _, hl, hxl, hf⟩ := DataW.trod_struct Try.underlying85 h
  rw [cells_hinge] at hl
  obtain ⟨c0, c1, c2, c3, c4, rfl⟩ := list5 hl
  have h0 := hf 0 _ rfl
  have h1 := hf 1 _ rfl
  have h2 := hf 2 _ rfl
  have hx3 : xs.length = 3 := hxl
  change DataW.trod enc Try.prog w base (fun _ => true) held m 27 (([c0, c1, c2, c3, c4].drop 0).take (Try.prog.cellsOf 27)) = xs[0]? at h0
  rw [cells_spot] at h0
  change DataW.trod enc Try.prog w base (fun _ => true) held m 27 (([c0, c1, c2, c3, c4].drop 2).take (Try.prog.cellsOf 27)) = xs[1]? at h1
  rw [cells_spot] at h1
  change DataW.trod enc Try.prog w base (fun _ => true) held m 3 (([c0, c1, c2, c3, c4].drop 4).take (Try.prog.cellsOf 3)) = xs[2]? at h2
  rw [cells_int] at h2
  obtain ⟨a, ha⟩ := spot_of h0 (by simp [hx3])
  obtain ⟨b, hb⟩ := spot_of h1 (by simp [hx3])
  obtain ⟨z, rfl, _⟩ := int_of' h2 (by simp [hx3])
  have ha : [c0, c1] = [vint a.x, vint a.y] := ha
  have hb : [c2, c3] = [vint b.x, vint b.y] := hb
  injection ha with ha0 ha1
  injection ha1 with ha1 _
  injection hb with hb0 hb1
  injection hb1 with hb1 _
  subst ha0 ha1 hb0 hb1
  exact ⟨⟨a, b, z⟩, rfl⟩
theorem ints_of {n : Nat} {v : Value} {y : DataW H × List MemPlace} (h : DataW.trod enc Try.prog w base (fun _ => true) held n 30 [v] = some y) :
    ∃ (A : Option Addr) (c : Nat) (xs : List Int), v = .slice A xs.length c ∧ Ints w A xs ∧ xs.length ≤ 9223372036854775807 ∧ ∀ x ∈ xs, -9223372036854775808 ≤ x ∧ x ≤ 9223372036854775807 := by
  rcases open_ints Try.underlying30 Try.underlying3 (by kernel_rfl) h with ⟨hcs, _⟩ | ⟨x, l, c, zs, hcs, _, hl, hm, hz, _, hcell, hwz⟩
  · simp at hcs
    subst hcs
    exact ⟨none, 0, [], rfl, Ints.nil _ _, by simp, by simp⟩
  · simp at hcs hz
    subst hcs
    have hlen : (zs.take l).length = l := by rw [List.length_take]; omega
    refine ⟨some x, c, zs.take l, by rw [hlen], fun k hk => ⟨x, rfl, ?_⟩, by rw [hlen]; unfold maxLen at hm; omega, fun z hz' => i64_bounds (hwz z (List.mem_of_mem_take hz'))⟩
    have hk' : k < l := by rw [List.length_map, hlen] at hk; exact hk
    rw [hcell k (by omega)]
    simp [hk', List.getD]
    rw [List.getElem?_eq_getElem (by omega)]
    simp
/-- Elements of a slice, one by one. -/
theorem elems_of {α : Type} {t e : TypeId} {fuel : Nat} {v : Value} {x : DataW H × List MemPlace} (cells : α → List Value) (s : Nat) (hs0 : 0 < s) (hs : ∀ x, (cells x).length = s) (ht : Try.prog.underlying t = some (.slice e)) (hC : Try.prog.cellsOf e = s)
    (hel : ∀ (n : Nat) (cs : List Value) (y : DataW H × List MemPlace), DataW.trod enc Try.prog w base (fun _ => true) held n e cs = some y → ∃ q : α, cs = cells q)
    (h : DataW.trod enc Try.prog w base (fun _ => true) held fuel t [v] = some x) :
    ∃ (A : Option Addr) (c : Nat) (l : List α), v = .slice A l.length c ∧ Row w A (l.map cells).flatten := by
  rcases open_slice ht h with ⟨hcs, _⟩ | ⟨a, len, cap, m, n, D, Pl, hcs, hb, hl, hm, hmm, hx, hi⟩
  · simp at hcs
    subst hcs
    exact ⟨none, 0, [], rfl, Row.nil _ _⟩
  · simp at hcs
    subst hcs
    have each : ∀ i : Nat, i < len → ∃ q : α, ∀ j, j < s → w.cell? (a.add (i * s + j)) = (cells q)[j]? := fun i hil => by
      obtain ⟨cs', hc, ht'⟩ := hi i (by rw [hmm]; simp; omega)
      rw [hC] at hc
      obtain ⟨q, rfl⟩ := hel n cs' _ ht'
      obtain ⟨_, hcl, hat⟩ := World.cells?_some hc
      exact ⟨q, fun j hj => by rw [← Go.Deep.add_add, hat j hj]⟩
    obtain ⟨l, hlen, hall⟩ := pick_list len each
    exact ⟨some a, cap, l, by rw [hlen], row_of_cells cells s hs0 hs hall⟩
theorem spots_of {n : Nat} {t : TypeId} {v : Value} {y : DataW H × List MemPlace} (ht : Try.prog.underlying t = some (.slice 27)) (h : DataW.trod enc Try.prog w base (fun _ => true) held n t [v] = some y) :
    ∃ (A : Option Addr) (c : Nat) (l : List Sp), v = .slice A l.length c ∧ SRow w A l :=
  elems_of Sp.cells 2 (by omega) (fun _ => rfl) ht cells_spot (fun _ _ _ h => spot_of h rfl) h
theorem hinges_of {n : Nat} {v : Value} {y : DataW H × List MemPlace} (h : DataW.trod enc Try.prog w base (fun _ => true) held n 23 [v] = some y) :
    ∃ (A : Option Addr) (c : Nat) (l : List Hg), v = .slice A l.length c ∧ HRow w A l :=
  elems_of Hg.cells 5 (by omega) (fun _ => rfl) Try.underlying23 cells_hinge (fun _ _ _ h => hinge_of h) h
set_option maxRecDepth 100000 in
theorem panels_of {n : Nat} {v : Value} {y : DataW H × List MemPlace} (h : DataW.trod enc Try.prog w base (fun _ => true) held n 22 [v] = some y) :
    ∃ (A : Option Addr) (c : Nat) (l : List (List Sp)), v = .slice A l.length c ∧ PnRow w A l := by
  rcases open_slice Try.underlying22 h with ⟨hcs, _⟩ | ⟨a, len, cap, m, n, D, Pl, hcs, hb, hl, hm, hmm, hx, hi⟩
  · simp at hcs
    subst hcs
    exact ⟨none, 0, [], rfl, PnRow.nil _ _⟩
  · simp at hcs
    subst hcs
    have each : ∀ i : Nat, i < len → ∃ q : List Sp, ∃ B c, w.cell? (a.add i) = some (.slice B q.length c) ∧ SRow w B q := fun i hil => by
      obtain ⟨cs', hc, ht'⟩ := hi i (by rw [hmm]; simp; omega)
      rw [cells_panel, Nat.mul_one] at hc
      obtain ⟨_, hcl, hat⟩ := World.cells?_some hc
      obtain ⟨c0, rfl⟩ := list1 hcl
      obtain ⟨B, c, q, rfl, hq⟩ := spots_of Try.underlying40 ht'
      refine ⟨q, B, c, ?_, hq⟩
      have := hat 0 (by omega)
      rw [add_zero_] at this
      rw [this]
      rfl
    obtain ⟨l, hlen, hall⟩ := pick_list len each
    refine ⟨some a, cap, l, by rw [hlen], fun k hk => ?_⟩
    obtain ⟨B, c, h1, h2⟩ := hall k hk
    exact ⟨a, B, c, rfl, fun w' he => he.cell h1, h2⟩

set_option maxRecDepth 100000 in
theorem arg_link {r : Reach} {b0 : Nat} {v : Value} {d : DataW H} {p : List MemPlace} (hv : Value.okWide Try.prog w r b0 25 v) (h : DataW.Trod enc Try.prog w base (fun _ => true) held 25 v d p) :
    ∃ (A : Option Addr) (c : Nat) (ps : List (List Sp)) (B : Option Addr) (d : Nat) (hs : List Hg), v = .agg #[.slice A ps.length c, .slice B hs.length d] ∧ PnRow w A ps ∧ HRow w B hs := by
  obtain ⟨v0, v1, y0, y1, n, rfl, _, _, h0, h1⟩ := Joins.open_agg2 Try.underlying25 (by kernel_rfl) (by kernel_rfl) hv h
  obtain ⟨A, c, ps, rfl, hp⟩ := panels_of h0
  obtain ⟨B, d, hs, rfl, hh⟩ := hinges_of h1
  exact ⟨A, c, ps, B, d, hs, rfl, hp, hh⟩
set_option maxRecDepth 100000 in
theorem arg_spot {r : Reach} {b0 : Nat} {v : Value} {d : DataW H} {p : List MemPlace} (hv : Value.okWide Try.prog w r b0 27 v) (h : DataW.Trod enc Try.prog w base (fun _ => true) held 27 v d p) : ∃ s : Sp, v = s.val := by
  obtain ⟨cs, rfl, hsz⟩ := okWide_struct Try.underlying27 hv
  obtain ⟨fuel, hf⟩ := h
  obtain ⟨s, hs⟩ := spot_of hf rfl
  have hs : cs.toList = s.cells := hs
  refine ⟨s, ?_⟩
  show Value.agg cs = .agg #[vint s.x, vint s.y]
  congr 1
  exact Array.toList_inj.1 hs
set_option maxRecDepth 100000 in
theorem arg_panel {r : Reach} {b0 : Nat} {v : Value} {d : DataW H} {p : List MemPlace} (hv : Value.okWide Try.prog w r b0 40 v) (h : DataW.Trod enc Try.prog w base (fun _ => true) held 40 v d p) :
    ∃ (A : Option Addr) (c : Nat) (l : List Sp), v = .slice A l.length c ∧ SRow w A l := by
  obtain ⟨A0, len0, cap0, rfl⟩ := okWide_slice Try.underlying40 hv
  obtain ⟨fuel, hf⟩ := h
  exact spots_of Try.underlying40 hf
set_option maxRecDepth 100000 in
theorem arg_int {v : Value} {d : DataW H} {p : List MemPlace} {r : Reach} {b0 : Nat} (hv : Value.okWide Try.prog w r b0 3 v) (h : DataW.Trod enc Try.prog w base (fun _ => true) held 3 v d p) : ∃ t, v = .int .i64 t ∧ (-9223372036854775808 ≤ t ∧ t ≤ 9223372036854775807) := by
  obtain ⟨t, e, _, _, hw⟩ := open_int Try.underlying3 hv h
  exact ⟨t, e, i64_bounds hw⟩
set_option maxRecDepth 100000 in
theorem arg_ints {v : Value} {d : DataW H} {p : List MemPlace} {r : Reach} {b0 : Nat} (hv : Value.okWide Try.prog w r b0 30 v) (h : DataW.Trod enc Try.prog w base (fun _ => true) held 30 v d p) :
    ∃ (A : Option Addr) (c : Nat) (xs : List Int), v = .slice A xs.length c ∧ Ints w A xs ∧ (∀ x ∈ xs, -9223372036854775808 ≤ x ∧ x ≤ 9223372036854775807) := by
  obtain ⟨A0, len0, cap0, rfl⟩ := okWide_slice Try.underlying30 hv
  obtain ⟨fuel, hf⟩ := h
  obtain ⟨A, c, xs, e, hi, _, hb⟩ := ints_of hf
  exact ⟨A, c, xs, e, hi, hb⟩
/-- Numbers of 64 bits. -/
def i64P (x : Int) : Prop := -9223372036854775808 ≤ x ∧ x ≤ 9223372036854775807
theorem open_fields {P : Program} {r : Reach} {b0 : Nat} {spare : Nat → Bool} {t : TypeId} {fs : Array Field} {v : Value} {d : DataW H} {p : List MemPlace} (hs : P.underlying t = some (.struct fs)) (hone : oneCellFields P fs = true) (hC : P.cellsOf t = fs.size)
    (hv : Value.okWide P w r b0 t v) (h : DataW.Trod enc P w base spare held t v d p) :
    ∃ (cs : Array Value) (n : Nat), v = .agg cs ∧ cs.size = fs.size ∧ ∀ (j : Nat) (f : Field), fs[j]? = some f → ∃ (u : Value) (y : DataW H × List MemPlace), cs[j]? = some u ∧ DataW.trod enc P w base spare held n f.type [u] = some y := by
  obtain ⟨cs, rfl, hsz⟩ := okWide_struct hs hv
  obtain ⟨fuel, hf⟩ := h
  obtain ⟨ys, n, _, _, hlen, hyl, hfl⟩ := DataW.trod_struct hs hf
  have hsz' : cs.size = fs.size := hsz.trans hC
  refine ⟨cs, n, rfl, hsz', fun j f hj => ?_⟩
  obtain ⟨ho, hk⟩ := hone_of hone j f hj
  have hjl : j < fs.size := (Array.getElem?_eq_some_iff.1 hj).1
  have h1 := hfl j f hj
  rw [ho, hk] at h1
  have hcl : (Value.cells (.agg cs)).toList = cs.toList := rfl
  rw [hcl] at h1
  have hone' : (cs.toList.drop j).take 1 = [cs[j]'(by omega)] := by
    rw [List.drop_eq_getElem_cons (by simp; omega)]
    simp
  rw [hone'] at h1
  have hys : ys[j]? = some (ys[j]'(by omega)) := List.getElem?_eq_getElem (by omega)
  exact ⟨_, _, Array.getElem?_eq_getElem (by omega), h1.trans hys⟩
theorem array6 {α : Type} {cs : Array α} (h : cs.size = 6) : ∃ c0 c1 c2 c3 c4 c5, cs = #[c0, c1, c2, c3, c4, c5] := by
  obtain ⟨l⟩ := cs
  match l, h with
  | [c0, c1, c2, c3, c4, c5], _ => exact ⟨c0, c1, c2, c3, c4, c5, rfl⟩
/-- A proof as an argument. -/
structure AprOk (w : World) (r : Apr) (I : Option Addr) : Prop where
  ins : Ints w I r.ins
  a : i64P r.A
  b : i64P r.B
  c : i64P r.C
  e : i64P r.E
  x : ∀ x ∈ r.ins, i64P x
abbrev Apr.val (r : Apr) (I : Option Addr) (ic : Nat) : Value := .agg #[.bool r.clear, vint r.A, vint r.B, vint r.C, vint r.E, .slice I r.ins.length ic]
set_option maxRecDepth 100000 in
theorem arg_apart {r : Reach} {b0 : Nat} {v : Value} {d : DataW H} {p : List MemPlace} (hv : Value.okWide Try.prog w r b0 67 v) (h : DataW.Trod enc Try.prog w base (fun _ => true) held 67 v d p) :
    ∃ (x : Apr) (I : Option Addr) (ic : Nat), v = x.val I ic ∧ AprOk w x I := by
  obtain ⟨cs, n, rfl, hsz, hf⟩ := open_fields Try.underlying67 (by kernel_rfl) (by kernel_rfl) hv h
  obtain ⟨c0, c1, c2, c3, c4, c5, rfl⟩ := array6 hsz
  obtain ⟨v0, y0, e0, h0⟩ := hf 0 _ rfl
  obtain ⟨v1, y1, e1, h1⟩ := hf 1 _ rfl
  obtain ⟨v2, y2, e2, h2⟩ := hf 2 _ rfl
  obtain ⟨v3, y3, e3, h3⟩ := hf 3 _ rfl
  obtain ⟨v4, y4, e4, h4⟩ := hf 4 _ rfl
  obtain ⟨v5, y5, e5, h5⟩ := hf 5 _ rfl
  obtain ⟨b, hb, _⟩ := DataW.trod_bool Try.underlying4 h0
  obtain ⟨x1, rfl, w1⟩ := int_of h1
  obtain ⟨x2, rfl, w2⟩ := int_of h2
  obtain ⟨x3, rfl, w3⟩ := int_of h3
  obtain ⟨x4, rfl, w4⟩ := int_of h4
  obtain ⟨I, ic, xs, rfl, hi, _, hx⟩ := ints_of h5
  obtain rfl : v0 = .bool b := by simpa using hb
  obtain rfl : c0 = .bool b := by injection e0
  obtain rfl : c1 = .int .i64 x1 := by injection e1
  obtain rfl : c2 = .int .i64 x2 := by injection e2
  obtain rfl : c3 = .int .i64 x3 := by injection e3
  obtain rfl : c4 = .int .i64 x4 := by injection e4
  obtain rfl : c5 = .slice I xs.length ic := by injection e5
  exact ⟨⟨b, x1, x2, x3, x4, xs⟩, I, ic, rfl, hi, i64_bounds w1, i64_bounds w2, i64_bounds w3, i64_bounds w4, hx⟩
end
end Go.Proofs.Yteilglljigjefaa
