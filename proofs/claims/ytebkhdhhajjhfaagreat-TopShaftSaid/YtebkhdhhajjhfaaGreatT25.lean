/- The arguments of the laws, opened. -/
import Derived.Test.YtebkhdhhajjhfaaGreatRows
import Derived.Test.YtebkhdhhajjhfaaGreatT18
import Derived.ProofKit
import Derived.OpenShut
import Derived.ChangeOld
import Derived.Below
import Derived.Deep.Slices
import Derived.Deep.Fields
import Derived.ChangeSame
import Derived.Lib.SmallJoins
import Derived.Test.YtebkhdhhajjhfaaGreatT24
namespace Go.Proofs.YtebkhdhhajjhfaaGreat
open Go.ChangeShapes Go.WideShapes Go.ChangeAt Go.RowKit Go.Deep

theorem own_knob : ownKnob Tryz.prog.godebug = none := by kernel_rfl
theorem laid_out : laidOutB Tryz.prog = true := by kernel_rfl
theorem i64_bounds {n : Int} (h : (Lit.int .i64 n).wf = true) : -9223372036854775808 ≤ n ∧ n ≤ 9223372036854775807 := by
  have := h
  simp [Lit.wf, IntKind.min, IntKind.max, IntKind.signed, IntKind.bits] at this
  omega
theorem pick_list {α : Type} {R : Nat → α → Prop} (len : Nat) (h : ∀ i, i < len → ∃ q, R i q) : ∃ l : List α, l.length = len ∧ ∀ i (hi : i < l.length), R i l[i] := by
  have pick : ∀ m, m ≤ len → ∃ ps : List α, ps.length = m ∧ ∀ i (hi : i < ps.length), R i ps[i] := by
    intro m
    induction m with
    | zero => exact fun _ => ⟨[], rfl, fun i hi => by simp at hi⟩
    | succ m ih =>
      intro hm'
      obtain ⟨ps, hl, hps⟩ := ih (by omega)
      obtain ⟨q, hq⟩ := h m (by omega)
      refine ⟨ps ++ [q], by simp [hl], fun i hi => ?_⟩
      by_cases e : i < ps.length
      · rw [List.getElem_append_left e]; exact hps i e
      · have : i = ps.length := by simp at hi; omega
        subst this
        simp
        rw [hl]
        exact hq
  exact pick len (Nat.le_refl _)
theorem row_of_cells {α : Type} {w : World} {a : Addr} {l : List α} (cells : α → List Value) (s : Nat) (hs0 : 0 < s) (hs : ∀ x, (cells x).length = s) (h : ∀ i (hi : i < l.length) j, j < s → w.cell? (a.add (i * s + j)) = (cells l[i])[j]?) : Row w (some a) (l.map cells).flatten := fun k hk => by
  refine ⟨a, rfl, ?_⟩
  have hsz : ∀ r ∈ l.map cells, r.length = s := fun r hr => by obtain ⟨x, _, rfl⟩ := List.mem_map.1 hr; exact hs x
  have hfl := flatten_len s _ hsz
  have hk1 : k / s < l.length := by
    rw [hfl, List.length_map] at hk
    exact Nat.div_lt_of_lt_mul (by rw [Nat.mul_comm]; exact hk)
  have hm : k % s < s := Nat.mod_lt _ hs0
  have e : k = k / s * s + k % s := by rw [Nat.mul_comm]; exact (Nat.div_add_mod k s).symm
  have h3 := flatten_get s _ hsz (k / s) (k % s) hm (by simpa using hk1)
  have h4 := h (k / s) hk1 (k % s) hm
  rw [← e] at h3 h4
  rw [h3, h4]
  simp

section
variable {H : Type} {enc : TypeId × Value → H} {w : World} {base : Nat} {held : Bool}
theorem int_of {n : Nat} {v : Value} {y : DataW H × List MemPlace} (h : DataW.trod enc Tryz.prog w base (fun _ => true) held n 3 [v] = some y) : ∃ x, v = .int .i64 x ∧ (Lit.int .i64 x).wf = true := by
  obtain ⟨x, hv, _, hw⟩ := DataW.trod_int Tryz.underlying3 h
  simp at hv
  exact ⟨x, hv, hw⟩
theorem int_of' {n : Nat} {v : Value} {o : Option (DataW H × List MemPlace)} (h : DataW.trod enc Tryz.prog w base (fun _ => true) held n 3 [v] = o) (ho : o.isSome = true) : ∃ x, v = .int .i64 x ∧ (Lit.int .i64 x).wf = true := by
  obtain ⟨y, rfl⟩ := Option.isSome_iff_exists.1 ho
  exact int_of h
theorem list1 {α : Type} {l : List α} (h : l.length = 1) : ∃ a, l = [a] := by
  match l, h with
  | [a], _ => exact ⟨a, rfl⟩
theorem list2 {α : Type} {l : List α} (h : l.length = 2) : ∃ a b, l = [a, b] := by
  match l, h with
  | [a, b], _ => exact ⟨a, b, rfl⟩
theorem list5 {α : Type} {l : List α} (h : l.length = 5) : ∃ a b c d e, l = [a, b, c, d, e] := by
  match l, h with
  | [a, b, c, d, e], _ => exact ⟨a, b, c, d, e, rfl⟩
theorem cells_int : Tryz.prog.cellsOf 3 = 1 := by kernel_rfl
theorem cells_spot : Tryz.prog.cellsOf 58 = 2 := by kernel_rfl
theorem cells_hinge : Tryz.prog.cellsOf 70 = 5 := by kernel_rfl
theorem cells_panel : Tryz.prog.cellsOf 48 = 1 := by kernel_rfl
set_option maxRecDepth 100000 in
theorem spot_of {n : Nat} {cs : List Value} {o : Option (DataW H × List MemPlace)} (h : DataW.trod enc Tryz.prog w base (fun _ => true) held n 58 cs = o) (ho : o.isSome = true) : ∃ s : Sp, cs = s.cells := by
  obtain ⟨y, rfl⟩ := Option.isSome_iff_exists.1 ho
  obtain ⟨xs, m, _, _, hl, hxl, hf⟩ := DataW.trod_struct Tryz.underlying58 h
  rw [cells_spot] at hl
  obtain ⟨c0, c1, rfl⟩ := list2 hl
  have h0 := hf 0 _ rfl
  have h1 := hf 1 _ rfl
  have hx2 : xs.length = 2 := hxl
  change DataW.trod enc Tryz.prog w base (fun _ => true) held m 3 (([c0, c1].drop 0).take (Tryz.prog.cellsOf 3)) = xs[0]? at h0
  rw [cells_int] at h0
  change DataW.trod enc Tryz.prog w base (fun _ => true) held m 3 (([c0, c1].drop 1).take (Tryz.prog.cellsOf 3)) = xs[1]? at h1
  rw [cells_int] at h1
  obtain ⟨x, rfl, _⟩ := int_of' h0 (by simp [hx2])
  obtain ⟨y, rfl, _⟩ := int_of' h1 (by simp [hx2])
  exact ⟨⟨x, y⟩, rfl⟩
set_option maxRecDepth 100000 in
theorem hinge_of {n : Nat} {cs : List Value} {y : DataW H × List MemPlace} (h : DataW.trod enc Tryz.prog w base (fun _ => true) held n 70 cs = some y) : ∃ s : Hg, cs = s.cells := by
  obtain ⟨xs, m, _, _, hl, hxl, hf⟩ := DataW.trod_struct Tryz.underlying70 h
  rw [cells_hinge] at hl
  obtain ⟨c0, c1, c2, c3, c4, rfl⟩ := list5 hl
  have h0 := hf 0 _ rfl
  have h1 := hf 1 _ rfl
  have h2 := hf 2 _ rfl
  have hx3 : xs.length = 3 := hxl
  change DataW.trod enc Tryz.prog w base (fun _ => true) held m 58 (([c0, c1, c2, c3, c4].drop 0).take (Tryz.prog.cellsOf 58)) = xs[0]? at h0
  rw [cells_spot] at h0
  change DataW.trod enc Tryz.prog w base (fun _ => true) held m 58 (([c0, c1, c2, c3, c4].drop 2).take (Tryz.prog.cellsOf 58)) = xs[1]? at h1
  rw [cells_spot] at h1
  change DataW.trod enc Tryz.prog w base (fun _ => true) held m 3 (([c0, c1, c2, c3, c4].drop 4).take (Tryz.prog.cellsOf 3)) = xs[2]? at h2
  rw [cells_int] at h2
  obtain ⟨a, ha⟩ := spot_of h0 (by simp [hx3])
  obtain ⟨b, hb⟩ := spot_of h1 (by simp [hx3])
  obtain ⟨z, rfl, _⟩ := int_of' h2 (by simp [hx3])
  have ha : [c0, c1] = [vint a.x, vint a.y] := ha
  have hb : [c2, c3] = [vint b.x, vint b.y] := hb
  injection ha with ha0 ha1
  injection ha1 with ha1 _
  injection hb with hb0 hb1
  injection hb1 with hb1 _
  subst ha0 ha1 hb0 hb1
  exact ⟨⟨a, b, z⟩, rfl⟩
/-- Elements of a slice, one by one. -/
theorem elems_of {α : Type} {t e : TypeId} {fuel : Nat} {v : Value} {x : DataW H × List MemPlace} (cells : α → List Value) (s : Nat) (hs0 : 0 < s) (hs : ∀ x, (cells x).length = s) (ht : Tryz.prog.underlying t = some (.slice e)) (hC : Tryz.prog.cellsOf e = s)
    (hel : ∀ (n : Nat) (cs : List Value) (y : DataW H × List MemPlace), DataW.trod enc Tryz.prog w base (fun _ => true) held n e cs = some y → ∃ q : α, cs = cells q)
    (h : DataW.trod enc Tryz.prog w base (fun _ => true) held fuel t [v] = some x) :
    ∃ (A : Option Addr) (c : Nat) (l : List α), v = .slice A l.length c ∧ Row w A (l.map cells).flatten := by
  rcases open_slice ht h with ⟨hcs, _⟩ | ⟨a, len, cap, m, n, D, Pl, hcs, hb, hl, hm, hmm, hx, hi⟩
  · simp at hcs
    subst hcs
    exact ⟨none, 0, [], rfl, Row.nil _ _⟩
  · simp at hcs
    subst hcs
    have each : ∀ i : Nat, i < len → ∃ q : α, ∀ j, j < s → w.cell? (a.add (i * s + j)) = (cells q)[j]? := fun i hil => by
      obtain ⟨cs', hc, ht'⟩ := hi i (by rw [hmm]; simp; omega)
      rw [hC] at hc
      obtain ⟨q, rfl⟩ := hel n cs' _ ht'
      obtain ⟨_, hcl, hat⟩ := World.cells?_some hc
      exact ⟨q, fun j hj => by rw [← Go.Deep.add_add, hat j hj]⟩
    obtain ⟨l, hlen, hall⟩ := pick_list len each
    exact ⟨some a, cap, l, by rw [hlen], row_of_cells cells s hs0 hs hall⟩
theorem spots_of {n : Nat} {t : TypeId} {v : Value} {y : DataW H × List MemPlace} (ht : Tryz.prog.underlying t = some (.slice 58)) (h : DataW.trod enc Tryz.prog w base (fun _ => true) held n t [v] = some y) :
    ∃ (A : Option Addr) (c : Nat) (l : List Sp), v = .slice A l.length c ∧ SRow w A l :=
  elems_of Sp.cells 2 (by omega) (fun _ => rfl) ht cells_spot (fun _ _ _ h => spot_of h rfl) h
theorem hinges_of {n : Nat} {v : Value} {y : DataW H × List MemPlace} (h : DataW.trod enc Tryz.prog w base (fun _ => true) held n 65 [v] = some y) :
    ∃ (A : Option Addr) (c : Nat) (l : List Hg), v = .slice A l.length c ∧ HRow w A l :=
  elems_of Hg.cells 5 (by omega) (fun _ => rfl) Tryz.underlying65 cells_hinge (fun _ _ _ h => hinge_of h) h
set_option maxRecDepth 100000 in
theorem panels_of {n : Nat} {v : Value} {y : DataW H × List MemPlace} (h : DataW.trod enc Tryz.prog w base (fun _ => true) held n 64 [v] = some y) :
    ∃ (A : Option Addr) (c : Nat) (l : List (List Sp)), v = .slice A l.length c ∧ PnRow w A l := by
  rcases open_slice Tryz.underlying64 h with ⟨hcs, _⟩ | ⟨a, len, cap, m, n, D, Pl, hcs, hb, hl, hm, hmm, hx, hi⟩
  · simp at hcs
    subst hcs
    exact ⟨none, 0, [], rfl, PnRow.nil _ _⟩
  · simp at hcs
    subst hcs
    have each : ∀ i : Nat, i < len → ∃ q : List Sp, ∃ B c, w.cell? (a.add i) = some (.slice B q.length c) ∧ SRow w B q := fun i hil => by
      obtain ⟨cs', hc, ht'⟩ := hi i (by rw [hmm]; simp; omega)
      rw [cells_panel, Nat.mul_one] at hc
      obtain ⟨_, hcl, hat⟩ := World.cells?_some hc
      obtain ⟨c0, rfl⟩ := list1 hcl
      obtain ⟨B, c, q, rfl, hq⟩ := spots_of Tryz.underlying48 ht'
      refine ⟨q, B, c, ?_, hq⟩
      have := hat 0 (by omega)
      rw [add_zero_] at this
      rw [this]
      rfl
    obtain ⟨l, hlen, hall⟩ := pick_list len each
    refine ⟨some a, cap, l, by rw [hlen], fun k hk => ?_⟩
    obtain ⟨B, c, h1, h2⟩ := hall k hk
    exact ⟨a, B, c, rfl, fun w' he => he.cell h1, h2⟩

set_option maxRecDepth 100000 in
theorem arg_link {r : Reach} {b0 : Nat} {v : Value} {d : DataW H} {p : List MemPlace} (hv : Value.okWide Tryz.prog w r b0 67 v) (h : DataW.Trod enc Tryz.prog w base (fun _ => true) held 67 v d p) :
    ∃ (A : Option Addr) (c : Nat) (ps : List (List Sp)) (B : Option Addr) (d : Nat) (hs : List Hg), v = .agg #[.slice A ps.length c, .slice B hs.length d] ∧ PnRow w A ps ∧ HRow w B hs := by
  obtain ⟨v0, v1, y0, y1, n, rfl, _, _, h0, h1⟩ := Joins.open_agg2 Tryz.underlying67 (by kernel_rfl) (by kernel_rfl) hv h
  obtain ⟨A, c, ps, rfl, hp⟩ := panels_of h0
  obtain ⟨B, d, hs, rfl, hh⟩ := hinges_of h1
  exact ⟨A, c, ps, B, d, hs, rfl, hp, hh⟩
set_option maxRecDepth 100000 in
theorem arg_panel {r : Reach} {b0 : Nat} {v : Value} {d : DataW H} {p : List MemPlace} (hv : Value.okWide Tryz.prog w r b0 48 v) (h : DataW.Trod enc Tryz.prog w base (fun _ => true) held 48 v d p) :
    ∃ (A : Option Addr) (c : Nat) (l : List Sp), v = .slice A l.length c ∧ SRow w A l := by
  obtain ⟨A0, len0, cap0, rfl⟩ := okWide_slice Tryz.underlying48 hv
  obtain ⟨fuel, hf⟩ := h
  exact spots_of Tryz.underlying48 hf
set_option maxRecDepth 100000 in
theorem arg_int {v : Value} {d : DataW H} {p : List MemPlace} {r : Reach} {b0 : Nat} (hv : Value.okWide Tryz.prog w r b0 3 v) (h : DataW.Trod enc Tryz.prog w base (fun _ => true) held 3 v d p) : ∃ t, v = .int .i64 t ∧ (-9223372036854775808 ≤ t ∧ t ≤ 9223372036854775807) := by
  obtain ⟨t, e, _, _, hw⟩ := open_int Tryz.underlying3 hv h
  exact ⟨t, e, i64_bounds hw⟩
abbrev Apr.val (r : Apr) (I : Option Addr) (ic : Nat) : Value := .agg #[.bool r.clear, vint r.A, vint r.B, vint r.C, vint r.E, .slice I r.ins.length ic]
end
end Go.Proofs.YtebkhdhhajjhfaaGreat

/- Lines between: by the reference. -/
namespace Go.Proofs.YtebkhdhhajjhfaaGreat
open Go.RowKit
def btwB (r : Apr) (a b : List Cn) : Bool := decide (btwP r a b)
def headP (r : Apr) : Prop := r.ins.length = 0 ∧ (-10000000 ≤ r.A ∧ r.A ≤ 10000000) ∧ (-10000000 ≤ r.B ∧ r.B ≤ 10000000) ∧ ¬ (r.A = 0 ∧ r.B = 0) ∧ (-100000000000000 ≤ r.C ∧ r.C ≤ 100000000000000) ∧ (1 ≤ r.E ∧ r.E ≤ 20000)
instance (r : Apr) : Decidable (headP r) := by unfold headP; infer_instance
theorem btwP_iff {r : Apr} {a b : List Cn} : btwP r a b ↔ headP r ∧ (∀ k, k < a.length → lineN r (cAt a k) ≤ r.C * (cAt a k).d) ∧ ∀ k, k < b.length → r.C * (cAt b k).d ≤ lineN r (cAt b k) := by
  unfold btwP headP
  constructor
  · rintro ⟨h1, h2, h3, h4, h5, h6, h7, h8⟩
    exact ⟨⟨h1, h2, h3, h4, h5, h6⟩, fun k hk => h7 _ (cAt_mem hk), fun k hk => h8 _ (cAt_mem hk)⟩
  · rintro ⟨⟨h1, h2, h3, h4, h5, h6⟩, h7, h8⟩
    refine ⟨h1, h2, h3, h4, h5, h6, fun c hc => ?_, fun c hc => ?_⟩
    · obtain ⟨k, hk, rfl⟩ := List.getElem_of_mem hc
      have := h7 k hk
      rwa [cAt_at hk] at this
    · obtain ⟨k, hk, rfl⟩ := List.getElem_of_mem hc
      have := h8 k hk
      rwa [cAt_at hk] at this
theorem btwB_no {r : Apr} {a b : List Cn} (h : ¬ btwP r a b) : false = btwB r a b := (decide_eq_false h).symm
/-- The numbers of a line. -/
theorem line_fit {A B C E x y d : Int} (hA : -10000000 ≤ A ∧ A ≤ 10000000) (hB : -10000000 ≤ B ∧ B ≤ 10000000) (hC : -100000000000000 ≤ C ∧ C ≤ 100000000000000) (hE : 1 ≤ E ∧ E ≤ 20000) (hx : -10937500 ≤ x ∧ x ≤ 10937500) (hy : -10937500 ≤ y ∧ y ≤ 10937500) (hd : 1 ≤ d ∧ d ≤ 15625) :
    (-109375000000000 ≤ A * x ∧ A * x ≤ 109375000000000) ∧ (-109375000000000 ≤ B * y ∧ B * y ≤ 109375000000000) ∧ (-4375000000000000000 ≤ E * (A * x + B * y) ∧ E * (A * x + B * y) ≤ 4375000000000000000) ∧ (-1562500000000000000 ≤ C * d ∧ C * d ≤ 1562500000000000000) := by
  have e1 := prod_le hA.1 hA.2 hx.1 hx.2
  have e2 := prod_le hB.1 hB.2 hy.1 hy.2
  simp only [Int.reduceMul] at e1 e2
  have e3 := prod_le (a := E) (d := 20000) (s := A * x + B * y) (m := 218750000000000) (by omega) (by omega) (by omega) (by omega)
  have e4 := prod_le (a := C) (d := 100000000000000) (s := d) (m := 15625) (by omega) (by omega) (by omega) (by omega)
  simp only [Int.reduceMul] at e3 e4
  exact ⟨e1, e2, e3, e4⟩
end Go.Proofs.YtebkhdhhajjhfaaGreat

/- Which proofs are right: the closures of the code. -/
namespace Go.Proofs.YtebkhdhhajjhfaaGreat
open Go.RowKit
theorem cmpI_pos {a b : Int} : 0 < cmpI a b ↔ b < a := by unfold cmpI; split <;> (try split) <;> omega
theorem cmpI_neg {a b : Int} : cmpI a b < 0 ↔ a < b := by unfold cmpI; split <;> (try split) <;> omega
/-- The numbers of a line, in a block. -/
structure LineIn (w : World) (g : Nat) (rA rB rC rE : Int) : Prop where
  a : ∀ w', Ext w w' → w'.cell? ⟨g, 1, none⟩ = some (.int .i64 rA)
  b : ∀ w', Ext w w' → w'.cell? ⟨g, 2, none⟩ = some (.int .i64 rB)
  c : ∀ w', Ext w w' → w'.cell? ⟨g, 3, none⟩ = some (.int .i64 rC)
  e : ∀ w', Ext w w' → w'.cell? ⟨g, 4, none⟩ = some (.int .i64 rE)
  hA : -10000000 ≤ rA ∧ rA ≤ 10000000
  hB : -10000000 ≤ rB ∧ rB ≤ 10000000
  hC : -100000000000000 ≤ rC ∧ rC ≤ 100000000000000
  hE : 1 ≤ rE ∧ rE ≤ 20000
theorem LineIn.ext {w w' : World} {g : Nat} {rA rB rC rE : Int} (h : LineIn w g rA rB rC rE) (he : Ext w w') : LineIn w' g rA rB rC rE :=
  ⟨fun w2 h2 => h.a w2 (he.trans h2), fun w2 h2 => h.b w2 (he.trans h2), fun w2 h2 => h.c w2 (he.trans h2), fun w2 h2 => h.e w2 (he.trans h2), h.hA, h.hB, h.hC, h.hE⟩
def ovr (rA rB rC rE : Int) (c : Cn) : Int := cmpI (rE * (rA * c.at_.x + rB * c.at_.y)) (rC * c.d)
set_option maxRecDepth 100000 in
set_option maxHeartbeats 4000000 in
theorem right1_any (g : Nat) (rA rB rC rE : Int) (c : Cn) (w : World) (hl : LineIn w g rA rB rC rE) (hc : CnOk c) :
    Calls Tryz.prog 112 #[c.val, .pointer (some ⟨g, 0, none⟩)] w fun e w' => e = .returned (.int .i64 (ovr rA rB rC rE c)) ∧ Ext w w' := by
  obtain ⟨a, b, cc, ee, hA, hB, hC, hE⟩ := hl
  obtain ⟨f1, f2, f3, f4⟩ := line_fit hA hB hC hE hc.x hc.y hc.d
  have hcm := fun (w' : World) => cmp_any (rE * (rA * c.at_.x + rB * c.at_.y)) (rC * c.d) w'
  have ho : ovr rA rB rC rE c = cmpI (rE * (rA * c.at_.x + rB * c.at_.y)) (rC * c.d) := rfl
  rw [ho]
  have Hcm := Lib.hid hcm
  clear hcm ho hc hA hB hC hE
  obtain ⟨⟨x, y⟩, z⟩ := c
  simp only at f1 f2 f3 f4 Hcm ⊢
  generalize cmpI (rE * (rA * x + rB * y)) (rC * z) = R at *
  have hx0 : Ext w (w.alloc (.cells #[vint x, vint y, vint z] 137)) := (Ext.refl _).alloc _
  replace a : ∀ w', Ext (w.alloc (.cells #[vint x, vint y, vint z] 137)) w' → _ := fun w' he => a w' (hx0.trans he)
  replace b : ∀ w', Ext (w.alloc (.cells #[vint x, vint y, vint z] 137)) w' → _ := fun w' he => b w' (hx0.trans he)
  replace cc : ∀ w', Ext (w.alloc (.cells #[vint x, vint y, vint z] 137)) w' → _ := fun w' he => cc w' (hx0.trans he)
  replace ee : ∀ w', Ext (w.alloc (.cells #[vint x, vint y, vint z] 137)) w' → _ := fun w' he => ee w' (hx0.trans he)
  go_enter Tryz.func112, Tryz.ntmps112
  go_wp2_with (go_at_call 109; refine (Hcm.out _).mono ?_; rintro e w1 ⟨rfl, rfl⟩)
  go_ret
  exact ⟨rfl, hx0⟩
/-- The closure 'over' in a block. -/
structure OverIn (w : World) (g7 g : Nat) (rA rB rC rE : Int) : Prop where
  f : ∀ w', Ext w w' → w'.cell? ⟨g7, 0, none⟩ = some (.func (.func 112) #[] #[.pointer (some ⟨g, 0, none⟩)])
  l : LineIn w g rA rB rC rE
theorem OverIn.ext {w w' : World} {g7 g : Nat} {rA rB rC rE : Int} (h : OverIn w g7 g rA rB rC rE) (he : Ext w w') : OverIn w' g7 g rA rB rC rE := ⟨fun w2 h2 => h.f w2 (he.trans h2), h.l.ext he⟩
set_option maxRecDepth 100000 in
set_option maxHeartbeats 4000000 in
theorem right2_any (g7 g : Nat) (rA rB rC rE : Int) (c : Cn) (w : World) (hl : OverIn w g7 g rA rB rC rE) (hc : CnOk c) :
    Calls Tryz.prog 114 #[c.val, .pointer (some ⟨g7, 0, none⟩)] w fun e w' => e = .returned (.bool (decide (0 < ovr rA rB rC rE c))) ∧ Ext w w' := by
  have h1 := fun w' (he : Ext w w') => right1_any g rA rB rC rE c w' (hl.l.ext he) hc
  have hf := hl.f
  have H1 := Lib.hid h1
  clear h1 hl hc
  generalize ovr rA rB rC rE c = R at *
  obtain ⟨⟨x, y⟩, z⟩ := c
  have hx0 : Ext w (w.alloc (.cells #[vint x, vint y, vint z] 137)) := (Ext.refl _).alloc _
  replace hf : ∀ w', Ext (w.alloc (.cells #[vint x, vint y, vint z] 137)) w' → _ := fun w' he => hf w' (hx0.trans he)
  go_enter Tryz.func114, Tryz.ntmps114
  go_wp2_with (go_at_call 112; refine (H1.out _ hx0).mono ?_; rintro e w1 ⟨rfl, hx1⟩)
  go_ret
  exact ⟨rfl, hx0.trans hx1⟩
set_option maxRecDepth 100000 in
set_option maxHeartbeats 4000000 in
theorem index2_any (g7 g : Nat) (rA rB rC rE : Int) (A : Option Addr) (ca : Nat) (l : List Cn) (w : World) (hl : OverIn w g7 g rA rB rC rE) (hA : CRow w A l) (hc : CnsOk l) :
    Calls Tryz.prog 158 #[.slice A l.length ca, .func (.func 114) #[] #[.pointer (some ⟨g7, 0, none⟩)]] w fun e w' => ∃ i : Int, e = .returned (.int .i64 i) ∧ (0 ≤ i ↔ ∃ k, k < l.length ∧ 0 < ovr rA rB rC rE (cAt l k)) ∧ Ext w w' := by
  have hat := fun k (hk : k < l.length) => hA.at_ hk
  have hcl := fun k (hk : k < l.length) w' (he : Ext w w') => right2_any g7 g rA rB rC rE (cAt l k) w' (hl.ext he) (hc.at_ hk)
  have hn8 := hc.len.2
  have Hat := Lib.hid hat
  have Hcl := Lib.hid hcl
  clear hat hcl hl hA hc
  generalize l.length = n at *
  go_enter Tryz.func158, Tryz.ntmps158
  go_wp2
  go_loopw [8] (fun i' wr => ∃ k : Nat, k ≤ n ∧ i' = .int .i64 k ∧ Ext w wr ∧ ∀ j, j < k → ovr rA rB rC rE (cAt l j) ≤ 0) (fun i' _ => n - (intOf i').toNat)
  case atStart => exact ⟨0, by omega, rfl, Ext.refl _, fun j h => absurd h (by omega)⟩
  case round =>
    obtain ⟨k, hk, rfl, hex, hall⟩ := hrel
    have Hall := Lib.hid hall
    clear hall
    by_cases hlt : k < n
    · obtain ⟨ad, rfl, r0, r1, r2⟩ := Hat.out k hlt
      have c0 : ∀ w', Ext wr w' → _ := fun w' he => r0 w' (hex.trans he)
      have c1 : ∀ w', Ext wr w' → _ := fun w' he => r1 w' (hex.trans he)
      have c2 : ∀ w', Ext wr w' → _ := fun w' he => r2 w' (hex.trans he)
      have hcc := fun w' (he : Ext wr w') => Hcl.out k hlt w' (hex.trans he)
      have hnx : ovr rA rB rC rE (cAt l k) ≤ 0 → ∀ j, j < k + 1 → ovr rA rB rC rE (cAt l j) ≤ 0 := fun h j hj => by
        by_cases e : j = k
        · subst e; exact h
        · exact Hall.out j (by omega)
      have hy : 0 < ovr rA rB rC rE (cAt l k) → ∃ k, k < n ∧ 0 < ovr rA rB rC rE (cAt l k) := fun h => ⟨k, hlt, h⟩
      have Hnx := Lib.hid hnx
      have Hy := Lib.hid hy
      clear r0 r1 r2 Hat Hcl hnx hy Hall
      by_cases hp : 0 < ovr rA rB rC rE (cAt l k)
      · have hq := Hy.out hp
        have Hq := Lib.hid hq
        rw [decide_eq_true hp] at hcc
        have Hcc := Lib.hid hcc
        clear hq hcc hp Hnx Hy
        generalize cAt l k = o at c0 c1 c2 Hcc
        go_wp2_with (go_at_call 114; refine (Hcc.out _ (Ext.refl _)).mono ?_; rintro e w5 ⟨rfl, hx5⟩)
        go_ret
        exact ⟨k, rfl, ⟨fun _ => Hq.out, fun _ => by omega⟩, hex.trans hx5⟩
      · have hq := Hnx.out (by omega)
        have Hq := Lib.hid hq
        rw [decide_eq_false hp] at hcc
        have Hcc := Lib.hid hcc
        clear hq hcc hp Hnx Hy
        generalize cAt l k = o at c0 c1 c2 Hcc
        go_wp2_with (go_at_call 114; refine (Hcc.out _ (Ext.refl _)).mono ?_; rintro e w5 ⟨rfl, hx5⟩)
        go_roundw
        case rel => exact ⟨k + 1, by omega, by go_num, hex.trans hx5, Hq.out⟩
        case measure => simp [intOf]; omega
    · obtain rfl : n = k := by omega
      go_wp2
      go_ret
      exact ⟨-1, rfl, ⟨fun h => absurd h (by omega), fun ⟨j, h1, h2⟩ => by have := Hall.out j h1; omega⟩, hex⟩
set_option maxHeartbeats 4000000 in
theorem contains2_any (g7 g : Nat) (rA rB rC rE : Int) (A : Option Addr) (ca : Nat) (l : List Cn) (w : World) (hl : OverIn w g7 g rA rB rC rE) (hA : CRow w A l) (hc : CnsOk l) :
    ∃ S : Bool, (S = true ↔ ∃ k, k < l.length ∧ 0 < ovr rA rB rC rE (cAt l k)) ∧ ∀ w', Ext w w' → Calls Tryz.prog 113 #[.slice A l.length ca, .func (.func 114) #[] #[.pointer (some ⟨g7, 0, none⟩)]] w' fun e w'' => e = .returned (.bool S) ∧ Ext w' w'' := by
  refine ⟨@decide (∃ k, k < l.length ∧ 0 < ovr rA rB rC rE (cAt l k)) (Classical.propDecidable _), by simp, fun w' he => ?_⟩
  have hix := index2_any g7 g rA rB rC rE A ca l w' (hl.ext he) (hA.ext he) hc
  have hd : ∀ i : Int, (0 ≤ i ↔ ∃ k, k < l.length ∧ 0 < ovr rA rB rC rE (cAt l k)) → decide (0 ≤ i) = @decide (∃ k, k < l.length ∧ 0 < ovr rA rB rC rE (cAt l k)) (Classical.propDecidable _) := fun i h => by
    by_cases hi : 0 ≤ i
    · rw [decide_eq_true hi]; exact (@decide_eq_true _ (Classical.propDecidable _) (h.1 hi)).symm
    · rw [decide_eq_false hi]; exact (@decide_eq_false _ (Classical.propDecidable _) (fun h' => hi (h.2 h'))).symm
  have Hix := Lib.hid hix
  have Hd := Lib.hid hd
  clear hix hd hl hA hc
  generalize @decide (∃ k, k < l.length ∧ 0 < ovr rA rB rC rE (cAt l k)) (Classical.propDecidable _) = S at *
  generalize l.length = n at *
  go_enter Tryz.func113, Tryz.ntmps113
  go_wp2_with (go_at_call 158; refine Hix.out.mono ?_; rintro e w1 ⟨i, rfl, hi, h1⟩; have Hi := Lib.hid hi; clear hi)
  go_ret
  exact ⟨ret_b (Hd.out _ Hi.out), h1⟩
set_option maxRecDepth 100000 in
set_option maxHeartbeats 4000000 in
theorem right3_any (g7 g : Nat) (rA rB rC rE : Int) (c : Cn) (w : World) (hl : OverIn w g7 g rA rB rC rE) (hc : CnOk c) :
    Calls Tryz.prog 115 #[c.val, .pointer (some ⟨g7, 0, none⟩)] w fun e w' => e = .returned (.bool (decide (ovr rA rB rC rE c < 0))) ∧ Ext w w' := by
  have h1 := fun w' (he : Ext w w') => right1_any g rA rB rC rE c w' (hl.l.ext he) hc
  have hf := hl.f
  have H1 := Lib.hid h1
  clear h1 hl hc
  generalize ovr rA rB rC rE c = R at *
  obtain ⟨⟨x, y⟩, z⟩ := c
  have hx0 : Ext w (w.alloc (.cells #[vint x, vint y, vint z] 137)) := (Ext.refl _).alloc _
  replace hf : ∀ w', Ext (w.alloc (.cells #[vint x, vint y, vint z] 137)) w' → _ := fun w' he => hf w' (hx0.trans he)
  go_enter Tryz.func115, Tryz.ntmps115
  go_wp2_with (go_at_call 112; refine (H1.out _ hx0).mono ?_; rintro e w1 ⟨rfl, hx1⟩)
  go_ret
  exact ⟨rfl, hx0.trans hx1⟩
set_option maxRecDepth 100000 in
set_option maxHeartbeats 4000000 in
theorem index3_any (g7 g : Nat) (rA rB rC rE : Int) (A : Option Addr) (ca : Nat) (l : List Cn) (w : World) (hl : OverIn w g7 g rA rB rC rE) (hA : CRow w A l) (hc : CnsOk l) :
    Calls Tryz.prog 158 #[.slice A l.length ca, .func (.func 115) #[] #[.pointer (some ⟨g7, 0, none⟩)]] w fun e w' => ∃ i : Int, e = .returned (.int .i64 i) ∧ (0 ≤ i ↔ ∃ k, k < l.length ∧ ovr rA rB rC rE (cAt l k) < 0) ∧ Ext w w' := by
  have hat := fun k (hk : k < l.length) => hA.at_ hk
  have hcl := fun k (hk : k < l.length) w' (he : Ext w w') => right3_any g7 g rA rB rC rE (cAt l k) w' (hl.ext he) (hc.at_ hk)
  have hn8 := hc.len.2
  have Hat := Lib.hid hat
  have Hcl := Lib.hid hcl
  clear hat hcl hl hA hc
  generalize l.length = n at *
  go_enter Tryz.func158, Tryz.ntmps158
  go_wp2
  go_loopw [8] (fun i' wr => ∃ k : Nat, k ≤ n ∧ i' = .int .i64 k ∧ Ext w wr ∧ ∀ j, j < k → 0 ≤ ovr rA rB rC rE (cAt l j)) (fun i' _ => n - (intOf i').toNat)
  case atStart => exact ⟨0, by omega, rfl, Ext.refl _, fun j h => absurd h (by omega)⟩
  case round =>
    obtain ⟨k, hk, rfl, hex, hall⟩ := hrel
    have Hall := Lib.hid hall
    clear hall
    by_cases hlt : k < n
    · obtain ⟨ad, rfl, r0, r1, r2⟩ := Hat.out k hlt
      have c0 : ∀ w', Ext wr w' → _ := fun w' he => r0 w' (hex.trans he)
      have c1 : ∀ w', Ext wr w' → _ := fun w' he => r1 w' (hex.trans he)
      have c2 : ∀ w', Ext wr w' → _ := fun w' he => r2 w' (hex.trans he)
      have hcc := fun w' (he : Ext wr w') => Hcl.out k hlt w' (hex.trans he)
      have hnx : 0 ≤ ovr rA rB rC rE (cAt l k) → ∀ j, j < k + 1 → 0 ≤ ovr rA rB rC rE (cAt l j) := fun h j hj => by
        by_cases e : j = k
        · subst e; exact h
        · exact Hall.out j (by omega)
      have hy : ovr rA rB rC rE (cAt l k) < 0 → ∃ k, k < n ∧ ovr rA rB rC rE (cAt l k) < 0 := fun h => ⟨k, hlt, h⟩
      have Hnx := Lib.hid hnx
      have Hy := Lib.hid hy
      clear r0 r1 r2 Hat Hcl hnx hy Hall
      by_cases hp : ovr rA rB rC rE (cAt l k) < 0
      · have hq := Hy.out hp
        have Hq := Lib.hid hq
        rw [decide_eq_true hp] at hcc
        have Hcc := Lib.hid hcc
        clear hq hcc hp Hnx Hy
        generalize cAt l k = o at c0 c1 c2 Hcc
        go_wp2_with (go_at_call 115; refine (Hcc.out _ (Ext.refl _)).mono ?_; rintro e w5 ⟨rfl, hx5⟩)
        go_ret
        exact ⟨k, rfl, ⟨fun _ => Hq.out, fun _ => by omega⟩, hex.trans hx5⟩
      · have hq := Hnx.out (by omega)
        have Hq := Lib.hid hq
        rw [decide_eq_false hp] at hcc
        have Hcc := Lib.hid hcc
        clear hq hcc hp Hnx Hy
        generalize cAt l k = o at c0 c1 c2 Hcc
        go_wp2_with (go_at_call 115; refine (Hcc.out _ (Ext.refl _)).mono ?_; rintro e w5 ⟨rfl, hx5⟩)
        go_roundw
        case rel => exact ⟨k + 1, by omega, by go_num, hex.trans hx5, Hq.out⟩
        case measure => simp [intOf]; omega
    · obtain rfl : n = k := by omega
      go_wp2
      go_ret
      exact ⟨-1, rfl, ⟨fun h => absurd h (by omega), fun ⟨j, h1, h2⟩ => by have := Hall.out j h1; omega⟩, hex⟩
set_option maxHeartbeats 4000000 in
theorem contains3_any (g7 g : Nat) (rA rB rC rE : Int) (A : Option Addr) (ca : Nat) (l : List Cn) (w : World) (hl : OverIn w g7 g rA rB rC rE) (hA : CRow w A l) (hc : CnsOk l) :
    ∃ S : Bool, (S = true ↔ ∃ k, k < l.length ∧ ovr rA rB rC rE (cAt l k) < 0) ∧ ∀ w', Ext w w' → Calls Tryz.prog 113 #[.slice A l.length ca, .func (.func 115) #[] #[.pointer (some ⟨g7, 0, none⟩)]] w' fun e w'' => e = .returned (.bool S) ∧ Ext w' w'' := by
  refine ⟨@decide (∃ k, k < l.length ∧ ovr rA rB rC rE (cAt l k) < 0) (Classical.propDecidable _), by simp, fun w' he => ?_⟩
  have hix := index3_any g7 g rA rB rC rE A ca l w' (hl.ext he) (hA.ext he) hc
  have hd : ∀ i : Int, (0 ≤ i ↔ ∃ k, k < l.length ∧ ovr rA rB rC rE (cAt l k) < 0) → decide (0 ≤ i) = @decide (∃ k, k < l.length ∧ ovr rA rB rC rE (cAt l k) < 0) (Classical.propDecidable _) := fun i h => by
    by_cases hi : 0 ≤ i
    · rw [decide_eq_true hi]; exact (@decide_eq_true _ (Classical.propDecidable _) (h.1 hi)).symm
    · rw [decide_eq_false hi]; exact (@decide_eq_false _ (Classical.propDecidable _) (fun h' => hi (h.2 h'))).symm
  have Hix := Lib.hid hix
  have Hd := Lib.hid hd
  clear hix hd hl hA hc
  generalize @decide (∃ k, k < l.length ∧ ovr rA rB rC rE (cAt l k) < 0) (Classical.propDecidable _) = S at *
  generalize l.length = n at *
  go_enter Tryz.func113, Tryz.ntmps113
  go_wp2_with (go_at_call 158; refine Hix.out.mono ?_; rintro e w1 ⟨i, rfl, hi, h1⟩; have Hi := Lib.hid hi; clear hi)
  go_ret
  exact ⟨ret_b (Hd.out _ Hi.out), h1⟩
def leftP (c other : List Cn) (all : List Int) : Prop := ∀ j, j < all.length → inAt c other j (getI all j)
instance (c other : List Cn) (all : List Int) : Decidable (leftP c other all) := by unfold leftP; infer_instance
def leftB (c other : List Cn) (all : List Int) : Bool := decide (leftP c other all)
theorem leftB_yes {c other : List Cn} {all : List Int} (h : leftP c other all) : true = leftB c other all := (decide_eq_true h).symm
theorem leftB_no {c other : List Cn} {all : List Int} (h : ¬ leftP c other all) : false = leftB c other all := (decide_eq_false h).symm
set_option maxRecDepth 100000 in
set_option maxHeartbeats 8000000 in
theorem left4_any (A : Option Addr) (ca : Nat) (c : List Cn) (B : Option Addr) (cb : Nat) (other : List Cn) (I : Option Addr) (ic : Nat) (all : List Int) (w : World) (hA : CRow w A c) (hB : CRow w B other) (hI : Ints w I all) (hc : CnsOk c) (ho : CnsOk other) (hq : all.length ≤ c.length) :
    Calls Tryz.prog 116 #[.slice A c.length ca, .slice B other.length cb, .slice I all.length ic] w fun e w' => e = .returned (.bool (leftB c other all)) ∧ Ext w w' := by
  have hat := fun k (hk : k < c.length) => hA.at_ hk
  have hbt := fun k (hk : k < other.length) => hB.at_ hk
  have hit := fun k (hk : k < all.length) => intsAt hI hk
  have hsd : ∀ i, i < c.length → ∀ j, j < other.length → ∀ w' : World, Calls Tryz.prog 56 #[(cAt c i).val, (cAt c ((i + 1) % c.length)).val, (cAt other j).val] w' fun e w'' => e = .returned (.int .i64 (eside c i (cAt other j))) ∧ Ext w' w'' := fun i hi j hj w' => side_any _ _ _ w' (hc.edge hi) (ho.at_ hj)
  have hyes : (∀ j, j < all.length → inAt c other j (getI all j)) → true = leftB c other all := fun h => leftB_yes h
  have hno : ∀ j, j < all.length → ¬ inAt c other j (getI all j) → false = leftB c other all := fun j hj h => leftB_no fun h' => h (h' j hj)
  have hin : ∀ j x, inAt c other j x ↔ (0 ≤ x ∧ x < other.length ∧ 0 < eside c j (cAt other x.toNat)) := fun _ _ => Iff.rfl
  have hn8 := hc.len
  have hm8 := ho.len
  have Hat := Lib.hid hat
  have Hbt := Lib.hid hbt
  have Hit := Lib.hid hit
  have Hsd := Lib.hid hsd
  have Hyes := Lib.hid hyes
  have Hno := Lib.hid hno
  have Hin := Lib.hid hin
  clear hat hbt hit hsd hyes hno hin hA hB hI hc ho
  generalize leftB c other all = R at *
  generalize c.length = n at *
  generalize other.length = m at *
  generalize all.length = q at *
  go_enter Tryz.func116, Tryz.ntmps116
  go_wp2
  go_loopw [11] (fun i wr => ∃ k : Nat, k ≤ q ∧ i = .int .i64 k ∧ Ext w wr ∧ ∀ j, j < k → inAt c other j (getI all j)) (fun i _ => q - (intOf i).toNat)
  case atStart => exact ⟨0, by omega, rfl, Ext.refl _, fun j h => absurd h (by omega)⟩
  case round =>
    obtain ⟨k, hk, rfl, hex, hall⟩ := hrel
    have Hall := Lib.hid hall
    clear hall
    by_cases hlt : k < q
    · obtain ⟨id, rfl, p0⟩ := Hit.out k hlt
      have u0 : ∀ w', Ext wr w' → _ := fun w' he => p0 w' (hex.trans he)
      have hnx : inAt c other k (getI all k) → ∀ j, j < k + 1 → inAt c other j (getI all j) := fun h j hj => by
        by_cases e : j = k
        · subst e; exact h
        · exact Hall.out j (by omega)
      have hno := Hno.out k hlt
      have hin := Hin.out k (getI all k)
      have Hnx := Lib.hid hnx
      have Hno' := Lib.hid hno
      have Hin' := Lib.hid hin
      have hkq : (k : Int) < (q : Int) := by omega
      clear p0 hnx hno hin Hall Hno Hin Hyes Hit
      have hkn : k < n := by omega
      generalize getI all k = x at *
      by_cases h1 : x < 0
      · have hq' := Hno'.out (fun h => by have := (Hin'.out.1 h).1; omega)
        have Hq := Lib.hid hq'
        have d1 : decide (x < 0) = true := by simpa using h1
        clear hq' Hnx Hno' Hin' Hat Hbt Hsd h1
        go_wp2
        refine wp_region_calm 28 (fun _ _ _ _ => True) (fun _ _ _ _ _ _ h => h) (by kernel_rfl) (by kernel_rfl) ?_
        simp only [List.take_succ_cons, List.take_zero, List.drop_succ_cons, List.drop_zero]
        refine calm_quiet calm_mono_final 25 (by kernel_rfl) ?_
        simp only [List.take_succ_cons, List.take_zero, List.drop_succ_cons, List.drop_zero]
        repeat (go_big_quiet_step (fail))
        refine wpQuiet_nil ?_
        refine calm_skip (by kernel_rfl) ?_
        simp only [Act.put, List.setIfInBounds_toArray, List.set_cons_succ, List.set_cons_zero]
        refine calm_quiet calm_mono_final 2 (by kernel_rfl) ?_
        simp only [List.take_succ_cons, List.take_zero, List.drop_succ_cons, List.drop_zero]
        repeat (go_big_quiet_step (fail))
        refine wpQuiet_nil ?_
        refine calm_nil fun w3 he3 _ => ?_
        go_wp2
        go_ret
        exact ⟨ret_b Hq.out, hex.trans he3⟩
      · have d1 : decide (x < 0) = false := by simpa using h1
        by_cases h2 : (m : Int) ≤ x
        · have hq' := Hno'.out (fun h => by have := (Hin'.out.1 h).2.1; omega)
          have Hq := Lib.hid hq'
          have d2 : decide ((m : Int) ≤ x) = true := by simpa using h2
          clear hq' Hnx Hno' Hin' Hat Hbt Hsd h1 h2
          go_wp2
          refine wp_region_calm 28 (fun _ _ _ _ => True) (fun _ _ _ _ _ _ h => h) (by kernel_rfl) (by kernel_rfl) ?_
          simp only [List.take_succ_cons, List.take_zero, List.drop_succ_cons, List.drop_zero]
          refine calm_quiet calm_mono_final 25 (by kernel_rfl) ?_
          simp only [List.take_succ_cons, List.take_zero, List.drop_succ_cons, List.drop_zero]
          repeat (go_big_quiet_step (fail))
          refine wpQuiet_nil ?_
          refine calm_skip (by kernel_rfl) ?_
          simp only [Act.put, List.setIfInBounds_toArray, List.set_cons_succ, List.set_cons_zero]
          refine calm_quiet calm_mono_final 2 (by kernel_rfl) ?_
          simp only [List.take_succ_cons, List.take_zero, List.drop_succ_cons, List.drop_zero]
          repeat (go_big_quiet_step (fail))
          refine wpQuiet_nil ?_
          refine calm_nil fun w3 he3 _ => ?_
          go_wp2
          go_ret
          exact ⟨ret_b Hq.out, hex.trans he3⟩
        · have d2 : decide ((m : Int) ≤ x) = false := by simpa using h2
          obtain ⟨j, rfl⟩ := Int.eq_ofNat_of_zero_le (show 0 ≤ x by omega)
          have hjm : j < m := by omega
          have d2' : decide (m ≤ j) = false := by simp; omega
          have e2 : ((k : Int) + 1).tmod (n : Int) = (((k + 1) % n : Nat) : Int) := by
            rw [Int.tmod_eq_emod_of_nonneg (by omega)]; exact (by push_cast; rfl)
          have e3 : ((n : Int) = 0) = False := by simp; omega
          have hk1 := Nat.mod_lt (k + 1) (show 0 < n by omega)
          obtain ⟨ad, rfl, a0, a1, a2⟩ := Hat.out k hkn
          obtain ⟨_, ee, b0, b1, b2⟩ := Hat.out _ hk1
          cases ee
          obtain ⟨bd, rfl, z0, z1, z2⟩ := Hbt.out j hjm
          replace a0 : ∀ w', Ext wr w' → _ := fun w' he => a0 w' (hex.trans he)
          replace a1 : ∀ w', Ext wr w' → _ := fun w' he => a1 w' (hex.trans he)
          replace a2 : ∀ w', Ext wr w' → _ := fun w' he => a2 w' (hex.trans he)
          replace b0 : ∀ w', Ext wr w' → _ := fun w' he => b0 w' (hex.trans he)
          replace b1 : ∀ w', Ext wr w' → _ := fun w' he => b1 w' (hex.trans he)
          replace b2 : ∀ w', Ext wr w' → _ := fun w' he => b2 w' (hex.trans he)
          replace z0 : ∀ w', Ext wr w' → _ := fun w' he => z0 w' (hex.trans he)
          replace z1 : ∀ w', Ext wr w' → _ := fun w' he => z1 w' (hex.trans he)
          replace z2 : ∀ w', Ext wr w' → _ := fun w' he => z2 w' (hex.trans he)
          have hs := Hsd.out k hkn j hjm
          have hin := Hin'.out
          simp only [Int.toNat_natCast] at hin
          have Hs := Lib.hid hs
          have Hin := Lib.hid hin
          clear hs hin Hin' Hat Hbt Hsd h1 h2
          generalize (k + 1) % n = k1 at *
          generalize eside c k (cAt other j) = D at *
          generalize cAt c k = a at *
          generalize cAt c k1 = b at *
          generalize cAt other j = z at *
          have hk1n : (k1 : Int) < (n : Int) := by omega
          have hkn' : (k : Int) < (n : Int) := by omega
          have hjm' : (j : Int) < (m : Int) := by omega
          by_cases hD : D ≤ 0
          · have hq' := Hno'.out (fun h => by have := (Hin.out.1 h).2.2; omega)
            have Hq := Lib.hid hq'
            have d5 : decide (D ≤ 0) = true := by simpa using hD
            clear hq' Hnx Hno' Hin hD
            go_wp2
            refine wp_region_calm 28 (fun j _ v _ => j = 25 → v = .int .i64 D) (fun _ _ _ _ _ _ h => h) (by kernel_rfl) (by kernel_rfl) ?_
            simp only [List.take_succ_cons, List.take_zero, List.drop_succ_cons, List.drop_zero]
            refine calm_quiet calm_mono_final 25 (by kernel_rfl) ?_
            simp only [List.take_succ_cons, List.take_zero, List.drop_succ_cons, List.drop_zero]
            repeat (go_big_quiet_step (fail))
            refine wpQuiet_nil ?_
            refine calm_call calm_mono_final 56 #[a.val, b.val, z.val] rfl (fun w => ?_) (fun w he hF => ?_) ?_
            · go_simp
            · exact (Hs.out w).mono fun e w'' ⟨he', hx⟩ => ⟨_, he', hx, fun _ => rfl⟩
            rintro _ _ _ h
            cases h rfl
            simp only [Act.put, List.setIfInBounds_toArray, List.set_cons_succ, List.set_cons_zero]
            refine calm_quiet calm_mono_final 2 (by kernel_rfl) ?_
            simp only [List.take_succ_cons, List.take_zero, List.drop_succ_cons, List.drop_zero]
            repeat (go_big_quiet_step (fail))
            refine wpQuiet_nil ?_
            refine calm_nil fun w3 he3 _ => ?_
            go_wp2
            go_ret
            exact ⟨ret_b Hq.out, hex.trans he3⟩
          · have hq' := Hnx.out (Hin.out.2 ⟨by omega, by omega, by omega⟩)
            have Hq := Lib.hid hq'
            have d5 : decide (D ≤ 0) = false := by simpa using hD
            clear hq' Hnx Hno' Hin hD
            go_wp2
            refine wp_region_calm 28 (fun j _ v _ => j = 25 → v = .int .i64 D) (fun _ _ _ _ _ _ h => h) (by kernel_rfl) (by kernel_rfl) ?_
            simp only [List.take_succ_cons, List.take_zero, List.drop_succ_cons, List.drop_zero]
            refine calm_quiet calm_mono_final 25 (by kernel_rfl) ?_
            simp only [List.take_succ_cons, List.take_zero, List.drop_succ_cons, List.drop_zero]
            repeat (go_big_quiet_step (fail))
            refine wpQuiet_nil ?_
            refine calm_call calm_mono_final 56 #[a.val, b.val, z.val] rfl (fun w => ?_) (fun w he hF => ?_) ?_
            · go_simp
            · exact (Hs.out w).mono fun e w'' ⟨he', hx⟩ => ⟨_, he', hx, fun _ => rfl⟩
            rintro _ _ _ h
            cases h rfl
            simp only [Act.put, List.setIfInBounds_toArray, List.set_cons_succ, List.set_cons_zero]
            refine calm_quiet calm_mono_final 2 (by kernel_rfl) ?_
            simp only [List.take_succ_cons, List.take_zero, List.drop_succ_cons, List.drop_zero]
            repeat (go_big_quiet_step (fail))
            refine wpQuiet_nil ?_
            refine calm_nil fun w3 he3 _ => ?_
            go_wp2
            go_roundw
            case rel => exact ⟨k + 1, by omega, by go_num, hex.trans he3, Hq.out⟩
            case measure => simp [intOf]; omega
    · obtain rfl : q = k := by omega
      have hy := Hyes.out Hall.out
      have Hy := Lib.hid hy
      clear hy Hyes Hno Hin Hall Hat Hbt Hit Hsd
      go_wp2
      go_ret
      exact ⟨ret_b Hy.out, hex⟩
end Go.Proofs.YtebkhdhhajjhfaaGreat
