/- The arguments of the laws, opened: what the reader calls readable, as lists of numbers and of pistons. -/
import Derived.Test.YtbclbcldplmppaaRows
import Derived.Test.YtbclbcldplmppaaGv
import Derived.ProofKit
import Derived.OpenShut
import Derived.ChangeOld
import Derived.Below
import Derived.Deep.Slices
import Derived.Deep.Fields
import Derived.ChangeSame
import Derived.Lib.SmallJoins
namespace Go.Proofs.Ytbclbcldplmppaa
open Go.ChangeShapes Go.WideShapes Go.ChangeAt Go.RowKit Go.Deep

theorem own_knob : ownKnob Try.prog.godebug = none := by kernel_rfl
theorem laid_out : laidOutB Try.prog = true := by kernel_rfl

section
variable {H : Type} {enc : TypeId × Value → H} {w : World} {base : Nat} {held : Bool}

theorem i64_bounds {n : Int} (h : (Lit.int .i64 n).wf = true) : -9223372036854775808 ≤ n ∧ n ≤ 9223372036854775807 := by
  have := h
  simp [Lit.wf, IntKind.min, IntKind.max, IntKind.signed, IntKind.bits] at this
  omega

theorem ints_of {n : Nat} {v : Value} {y : DataW H × List MemPlace} (h : DataW.trod enc Try.prog w base (fun _ => true) held n 22 [v] = some y) :
    ∃ (A : Option Addr) (c : Nat) (xs : List Int), v = .slice A xs.length c ∧ Ints w A xs ∧ xs.length ≤ 9223372036854775807 ∧ ∀ x ∈ xs, -9223372036854775808 ≤ x ∧ x ≤ 9223372036854775807 := by
  rcases open_ints Try.underlying22 Try.underlying3 (by kernel_rfl) h with ⟨hcs, _⟩ | ⟨x, l, c, zs, hcs, _, hl, hm, hz, _, hcell, hwz⟩
  · simp at hcs
    subst hcs
    exact ⟨none, 0, [], rfl, Ints.nil _ _, by simp, by simp⟩
  · simp at hcs hz
    subst hcs
    have hlen : (zs.take l).length = l := by rw [List.length_take]; omega
    refine ⟨some x, c, zs.take l, by rw [hlen], fun k hk => ⟨x, rfl, ?_⟩, by rw [hlen]; unfold maxLen at hm; omega, fun z hz' => i64_bounds (hwz z (List.mem_of_mem_take hz'))⟩
    have hk' : k < l := by rw [List.length_map, hlen] at hk; exact hk
    rw [hcell k (by omega)]
    simp [hk', List.getD]
    rw [List.getElem?_eq_getElem (by omega)]
    simp

theorem int_of {n : Nat} {v : Value} {y : DataW H × List MemPlace} (h : DataW.trod enc Try.prog w base (fun _ => true) held n 3 [v] = some y) : ∃ x, v = .int .i64 x ∧ (Lit.int .i64 x).wf = true := by
  obtain ⟨x, hv, _, hw⟩ := DataW.trod_int Try.underlying3 h
  simp at hv
  exact ⟨x, hv, hw⟩

/-- A slice of structs: for every element and field the cell, and the field's own reading. -/
theorem open_slice_fields {P : Program} {spare : Nat → Bool} {t e : TypeId} {fs : Array Field} {fuel : Nat} {cs : List Value} {x : DataW H × List MemPlace} (ht : P.underlying t = some (.slice e)) (he : P.underlying e = some (.struct fs))
    (hone : oneCellFields P fs = true) (hC : P.cellsOf e = fs.size) (h : DataW.trod enc P w base spare held fuel t cs = some x) :
    (cs = [.slice none 0 0] ∧ x = (.nil, [])) ∨
    ∃ (a : Addr) (len cap : Nat), cs = [.slice (some a) len cap] ∧ len ≤ cap ∧ cap ≤ maxLen ∧
      ∀ i, i < len → ∃ (n : Nat), ∀ (j : Nat) (f : Field), fs[j]? = some f → ∃ (v : Value) (y : DataW H × List MemPlace), w.cell? (a.add (i * fs.size + j)) = some v ∧ DataW.trod enc P w base spare held n f.type [v] = some y := by
  rcases open_slice ht h with h0 | ⟨a, len, cap, m, n, D, Pl, hcs, hb, hl, hm, hmm, hx, hi⟩
  · exact .inl h0
  · refine .inr ⟨a, len, cap, hcs, hl, hm, fun i him => ?_⟩
    obtain ⟨cs', hc, ht'⟩ := hi i (by rw [hmm]; split <;> omega)
    rw [hC] at hc
    obtain ⟨ys, n', hn', hy, hlen, hyl, hf⟩ := DataW.trod_struct he ht'
    obtain ⟨_, hcl, hat⟩ := World.cells?_some hc
    refine ⟨n', fun j f hj => ?_⟩
    obtain ⟨ho, hk⟩ := hone_of hone j f hj
    have hjl : j < fs.size := (Array.getElem?_eq_some_iff.1 hj).1
    have hcell := hat j hjl
    have hv : cs'[j]? = some (cs'[j]'(by omega)) := List.getElem?_eq_getElem (by omega)
    have h1 := hf j f hj
    rw [ho, hk] at h1
    have hone' : (cs'.drop j).take 1 = [cs'[j]'(by omega)] := by
      rw [List.drop_eq_getElem_cons (by omega)]
      rfl
    rw [hone'] at h1
    have hys : ys[j]? = some (ys[j]'(by omega)) := List.getElem?_eq_getElem (by omega)
    refine ⟨_, _, ?_, h1.trans hys⟩
    rw [← Go.Deep.add_add, hcell, hv]
end

section
variable {H : Type} {enc : TypeId × Value → H} {w : World} {base : Nat} {held : Bool}
/-- What is read of a piston. -/
structure PisOk (w : World) (p : Pis) : Prop where
  lift : Ints w p.a p.lift
  len : p.lift.length ≤ 9223372036854775807

set_option maxRecDepth 100000 in
theorem arg_piston {r : Reach} {b0 : Nat} {v : Value} {d : DataW H} {p : List MemPlace} (hv : Value.okWide Try.prog w r b0 24 v) (h : DataW.Trod enc Try.prog w base (fun _ => true) held 24 v d p) :
    ∃ q : Pis, v = q.val ∧ PisOk w q := by
  obtain ⟨v0, v1, v2, y0, y1, y2, n, rfl, _, _, h0, h1, h2⟩ := Joins.open_agg3 Try.underlying24 (by kernel_rfl) (by kernel_rfl) hv h
  obtain ⟨A, c, xs, rfl, hx, hl, _⟩ := ints_of h0
  obtain ⟨a, rfl, _⟩ := int_of h1
  obtain ⟨b, rfl, _⟩ := int_of h2
  exact ⟨⟨A, c, xs, a, b⟩, rfl, hx, hl⟩

set_option maxRecDepth 100000 in
theorem arg_pistons {r : Reach} {b0 : Nat} {v : Value} {d : DataW H} {p : List MemPlace} (hv : Value.okWide Try.prog w r b0 25 v) (h : DataW.Trod enc Try.prog w base (fun _ => true) held 25 v d p) :
    ∃ (A : Option Addr) (c : Nat) (ps : List Pis), v = .slice A ps.length c ∧ Row w A (ps.map Pis.cells).flatten ∧ (∀ q ∈ ps, PisOk w q) ∧ ps.length ≤ 9223372036854775807 := by
  obtain ⟨A0, len0, cap0, rfl⟩ := okWide_slice Try.underlying25 hv
  obtain ⟨fuel, hf⟩ := h
  rcases open_slice_fields Try.underlying25 Try.underlying24 (by kernel_rfl) (by kernel_rfl) hf with ⟨hcs, _⟩ | ⟨a, len, cap, hcs, hl, hm, hi⟩
  · simp [Value.cells] at hcs
    obtain ⟨rfl, rfl, rfl⟩ := hcs
    exact ⟨none, 0, [], rfl, Row.nil _ _, by simp, by simp⟩
  · simp [Value.cells] at hcs
    obtain ⟨rfl, rfl, rfl⟩ := hcs
    have each : ∀ i : Nat, i < len0 → ∃ q : Pis, (∀ j, j < 3 → w.cell? (a.add (i * 3 + j)) = q.cells[j]?) ∧ PisOk w q := fun i hil => by
      obtain ⟨n, hn⟩ := hi i hil
      obtain ⟨v0, y0, c0, h0⟩ := hn 0 _ rfl
      obtain ⟨v1, y1, c1, h1⟩ := hn 1 _ rfl
      obtain ⟨v2, y2, c2, h2⟩ := hn 2 _ rfl
      obtain ⟨A, c, xs, rfl, hx, hl, _⟩ := ints_of h0
      obtain ⟨x, rfl, _⟩ := int_of h1
      obtain ⟨y, rfl, _⟩ := int_of h2
      refine ⟨⟨A, c, xs, x, y⟩, fun j hj => ?_, hx, hl⟩
      match j, hj with
      | 0, _ => exact c0
      | 1, _ => exact c1
      | 2, _ => exact c2
    have pick : ∀ m, m ≤ len0 → ∃ ps : List Pis, ps.length = m ∧ ∀ i (hi : i < ps.length), (∀ j, j < 3 → w.cell? (a.add (i * 3 + j)) = (ps[i].cells)[j]?) ∧ PisOk w ps[i] := by
      intro m
      induction m with
      | zero => exact fun _ => ⟨[], rfl, fun i hi => by simp at hi⟩
      | succ m ih =>
        intro hm'
        obtain ⟨ps, hl, hps⟩ := ih (by omega)
        obtain ⟨q, hq⟩ := each m (by omega)
        refine ⟨ps ++ [q], by simp [hl], fun i hi => ?_⟩
        by_cases e : i < ps.length
        · rw [List.getElem_append_left e]; exact hps i e
        · have : i = ps.length := by simp at hi; omega
          subst this
          simp
          rw [hl]
          exact hq
    obtain ⟨ps, hlen, hps⟩ := pick len0 (Nat.le_refl _)
    refine ⟨some a, cap0, ps, by rw [hlen], fun k hk => ⟨a, rfl, ?_⟩, fun q hq => ?_, by rw [hlen]; unfold maxLen at hm; omega⟩
    · have hs : ∀ r ∈ ps.map Pis.cells, r.length = 3 := by simp [Pis.cells]
      have hfl := flatten_len 3 _ hs
      have hk1 : k / 3 < ps.length := by rw [hfl, List.length_map] at hk; omega
      have e : k = k / 3 * 3 + k % 3 := by omega
      have h3 := flatten_get 3 _ hs (k / 3) (k % 3) (by omega) (by simpa using hk1)
      rw [e, h3]
      rw [(hps (k / 3) hk1).1 (k % 3) (by omega)]
      simp
    · obtain ⟨i, hi, rfl⟩ := List.getElem_of_mem hq
      exact (hps i hi).2
end
end Go.Proofs.Ytbclbcldplmppaa
