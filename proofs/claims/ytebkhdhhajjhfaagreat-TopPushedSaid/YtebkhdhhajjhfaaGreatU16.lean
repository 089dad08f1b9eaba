/- The arguments of the laws, opened. -/
import Derived.Test.YtebkhdhhajjhfaaGreatRows
import Derived.Test.YtebkhdhhajjhfaaGreatU06
import Derived.ProofKit
import Derived.OpenShut
import Derived.ChangeOld
import Derived.Below
import Derived.Deep.Slices
import Derived.Deep.Fields
import Derived.ChangeSame
import Derived.Lib.SmallJoins
import Derived.Test.YtebkhdhhajjhfaaGreatU15
namespace Go.Proofs.YtebkhdhhajjhfaaGreat
open Go.ChangeShapes Go.WideShapes Go.ChangeAt Go.RowKit Go.Deep

theorem own_knob : ownKnob Tryz.prog.godebug = none := by kernel_rfl
theorem laid_out : laidOutB Tryz.prog = true := by kernel_rfl
theorem i64_bounds {n : Int} (h : (Lit.int .i64 n).wf = true) : -9223372036854775808 ≤ n ∧ n ≤ 9223372036854775807 := by
  have := h
  simp [Lit.wf, IntKind.min, IntKind.max, IntKind.signed, IntKind.bits] at this
  omega
theorem pick_list {α : Type} {R : Nat → α → Prop} (len : Nat) (h : ∀ i, i < len → ∃ q, R i q) : ∃ l : List α, l.length = len ∧ ∀ i (hi : i < l.length), R i l[i] := by
  have pick : ∀ m, m ≤ len → ∃ ps : List α, ps.length = m ∧ ∀ i (hi : i < ps.length), R i ps[i] := by
    intro m
    induction m with
    | zero => exact fun _ => ⟨[], rfl, fun i hi => by simp at hi⟩
    | succ m ih =>
      intro hm'
      obtain ⟨ps, hl, hps⟩ := ih (by omega)
      obtain ⟨q, hq⟩ := h m (by omega)
      refine ⟨ps ++ [q], by simp [hl], fun i hi => ?_⟩
      by_cases e : i < ps.length
      · rw [List.getElem_append_left e]; exact hps i e
      · have : i = ps.length := by simp at hi; omega
        subst this
        simp
        rw [hl]
        exact hq
  exact pick len (Nat.le_refl _)
theorem row_of_cells {α : Type} {w : World} {a : Addr} {l : List α} (cells : α → List Value) (s : Nat) (hs0 : 0 < s) (hs : ∀ x, (cells x).length = s) (h : ∀ i (hi : i < l.length) j, j < s → w.cell? (a.add (i * s + j)) = (cells l[i])[j]?) : Row w (some a) (l.map cells).flatten := fun k hk => by
  refine ⟨a, rfl, ?_⟩
  have hsz : ∀ r ∈ l.map cells, r.length = s := fun r hr => by obtain ⟨x, _, rfl⟩ := List.mem_map.1 hr; exact hs x
  have hfl := flatten_len s _ hsz
  have hk1 : k / s < l.length := by
    rw [hfl, List.length_map] at hk
    exact Nat.div_lt_of_lt_mul (by rw [Nat.mul_comm]; exact hk)
  have hm : k % s < s := Nat.mod_lt _ hs0
  have e : k = k / s * s + k % s := by rw [Nat.mul_comm]; exact (Nat.div_add_mod k s).symm
  have h3 := flatten_get s _ hsz (k / s) (k % s) hm (by simpa using hk1)
  have h4 := h (k / s) hk1 (k % s) hm
  rw [← e] at h3 h4
  rw [h3, h4]
  simp

section
variable {H : Type} {enc : TypeId × Value → H} {w : World} {base : Nat} {held : Bool}
theorem int_of {n : Nat} {v : Value} {y : DataW H × List MemPlace} (h : DataW.trod enc Tryz.prog w base (fun _ => true) held n 3 [v] = some y) : ∃ x, v = .int .i64 x ∧ (Lit.int .i64 x).wf = true := by
  obtain ⟨x, hv, _, hw⟩ := DataW.trod_int Tryz.underlying3 h
  simp at hv
  exact ⟨x, hv, hw⟩
theorem int_of' {n : Nat} {v : Value} {o : Option (DataW H × List MemPlace)} (h : DataW.trod enc Tryz.prog w base (fun _ => true) held n 3 [v] = o) (ho : o.isSome = true) : ∃ x, v = .int .i64 x ∧ (Lit.int .i64 x).wf = true := by
  obtain ⟨y, rfl⟩ := Option.isSome_iff_exists.1 ho
  exact int_of h
theorem list5 {α : Type} {l : List α} (h : l.length = 5) : ∃ a b c d e, l = [a, b, c, d, e] := by
  match l, h with
  | [a, b, c, d, e], _ => exact ⟨a, b, c, d, e, rfl⟩
theorem cells_int : Tryz.prog.cellsOf 3 = 1 := by kernel_rfl
theorem ints_of {n : Nat} {v : Value} {y : DataW H × List MemPlace} (h : DataW.trod enc Tryz.prog w base (fun _ => true) held n 26 [v] = some y) :
    ∃ (A : Option Addr) (c : Nat) (xs : List Int), v = .slice A xs.length c ∧ Ints w A xs ∧ xs.length ≤ 9223372036854775807 ∧ ∀ x ∈ xs, -9223372036854775808 ≤ x ∧ x ≤ 9223372036854775807 := by
  rcases open_ints Tryz.underlying26 Tryz.underlying3 (by kernel_rfl) h with ⟨hcs, _⟩ | ⟨x, l, c, zs, hcs, _, hl, hm, hz, _, hcell, hwz⟩
  · simp at hcs
    subst hcs
    exact ⟨none, 0, [], rfl, Ints.nil _ _, by simp, by simp⟩
  · simp at hcs hz
    subst hcs
    have hlen : (zs.take l).length = l := by rw [List.length_take]; omega
    refine ⟨some x, c, zs.take l, by rw [hlen], fun k hk => ⟨x, rfl, ?_⟩, by rw [hlen]; unfold maxLen at hm; omega, fun z hz' => i64_bounds (hwz z (List.mem_of_mem_take hz'))⟩
    have hk' : k < l := by rw [List.length_map, hlen] at hk; exact hk
    rw [hcell k (by omega)]
    simp [hk', List.getD]
    rw [List.getElem?_eq_getElem (by omega)]
    simp
/-- Elements of a slice, one by one. -/
theorem elems_of {α : Type} {t e : TypeId} {fuel : Nat} {v : Value} {x : DataW H × List MemPlace} (cells : α → List Value) (s : Nat) (hs0 : 0 < s) (hs : ∀ x, (cells x).length = s) (ht : Tryz.prog.underlying t = some (.slice e)) (hC : Tryz.prog.cellsOf e = s)
    (hel : ∀ (n : Nat) (cs : List Value) (y : DataW H × List MemPlace), DataW.trod enc Tryz.prog w base (fun _ => true) held n e cs = some y → ∃ q : α, cs = cells q)
    (h : DataW.trod enc Tryz.prog w base (fun _ => true) held fuel t [v] = some x) :
    ∃ (A : Option Addr) (c : Nat) (l : List α), v = .slice A l.length c ∧ Row w A (l.map cells).flatten := by
  rcases open_slice ht h with ⟨hcs, _⟩ | ⟨a, len, cap, m, n, D, Pl, hcs, hb, hl, hm, hmm, hx, hi⟩
  · simp at hcs
    subst hcs
    exact ⟨none, 0, [], rfl, Row.nil _ _⟩
  · simp at hcs
    subst hcs
    have each : ∀ i : Nat, i < len → ∃ q : α, ∀ j, j < s → w.cell? (a.add (i * s + j)) = (cells q)[j]? := fun i hil => by
      obtain ⟨cs', hc, ht'⟩ := hi i (by rw [hmm]; simp; omega)
      rw [hC] at hc
      obtain ⟨q, rfl⟩ := hel n cs' _ ht'
      obtain ⟨_, hcl, hat⟩ := World.cells?_some hc
      exact ⟨q, fun j hj => by rw [← Go.Deep.add_add, hat j hj]⟩
    obtain ⟨l, hlen, hall⟩ := pick_list len each
    exact ⟨some a, cap, l, by rw [hlen], row_of_cells cells s hs0 hs hall⟩
set_option maxRecDepth 100000 in
theorem arg_int {v : Value} {d : DataW H} {p : List MemPlace} {r : Reach} {b0 : Nat} (hv : Value.okWide Tryz.prog w r b0 3 v) (h : DataW.Trod enc Tryz.prog w base (fun _ => true) held 3 v d p) : ∃ t, v = .int .i64 t ∧ (-9223372036854775808 ≤ t ∧ t ≤ 9223372036854775807) := by
  obtain ⟨t, e, _, _, hw⟩ := open_int Tryz.underlying3 hv h
  exact ⟨t, e, i64_bounds hw⟩
set_option maxRecDepth 100000 in
theorem arg_ints {v : Value} {d : DataW H} {p : List MemPlace} {r : Reach} {b0 : Nat} (hv : Value.okWide Tryz.prog w r b0 26 v) (h : DataW.Trod enc Tryz.prog w base (fun _ => true) held 26 v d p) :
    ∃ (A : Option Addr) (c : Nat) (xs : List Int), v = .slice A xs.length c ∧ Ints w A xs ∧ (∀ x ∈ xs, -9223372036854775808 ≤ x ∧ x ≤ 9223372036854775807) := by
  obtain ⟨A0, len0, cap0, rfl⟩ := okWide_slice Tryz.underlying26 hv
  obtain ⟨fuel, hf⟩ := h
  obtain ⟨A, c, xs, e, hi, _, hb⟩ := ints_of hf
  exact ⟨A, c, xs, e, hi, hb⟩
theorem open_fields {P : Program} {r : Reach} {b0 : Nat} {spare : Nat → Bool} {t : TypeId} {fs : Array Field} {v : Value} {d : DataW H} {p : List MemPlace} (hs : P.underlying t = some (.struct fs)) (hone : oneCellFields P fs = true) (hC : P.cellsOf t = fs.size)
    (hv : Value.okWide P w r b0 t v) (h : DataW.Trod enc P w base spare held t v d p) :
    ∃ (cs : Array Value) (n : Nat), v = .agg cs ∧ cs.size = fs.size ∧ ∀ (j : Nat) (f : Field), fs[j]? = some f → ∃ (u : Value) (y : DataW H × List MemPlace), cs[j]? = some u ∧ DataW.trod enc P w base spare held n f.type [u] = some y := by
  obtain ⟨cs, rfl, hsz⟩ := okWide_struct hs hv
  obtain ⟨fuel, hf⟩ := h
  obtain ⟨ys, n, _, _, hlen, hyl, hfl⟩ := DataW.trod_struct hs hf
  have hsz' : cs.size = fs.size := hsz.trans hC
  refine ⟨cs, n, rfl, hsz', fun j f hj => ?_⟩
  obtain ⟨ho, hk⟩ := hone_of hone j f hj
  have hjl : j < fs.size := (Array.getElem?_eq_some_iff.1 hj).1
  have h1 := hfl j f hj
  rw [ho, hk] at h1
  have hcl : (Value.cells (.agg cs)).toList = cs.toList := rfl
  rw [hcl] at h1
  have hone' : (cs.toList.drop j).take 1 = [cs[j]'(by omega)] := by
    rw [List.drop_eq_getElem_cons (by simp; omega)]
    simp
  rw [hone'] at h1
  have hys : ys[j]? = some (ys[j]'(by omega)) := List.getElem?_eq_getElem (by omega)
  exact ⟨_, _, Array.getElem?_eq_getElem (by omega), h1.trans hys⟩
end
end Go.Proofs.YtebkhdhhajjhfaaGreat

/- Lines between: by the reference. -/
namespace Go.Proofs.YtebkhdhhajjhfaaGreat
open Go.RowKit
end Go.Proofs.YtebkhdhhajjhfaaGreat

/- Which proofs are right: the closures of the code. -/
namespace Go.Proofs.YtebkhdhhajjhfaaGreat
open Go.RowKit
end Go.Proofs.YtebkhdhhajjhfaaGreat
