/- A ratio's answer, by the code, when train or shafts are refused. -/
import Derived.Test.YtebkhdhhajjhfaaGreatT15
import Derived.Test.YtebkhdhhajjhfaaGreatT16
import Derived.Test.YtebkhdhhajjhfaaGreatT13
import Derived.Test.YtebkhdhhajjhfaaGreatRows
import Derived.ProofKit
import Derived.OpenShut
import Derived.ChangeOld
import Derived.Below
import Derived.Deep.Slices
import Derived.Deep.Fields
import Derived.ChangeSame
import Derived.Lib.SmallJoins
import Derived.Test.YtebkhdhhajjhfaaGreatT03
namespace Go.Proofs.YtebkhdhhajjhfaaGreat.Gr
open Go.RowKit

set_option maxRecDepth 100000 in
set_option maxHeartbeats 4000000 in
theorem ratio_bad (A : Option Addr) (c : Nat) (s : Int) (i o : Int) (ms : List Msh) (w : World) (hA : MRow w A ms) (hl : ms.length ≤ 1000000) (hz : askE s ms [i, o] ≠ 0) :
    Calls Tryz.prog 17 #[.agg #[.int .i64 s, .slice A ms.length c], .int .i64 i, .int .i64 o] w fun e w' => e = .returned (.tuple #[.int .i64 0, .int .i64 0, .agg #[.slice none 0 0, .slice none 0 0, .slice none 0 0], .int .i64 (askE s ms [i, o])]) ∧ Ext w w' := by
  have c0 : ∀ (g : Nat) (w' : World) (_ : Ext w w') (_ : w'.cell? ⟨g, 0, none⟩ = some (vint i)) (_ : w'.cell? ⟨g, 1, none⟩ = some (vint o)), Calls Tryz.prog 46 #[.agg #[.int .i64 s, .slice A ms.length c], .slice (some ⟨g, 0, none⟩) 2 2] w' fun e w'' => e = .returned (.int .i64 (askE s ms [i, o])) ∧ Ext w' w'' :=
    fun g w' he hc hc' => asked_any A c s ms (some ⟨g, 0, none⟩) 2 [i, o] w' (hA.ext he) hl (ints_two hc hc') (by simp)
  have cA := c0 (w.heap.size + 1 + 1) (((w.alloc (.cells #[.int .i64 s, .slice A ms.length c] 46)).alloc (.cells #[.slice none 0 0, .slice none 0 0, .slice none 0 0] 53)).alloc (.cells #[.int .i64 i, .int .i64 o] 3)) (((((Ext.refl w).alloc _).alloc _).alloc _)) (cells_three rfl _ (Ext.refl _)) (cells_three rfl _ (Ext.refl _))
  have C0 := Lib.hid cA
  clear c0 cA
  have hx : Ext w ((w.alloc (.cells #[.int .i64 s, .slice A ms.length c] 46)).alloc (.cells #[.slice none 0 0, .slice none 0 0, .slice none 0 0] 53)) := ((Ext.refl w).alloc _).alloc _
  have b8 : ∀ w', Ext ((w.alloc (.cells #[.int .i64 s, .slice A ms.length c] 46)).alloc (.cells #[.slice none 0 0, .slice none 0 0, .slice none 0 0] 53)) w' → GOk w' (w.heap.size + 1) (.slice none 0 0) (.slice none 0 0) (.slice none 0 0) := fun w' he => (GOk.new (by simp)).ext he
  generalize ms.length = m at *
  generalize askE s ms [i, o] = z at *
  go_enter Tryz.func17, Tryz.ntmps17
  go_wp2_with (first
    | (go_at_call 46; (with_reducible refine C0.out.mono ?_); rintro e w1 ⟨rfl, hx1⟩; have hxb1 := Ext.trans ((Ext.refl _).alloc _) hx1; have hxw1 := hx.trans hxb1; have hb1 := b8 _ hxb1; obtain ⟨y0, y1, y2, yf⟩ := id hb1))
  (try simp only [Exit.inBlock, Exit.then])
  have hb4 := hb1.put3 (x0 := .slice none 0 0) (x1 := .slice none 0 0) (x2 := .slice none 0 0)
  refine bodyPost_ret (results_ratio rfl _ _ rfl hb4) rfl ?_
  exact ⟨rfl, OrdPair.ext put3_grown hxw1 (by omega)⟩
end Go.Proofs.YtebkhdhhajjhfaaGreat.Gr

/- A ratio's answer, by the code: all inputs. -/
namespace Go.Proofs.YtebkhdhhajjhfaaGreat.Gr
open Go.RowKit

/-- The verdict's number, or what is refused. -/
noncomputable def verdE (s : Int) (ms : List Msh) (i o : Int) : Int := if askE s ms [i, o] = 0 then verdS ms.length s.toNat (gearL ms s.toNat) i.toNat o.toNat else askE s ms [i, o]
/-- What the answer of 'Ratio' proves. -/
def ratOk (s : Int) (ms : List Msh) (i o num den x : Int) (F M T : List Int) : Prop :=
  askE s ms [i, o] ≠ 0 ∧ num = 0 ∧ den = 0 ∧ F = [] ∧ M = [] ∧ T = [] ∨
  askE s ms [i, o] = 0 ∧ (x = 41 ∧ num = 0 ∧ den = 0 ∧ jamPr (gearL ms s.toNat) ms.length s.toNat i.toNat F M T ∨ x = 42 ∧ num = 0 ∧ den = 0 ∧ loosePr (gearL ms s.toNat) ms.length s.toNat i.toNat o.toNat F M T ∨ x = 0 ∧ ratPr (gearL ms s.toNat) ms.length s.toNat i.toNat o.toNat num den F M T)
/-- The answer of 'Ratio'. -/
def RatAll (b : World) (ms : List Msh) (s i o : Int) (e : Ending) (w' : World) : Prop :=
  ∃ (num den : Int) (A1 A2 A3 : Option Addr) (c1 c2 c3 : Nat) (F M T : List Int),
    e = .returned (.tuple #[.int .i64 num, .int .i64 den, .agg #[.slice A1 F.length c1, .slice A2 M.length c2, .slice A3 T.length c3], .int .i64 (verdE s ms i o)]) ∧
    Ints w' A1 F ∧ Ints w' A2 M ∧ Ints w' A3 T ∧ Ext b w' ∧ ratOk s ms i o num den (verdE s ms i o) F M T

theorem ratio_any (A : Option Addr) (c : Nat) (s i o : Int) (ms : List Msh) (w : World) (hA : MRow w A ms) (hl : ms.length ≤ 1000000) :
    Calls Tryz.prog 17 #[.agg #[.int .i64 s, .slice A ms.length c], .int .i64 i, .int .i64 o] w (RatAll w ms s i o) := by
  by_cases hz : askE s ms [i, o] = 0
  · obtain ⟨S, I, O, rfl, rfl, rfl, hi, ho, ht⟩ := ask_two hz
    refine (ratio_good A c S I O ms w hA ht hl hi ho).mono fun e w' h => ?_
    obtain ⟨num, den, x, A1, A2, A3, c1, c2, c3, F, M, T, he, h1, h2, h3, hx, hv, hp⟩ := h
    have hv' : verdE S ms I O = x := by
      unfold verdE
      rw [if_pos hz, hv]
      simp
    refine ⟨num, den, A1, A2, A3, c1, c2, c3, F, M, T, by rw [he, hv'], h1, h2, h3, hx, .inr ⟨hz, ?_⟩⟩
    rw [hv']
    simpa using hp
  · refine (ratio_bad A c s i o ms w hA hl hz).mono fun e w' h => ?_
    obtain ⟨he, hx⟩ := h
    have hv' : verdE s ms i o = askE s ms [i, o] := if_neg hz
    exact ⟨0, 0, none, none, none, 0, 0, 0, [], [], [], by rw [he, hv']; rfl, Ints.nil _ _, Ints.nil _ _, Ints.nil _ _, hx, .inl ⟨hz, rfl, rfl, rfl, rfl, rfl⟩⟩
end Go.Proofs.YtebkhdhhajjhfaaGreat.Gr

/- What an answer of 'Ratio' is, from another proof. Plain Lean. -/
namespace Go.Proofs.YtebkhdhhajjhfaaGreat.Gr

section
variable {s : Int} {ms : List Msh} {i o num den x : Int} {F M T F' M' T' : List Int}
theorem ratOk.of_rat (h : ratOk s ms i o num den x F M T) (hz : askE s ms [i, o] = 0) {n d : Int} (hc : ratPr (gearL ms s.toNat) ms.length s.toNat i.toNat o.toNat n d F' M' T') :
    x = 0 ∧ num = n ∧ den = d ∧ ratPr (gearL ms s.toNat) ms.length s.toNat i.toNat o.toNat num den F M T := by
  obtain ⟨S, I, O, rfl, rfl, rfl, hi, ho, _⟩ := ask_two hz
  simp only [Int.toNat_natCast] at hc h ⊢
  rcases h with ⟨h, _⟩ | ⟨_, ⟨_, _, _, h⟩ | ⟨_, _, _, h⟩ | ⟨h0, h⟩⟩
  · exact absurd hz h
  · exact (jam_no_ratio h hc hi).elim
  · exact (ratio_no_loose hc h hi ho).elim
  · obtain ⟨h1, h2⟩ := h.same hc hi ho
    exact ⟨h0, h1, h2, h⟩
theorem ratPr.fit' {S I O : Nat} (ht : trainP S ms) (hi : I < S) (ho : O < S) (h : ratPr (gearL ms S) ms.length S I O num den F M T) : (-9223372036854775807 ≤ num ∧ num ≤ 9223372036854775807) ∧ den ≤ 9223372036854775807 ∧ 1 ≤ den := by
  obtain ⟨h1, _, _, _, hd, _, h⟩ := h
  have hb := fun k (hk : k < S) => sumT_bound h1.bound (gearL_bound ht) hk (Nat.le_refl ms.length)
  have hm := ht.2.2.1
  by_cases e : I = O
  · rw [if_pos e] at h
    omega
  · rw [if_neg e] at h
    obtain ⟨_, h2, h3, h4, h5⟩ := h
    have b1 := hb I hi
    have b2 := hb O ho
    generalize sumT F (gearL ms S) ms.length I = u at *
    generalize sumT F (gearL ms S) ms.length O = v at *
    have b1 : u.natAbs ≤ 9223372036854775807 := by omega
    have b2 : v.natAbs ≤ 9223372036854775807 := by omega
    have hv := Int.tdiv_mul_add_tmod v den
    have hle : den ≤ v := by
      rw [h2, Int.add_zero] at hv
      have : den * 1 ≤ den * v.tdiv den := Int.mul_le_mul_of_nonneg_left h3 (by omega)
      rw [Int.mul_comm den (v.tdiv den)] at this
      omega
    have hu := Int.natAbs_tdiv_le_natAbs u (v.tdiv den)
    omega
theorem ratOk.lens (h : ratOk s ms i o num den x F M T) (hl : ms.length ≤ 1000) : F.length ≤ 1000 ∧ M.length ≤ 1000 ∧ T.length ≤ 1000 := by
  rcases h with ⟨_, _, _, rfl, rfl, rfl⟩ | ⟨hz, h⟩
  · simp
  · obtain ⟨S, I, O, rfl, rfl, rfl, hi, ho, ht⟩ := ask_two hz
    simp only [Int.toNat_natCast] at h
    have h8 : S ≤ 8 := by have := ht.2.1; omega
    rcases h with ⟨_, _, _, h1, h2, h3, _⟩ | ⟨_, _, _, h1, h2, h3, _⟩ | ⟨_, h1, h2, h3, _⟩
    · have := h1.1; omega
    · have := h2.1.1; have := h3.1.1; omega
    · have := h1.1; have := h3.1.1; omega
end
end Go.Proofs.YtebkhdhhajjhfaaGreat.Gr

/- Pistons, sixth text: the period, by the reference. -/
namespace Go.Proofs.YtebkhdhhajjhfaaGreat.Gr
open Go.RowKit

/-! ### The least period -/

end Go.Proofs.YtebkhdhhajjhfaaGreat.Gr

/- The arguments of the laws, opened: what the reader calls readable, as lists of numbers and of pistons. -/
namespace Go.Proofs.YtebkhdhhajjhfaaGreat.Gr
open Go.ChangeShapes Go.WideShapes Go.ChangeAt Go.RowKit Go.Deep

theorem own_knob : ownKnob Tryz.prog.godebug = none := by kernel_rfl
theorem laid_out : laidOutB Tryz.prog = true := by kernel_rfl

section
variable {H : Type} {enc : TypeId × Value → H} {w : World} {base : Nat} {held : Bool}

theorem i64_bounds {n : Int} (h : (Lit.int .i64 n).wf = true) : -9223372036854775808 ≤ n ∧ n ≤ 9223372036854775807 := by
  have := h
  simp [Lit.wf, IntKind.min, IntKind.max, IntKind.signed, IntKind.bits] at this
  omega

theorem int_of {n : Nat} {v : Value} {y : DataW H × List MemPlace} (h : DataW.trod enc Tryz.prog w base (fun _ => true) held n 3 [v] = some y) : ∃ x, v = .int .i64 x ∧ (Lit.int .i64 x).wf = true := by
  obtain ⟨x, hv, _, hw⟩ := DataW.trod_int Tryz.underlying3 h
  simp at hv
  exact ⟨x, hv, hw⟩

/-- A slice of structs: for every element and field the cell, and the field's own reading. -/
theorem open_slice_fields {P : Program} {spare : Nat → Bool} {t e : TypeId} {fs : Array Field} {fuel : Nat} {cs : List Value} {x : DataW H × List MemPlace} (ht : P.underlying t = some (.slice e)) (he : P.underlying e = some (.struct fs))
    (hone : oneCellFields P fs = true) (hC : P.cellsOf e = fs.size) (h : DataW.trod enc P w base spare held fuel t cs = some x) :
    (cs = [.slice none 0 0] ∧ x = (.nil, [])) ∨
    ∃ (a : Addr) (len cap : Nat), cs = [.slice (some a) len cap] ∧ len ≤ cap ∧ cap ≤ maxLen ∧
      ∀ i, i < len → ∃ (n : Nat), ∀ (j : Nat) (f : Field), fs[j]? = some f → ∃ (v : Value) (y : DataW H × List MemPlace), w.cell? (a.add (i * fs.size + j)) = some v ∧ DataW.trod enc P w base spare held n f.type [v] = some y := by
  rcases open_slice ht h with h0 | ⟨a, len, cap, m, n, D, Pl, hcs, hb, hl, hm, hmm, hx, hi⟩
  · exact .inl h0
  · refine .inr ⟨a, len, cap, hcs, hl, hm, fun i him => ?_⟩
    obtain ⟨cs', hc, ht'⟩ := hi i (by rw [hmm]; split <;> omega)
    rw [hC] at hc
    obtain ⟨ys, n', hn', hy, hlen, hyl, hf⟩ := DataW.trod_struct he ht'
    obtain ⟨_, hcl, hat⟩ := World.cells?_some hc
    refine ⟨n', fun j f hj => ?_⟩
    obtain ⟨ho, hk⟩ := hone_of hone j f hj
    have hjl : j < fs.size := (Array.getElem?_eq_some_iff.1 hj).1
    have hcell := hat j hjl
    have hv : cs'[j]? = some (cs'[j]'(by omega)) := List.getElem?_eq_getElem (by omega)
    have h1 := hf j f hj
    rw [ho, hk] at h1
    have hone' : (cs'.drop j).take 1 = [cs'[j]'(by omega)] := by
      rw [List.drop_eq_getElem_cons (by omega)]
      rfl
    rw [hone'] at h1
    have hys : ys[j]? = some (ys[j]'(by omega)) := List.getElem?_eq_getElem (by omega)
    refine ⟨_, _, ?_, h1.trans hys⟩
    rw [← Go.Deep.add_add, hcell, hv]
end

end Go.Proofs.YtebkhdhhajjhfaaGreat.Gr

/- Arguments of the laws, opened: trains, lists of numbers. -/
namespace Go.Proofs.YtebkhdhhajjhfaaGreat.Gr
open Go.ChangeShapes Go.WideShapes Go.ChangeAt Go.RowKit Go.Deep

section
variable {H : Type} {enc : TypeId × Value → H} {w : World} {base : Nat} {held : Bool}

theorem u8_of {n : Nat} {v : Value} {y : DataW H × List MemPlace} (h : DataW.trod enc Tryz.prog w base (fun _ => true) held n 5 [v] = some y) : ∃ x, v = .int .u8 x := by
  obtain ⟨x, hv, _, _⟩ := DataW.trod_int Tryz.underlying5 h
  simp at hv
  exact ⟨x, hv⟩

theorem meshes_of {n : Nat} {v : Value} {y : DataW H × List MemPlace} (h : DataW.trod enc Tryz.prog w base (fun _ => true) held n 44 [v] = some y) :
    ∃ (A : Option Addr) (c : Nat) (ms : List Msh), v = .slice A ms.length c ∧ MRow w A ms := by
  rcases open_slice_fields Tryz.underlying44 Tryz.underlying104 (by kernel_rfl) (by kernel_rfl) h with ⟨hcs, _⟩ | ⟨a, len, cap, hcs, hl, hm, hi⟩
  · simp at hcs
    subst hcs
    exact ⟨none, 0, [], rfl, Row.nil _ _⟩
  · simp at hcs
    subst hcs
    have each : ∀ i : Nat, i < len → ∃ q : Msh, ∀ j, j < 6 → w.cell? (a.add (i * 6 + j)) = q.cells[j]? := fun i hil => by
      obtain ⟨n, hn⟩ := hi i hil
      obtain ⟨v0, y0, c0, h0⟩ := hn 0 _ rfl
      obtain ⟨v1, y1, c1, h1⟩ := hn 1 _ rfl
      obtain ⟨v2, y2, c2, h2⟩ := hn 2 _ rfl
      obtain ⟨v3, y3, c3, h3⟩ := hn 3 _ rfl
      obtain ⟨v4, y4, c4, h4⟩ := hn 4 _ rfl
      obtain ⟨v5, y5, c5, h5⟩ := hn 5 _ rfl
      obtain ⟨x0, rfl⟩ := u8_of h0
      obtain ⟨x1, rfl, _⟩ := int_of h1
      obtain ⟨x2, rfl, _⟩ := int_of h2
      obtain ⟨x3, rfl, _⟩ := int_of h3
      obtain ⟨x4, rfl, _⟩ := int_of h4
      obtain ⟨x5, rfl, _⟩ := int_of h5
      refine ⟨⟨x0, x1, x2, x3, x4, x5⟩, fun j hj => ?_⟩
      match j, hj with
      | 0, _ => exact c0
      | 1, _ => exact c1
      | 2, _ => exact c2
      | 3, _ => exact c3
      | 4, _ => exact c4
      | 5, _ => exact c5
    have pick : ∀ m, m ≤ len → ∃ ps : List Msh, ps.length = m ∧ ∀ i (hi : i < ps.length), ∀ j, j < 6 → w.cell? (a.add (i * 6 + j)) = (ps[i].cells)[j]? := by
      intro m
      induction m with
      | zero => exact fun _ => ⟨[], rfl, fun i hi => by simp at hi⟩
      | succ m ih =>
        intro hm'
        obtain ⟨ps, hl, hps⟩ := ih (by omega)
        obtain ⟨q, hq⟩ := each m (by omega)
        refine ⟨ps ++ [q], by simp [hl], fun i hi => ?_⟩
        by_cases e : i < ps.length
        · rw [List.getElem_append_left e]; exact hps i e
        · have : i = ps.length := by simp at hi; omega
          subst this
          simp
          rw [hl]
          exact hq
    obtain ⟨ps, hlen, hps⟩ := pick len (Nat.le_refl _)
    refine ⟨some a, cap, ps, by rw [hlen], fun k hk => ⟨a, rfl, ?_⟩⟩
    have hs : ∀ r ∈ ps.map Msh.cells, r.length = 6 := by simp [Msh.cells]
    have hfl := flatten_len 6 _ hs
    have hk1 : k / 6 < ps.length := by rw [hfl, List.length_map] at hk; omega
    have e : k = k / 6 * 6 + k % 6 := by omega
    have h3 := flatten_get 6 _ hs (k / 6) (k % 6) (by omega) (by simpa using hk1)
    rw [e, h3]
    rw [hps (k / 6) hk1 (k % 6) (by omega)]
    simp

set_option maxRecDepth 100000 in
theorem arg_train {r : Reach} {b0 : Nat} {v : Value} {d : DataW H} {p : List MemPlace} (hv : Value.okWide Tryz.prog w r b0 46 v) (h : DataW.Trod enc Tryz.prog w base (fun _ => true) held 46 v d p) :
    ∃ (A : Option Addr) (c : Nat) (s : Int) (ms : List Msh), v = .agg #[.int .i64 s, .slice A ms.length c] ∧ MRow w A ms ∧ (-9223372036854775808 ≤ s ∧ s ≤ 9223372036854775807) := by
  obtain ⟨v0, v1, y0, y1, n, rfl, _, _, h0, h1⟩ := Joins.open_agg2 Tryz.underlying46 (by kernel_rfl) (by kernel_rfl) hv h
  obtain ⟨s, rfl, hs⟩ := int_of h0
  obtain ⟨A, c, ms, rfl, hm⟩ := meshes_of h1
  exact ⟨A, c, s, ms, rfl, hm, i64_bounds hs⟩

end
end Go.Proofs.YtebkhdhhajjhfaaGreat.Gr
