/- The factors of a mesh, by the reference, for each kind. -/
import Derived.Test.YtebkhdhhajjhfaaGreatU04
import Derived.Maps.AppendAt
import Derived.Deep.AppendLies
import Derived.Test.YtebkhdhhajjhfaaGreatU03
import Derived.Test.YtebkhdhhajjhfaaGreatRows
import Derived.ProofKit
import Derived.OpenShut
import Derived.ChangeOld
import Derived.Below
import Derived.Deep.Slices
import Derived.Deep.Fields
import Derived.ChangeSame
import Derived.Lib.SmallJoins
namespace Go.Proofs.YtebkhdhhajjhfaaGreat.Gr
open Go.RowKit

end Go.Proofs.YtebkhdhhajjhfaaGreat.Gr

/- The factors of a train's mesh, or the error: by both sides. -/
namespace Go.Proofs.YtebkhdhhajjhfaaGreat.Gr
open Go.RowKit

end Go.Proofs.YtebkhdhhajjhfaaGreat.Gr

/- The factors of a train's mesh, or the error: by the reference. -/
namespace Go.Proofs.YtebkhdhhajjhfaaGreat.Gr
open Go.RowKit

end Go.Proofs.YtebkhdhhajjhfaaGreat.Gr

/- A train under construction: appending to a field of a struct in the call's own memory. No program in sight but the table of types. -/
namespace Go.Proofs.YtebkhdhhajjhfaaGreat.Gr
open Go.RowKit

theorem own_append_at {ops : Array Oper} {rest : List Oper} {o : Oper} {a : Act} {Q : Exit → Act → World → Prop} {w1 w : World} {e : TypeId} {z : Value} {size bytes : Nat}
    (hE : ElemInfo e z size bytes) (hg : o.guard = none) (s x : Operand) (t : TypeId) (hop : o.op = .call { callee := .builtin .append, args := #[s, x], argTypes := #[t, t] }) (ht : Tryz.prog.underlying t = some (.slice e))
    (v : Value) (n : Nat) (xs : List Value) (hs : a.eval s = v) (hown : Own w1 w e size v n xs) (ad : Addr) (m c : Nat) (news : List Value) (hx : a.eval x = .slice (some ad) m c) (hl : news.length = m * size) (hr : Row w (some ad) news) (h1 : ∀ u ∈ news, u.oneCell' = true)
    (hn : (n + m) * bytes ≤ 140737488355328) (hn2 : n + m ≤ maxLen)
    (hK : ∀ v' w', Own w1 w' e size v' (n + m) (xs ++ news) → w.grownBy w' v.ownBlock → (v'.ownBlock = v.ownBlock ∨ v'.ownBlock = some w.heap.size) → wpList Tryz.prog ops Q rest (a.put o.dst v') w') :
    wpList Tryz.prog ops Q (o :: rest) a w := by
  obtain ⟨i, hi, hz0, hz1, hz2⟩ := hE.info
  refine wpList_append_own_at w hg s x t hop w1.heap.size e i z size bytes ht hi hz0 hz1 hz2 hE.zs hE.pos v n xs hs hown.2 ad m c news hx hl (fun j u hu => ?_) h1 hn2 hn hown.1.le fun v' w' h2 h3 _ h5 => ?_
  · have hj := (List.getElem?_eq_some_iff.1 hu).1
    obtain ⟨ad', he, hc⟩ := hr j hj
    rw [Option.some.inj he]
    exact hc.trans hu
  · exact hK v' w' ⟨hown.1.grown h3 (fun k hk => (hown.2.lt k hk).1), h2⟩ h3 h5

theorem row_alloc (w : World) (cs : Array Value) (t : TypeId) : Row (w.alloc (.cells cs t)) (some ⟨w.heap.size, 0, none⟩) cs.toList := fun k hk => by
  refine ⟨_, rfl, ?_⟩
  have hadd : (⟨w.heap.size, 0, none⟩ : Addr).add k = ⟨w.heap.size, k, none⟩ := by unfold Addr.add; split <;> simp_all
  rw [hadd, World.cell?_alloc_at _ _ _ _ rfl]
  simp

end Go.Proofs.YtebkhdhhajjhfaaGreat.Gr

/- Pistons, fifth text: the reference's Places; the greatest common divisor; slices of pistons. -/
namespace Go.Proofs.YtebkhdhhajjhfaaGreat.Gr
open Go.RowKit

/-! ### The greatest common divisor -/

end Go.Proofs.YtebkhdhhajjhfaaGreat.Gr

/- Pistons, sixth text: the period, by the reference. -/
namespace Go.Proofs.YtebkhdhhajjhfaaGreat.Gr
open Go.RowKit

structure Pis where
  a : Option Addr
  c : Nat
  lift : List Int
  op : Int
  st : Int
def Pis.cells (p : Pis) : List Value := [.slice p.a p.lift.length p.c, vint p.op, vint p.st]
def Pis.val (p : Pis) : Value := .agg #[.slice p.a p.lift.length p.c, vint p.op, vint p.st]
def Pis.ok (p : Pis) : Bool := vpB p.lift p.op p.st
/-! ### The least period -/

end Go.Proofs.YtebkhdhhajjhfaaGreat.Gr

/- The arguments of the laws, opened: what the reader calls readable, as lists of numbers and of pistons. -/
namespace Go.Proofs.YtebkhdhhajjhfaaGreat.Gr
open Go.ChangeShapes Go.WideShapes Go.ChangeAt Go.RowKit Go.Deep

theorem own_knob : ownKnob Tryz.prog.godebug = none := by kernel_rfl
theorem laid_out : laidOutB Tryz.prog = true := by kernel_rfl

section
variable {H : Type} {enc : TypeId × Value → H} {w : World} {base : Nat} {held : Bool}

theorem i64_bounds {n : Int} (h : (Lit.int .i64 n).wf = true) : -9223372036854775808 ≤ n ∧ n ≤ 9223372036854775807 := by
  have := h
  simp [Lit.wf, IntKind.min, IntKind.max, IntKind.signed, IntKind.bits] at this
  omega

theorem ints_of {n : Nat} {v : Value} {y : DataW H × List MemPlace} (h : DataW.trod enc Tryz.prog w base (fun _ => true) held n 26 [v] = some y) :
    ∃ (A : Option Addr) (c : Nat) (xs : List Int), v = .slice A xs.length c ∧ Ints w A xs ∧ xs.length ≤ 9223372036854775807 ∧ ∀ x ∈ xs, -9223372036854775808 ≤ x ∧ x ≤ 9223372036854775807 := by
  rcases open_ints Tryz.underlying26 Tryz.underlying3 (by kernel_rfl) h with ⟨hcs, _⟩ | ⟨x, l, c, zs, hcs, _, hl, hm, hz, _, hcell, hwz⟩
  · simp at hcs
    subst hcs
    exact ⟨none, 0, [], rfl, Ints.nil _ _, by simp, by simp⟩
  · simp at hcs hz
    subst hcs
    have hlen : (zs.take l).length = l := by rw [List.length_take]; omega
    refine ⟨some x, c, zs.take l, by rw [hlen], fun k hk => ⟨x, rfl, ?_⟩, by rw [hlen]; unfold maxLen at hm; omega, fun z hz' => i64_bounds (hwz z (List.mem_of_mem_take hz'))⟩
    have hk' : k < l := by rw [List.length_map, hlen] at hk; exact hk
    rw [hcell k (by omega)]
    simp [hk', List.getD]
    rw [List.getElem?_eq_getElem (by omega)]
    simp

theorem int_of {n : Nat} {v : Value} {y : DataW H × List MemPlace} (h : DataW.trod enc Tryz.prog w base (fun _ => true) held n 3 [v] = some y) : ∃ x, v = .int .i64 x ∧ (Lit.int .i64 x).wf = true := by
  obtain ⟨x, hv, _, hw⟩ := DataW.trod_int Tryz.underlying3 h
  simp at hv
  exact ⟨x, hv, hw⟩

end

section
variable {H : Type} {enc : TypeId × Value → H} {w : World} {base : Nat} {held : Bool}
/-- What is read of a piston. -/
structure PisOk (w : World) (p : Pis) : Prop where
  lift : Ints w p.a p.lift
  len : p.lift.length ≤ 9223372036854775807

set_option maxRecDepth 100000 in
theorem arg_piston {r : Reach} {b0 : Nat} {v : Value} {d : DataW H} {p : List MemPlace} (hv : Value.okWide Tryz.prog w r b0 30 v) (h : DataW.Trod enc Tryz.prog w base (fun _ => true) held 30 v d p) :
    ∃ q : Pis, v = q.val ∧ PisOk w q := by
  obtain ⟨v0, v1, v2, y0, y1, y2, n, rfl, _, _, h0, h1, h2⟩ := Joins.open_agg3 Tryz.underlying30 (by kernel_rfl) (by kernel_rfl) hv h
  obtain ⟨A, c, xs, rfl, hx, hl, _⟩ := ints_of h0
  obtain ⟨a, rfl, _⟩ := int_of h1
  obtain ⟨b, rfl, _⟩ := int_of h2
  exact ⟨⟨A, c, xs, a, b⟩, rfl, hx, hl⟩

end
end Go.Proofs.YtebkhdhhajjhfaaGreat.Gr
