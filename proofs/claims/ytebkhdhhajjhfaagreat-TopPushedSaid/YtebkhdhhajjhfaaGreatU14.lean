/- A linkage is valid: by the code, whatever its sizes. -/
import Derived.Test.YtebkhdhhajjhfaaGreatU13
import Derived.Test.YtebkhdhhajjhfaaGreatU11
import Derived.Maps.AppendAt
import Derived.Deep.Upon
import Derived.Laws.StructEq
namespace Go.Proofs.YtebkhdhhajjhfaaGreat
open Go.RowKit
end Go.Proofs.YtebkhdhhajjhfaaGreat

/- A panel is valid: by the reference. -/
namespace Go.Proofs.YtebkhdhhajjhfaaGreat
open Go.RowKit
end Go.Proofs.YtebkhdhhajjhfaaGreat

/- A linkage is valid: by the reference. -/
namespace Go.Proofs.YtebkhdhhajjhfaaGreat
open Go.RowKit
end Go.Proofs.YtebkhdhhajjhfaaGreat

/- Poses and corners: by both. -/
namespace Go.Proofs.YtebkhdhhajjhfaaGreat
open Go.RowKit
end Go.Proofs.YtebkhdhhajjhfaaGreat

/- Corners: by both. -/
namespace Go.Proofs.YtebkhdhhajjhfaaGreat
open Go.RowKit
end Go.Proofs.YtebkhdhhajjhfaaGreat

/- Gaps: by both. -/
namespace Go.Proofs.YtebkhdhhajjhfaaGreat
open Go.RowKit
end Go.Proofs.YtebkhdhhajjhfaaGreat

/- Copies by append; lists that are the same. -/
namespace Go.Proofs.YtebkhdhhajjhfaaGreat
open Go.RowKit
theorem exec_append {a : Act} {o : Oper} {w w' : World} {v v' x : Value} (s q : Operand) (t : TypeId) (ho : o.op = .call { callee := .builtin .append, args := #[s, q], argTypes := #[t, t] }) (hs : a.eval s = v) (hx : a.eval q = x) (hr : (Builtin.append_ #[t, t] o.type #[v, x]).run Tryz.prog w = .ok v' w') :
    (execOp a.eval o).run Tryz.prog w = .ok (.value v') w' := by
  unfold execOp
  simp only [ho, resolve, invoke, builtin, Sem.run_bind, Sem.run_pure, Result.andThen_ok, List.map_toArray, List.map_cons, List.map_nil, hs, hx, hr]
section
variable {w : World} {base b c n : Nat} {B : Option Addr} {xs : List Value} {e : TypeId} {z : Value} {size bytes : Nat}
theorem Own.ne_block {w1 : World} {v : Value} {g : Nat} {cs : Array Value} {t : TypeId} {fr : Nat × Nat} (h : Own w1 w e size v n xs) (hg : w.heap[g]? = some (.cells cs t fr)) (ht : t ≠ e) : v.ownBlock ≠ some g := by
  rcases h.2.2 with ⟨rfl, _⟩ | ⟨g', cap, cur, rfl, _, hh, _⟩
  · simp [Value.ownBlock]
  · intro e2
    have e3 : g' = g := by simpa [Value.ownBlock] using e2
    subst e3
    rw [hh] at hg
    simp only [Option.some.injEq, Obj.cells.injEq] at hg
    exact ht hg.2.1.symm
end
end Go.Proofs.YtebkhdhhajjhfaaGreat

/- Linkages that are not great; that are the same; in new memory. -/
namespace Go.Proofs.YtebkhdhhajjhfaaGreat
open Go.RowKit
end Go.Proofs.YtebkhdhhajjhfaaGreat
