/- append(p[:c:c], p[c+1:]...): a panel with a corner less, in memory of its own or at the front of the old one. -/
import Derived.Test.YteilglljigjefaaJ15
import Derived.Test.YteilglljigjefaaJQp
namespace Go.Proofs.Yteilglljigjefaa
open Go.RowKit
theorem row_pre {w : World} {b : Nat} {cs : Array Value} {t : TypeId} {l : List Value} (h : w.heap[b]? = some (.cells cs t)) (hl : ∀ (k : Nat) u, l[k]? = some u → cs[k]? = some u) : Row w (some ⟨b, 0, none⟩) l := fun k hk => by
  refine ⟨_, rfl, ?_⟩
  rw [add_zero', cell_heap h, List.getElem?_eq_getElem hk]
  exact hl k _ (List.getElem?_eq_getElem hk)
theorem lessP_cells (l : List Sp) (c : Nat) : ((lessP l c).map Sp.cells).flatten = ((l.take c).map Sp.cells).flatten ++ ((l.drop (c + 1)).map Sp.cells).flatten := by simp [lessP]
theorem Sp.flat_len (l : List Sp) : (l.map Sp.cells).flatten.length = l.length * 2 := Sp.cells_len l
theorem flat_split (l : List Sp) (c : Nat) : (l.map Sp.cells).flatten = ((l.take c).map Sp.cells).flatten ++ ((l.drop c).map Sp.cells).flatten := by
  rw [← List.flatten_append, ← List.map_append, List.take_append_drop]
set_option maxRecDepth 100000 in
theorem app_cut {w : World} {g c cp : Nat} {l : List Sp} (hS : SRow w (some ⟨g, 0, none⟩) l) (hc : c < l.length) (hl : l.length ≤ 1000) (a' : Option Addr) (ha' : c + 1 < l.length → a' = some ((⟨g, 0, none⟩ : Addr).add ((c + 1) * 2))) (ty : TypeId) :
    ∃ X x w', (Builtin.append_ #[40, 40] ty #[.slice (some ⟨g, 0, none⟩) c c, .slice a' (l.length - (c + 1)) cp]).run Try.prog w = .ok (.slice X (l.length - 1) x) w' ∧ Ext w w' ∧ SRow w' X (lessP l c) ∧
      (X = some ⟨g, 0, none⟩ ∨ ∃ b, X = some ⟨b, 0, none⟩ ∧ w.heap.size ≤ b) := by
  obtain ⟨i, hi, hz0, hz1, hz2⟩ := spot_elem.info
  have hcell : ∀ (j : Nat) u, (l.map Sp.cells).flatten[j]? = some u → w.cell? ((⟨g, 0, none⟩ : Addr).add j) = some u := fun j u hu => by
    obtain ⟨ad, e, h⟩ := hS j (List.getElem?_eq_some_iff.1 hu).1
    cases e
    exact h.trans hu
  have hold : ∀ (j : Nat) u, ((l.take c).map Sp.cells).flatten[j]? = some u → w.cell? ((⟨g, 0, none⟩ : Addr).add j) = some u := fun j u hu => hcell j u (by
    rw [flat_split l c, List.getElem?_append_left (List.getElem?_eq_some_iff.1 hu).1]
    exact hu)
  by_cases h0 : c + 1 < l.length
  · rw [ha' h0]
    have hnew : ∀ (j : Nat) u, ((l.drop (c + 1)).map Sp.cells).flatten[j]? = some u → w.cell? (((⟨g, 0, none⟩ : Addr).add ((c + 1) * 2)).add j) = some u := fun j u hu => by
      rw [add_zero', show (⟨g, (c + 1) * 2, none⟩ : Addr).add j = ⟨g, (c + 1) * 2 + j, none⟩ from by unfold Addr.add; split <;> simp_all]
      have := hcell ((c + 1) * 2 + j) u (by
        rw [flat_split l (c + 1), List.getElem?_append_right (by rw [Sp.flat_len, List.length_take]; omega), Sp.flat_len, List.length_take, show (c + 1) * 2 + j - min (c + 1) l.length * 2 = j by omega]
        exact hu)
      rw [add_zero'] at this
      exact this
    have hr := run_append_grow (P := Try.prog) w 40 ty 27 i _ Try.underlying40 hi hz0 ⟨g, 0, none⟩ c c ((l.take c).map Sp.cells).flatten (by rw [Sp.flat_len, List.length_take, hz1]; congr 1; omega) hold _ (l.length - (c + 1)) cp ((l.drop (c + 1)).map Sp.cells).flatten (by rw [Sp.flat_len, List.length_drop, hz1]) hnew (by omega) (by omega) (by rw [hz2]; exact growslice_fits (by omega) (by omega))
    have hlen : c + (l.length - (c + 1)) = l.length - 1 := by omega
    rw [hlen] at hr
    refine ⟨_, _, _, hr, (Ext.refl w).drew.alloc _, ?_, .inr ⟨_, rfl, Nat.le_refl _⟩⟩
    have hb : (w.drew.alloc (.cells (((l.take c).map Sp.cells).flatten.toArray ++ ((l.drop (c + 1)).map Sp.cells).flatten.toArray ++ Builtin.zeroCells (Value.agg #[.int .i64 0, .int .i64 0]).cells (grownCap w (l.length - 1) c 27 - (l.length - 1))) 27)).heap[w.heap.size]? = some (.cells (((l.take c).map Sp.cells).flatten.toArray ++ ((l.drop (c + 1)).map Sp.cells).flatten.toArray ++ Builtin.zeroCells (Value.agg #[.int .i64 0, .int .i64 0]).cells (grownCap w (l.length - 1) c 27 - (l.length - 1))) 27) := heap_alloc_new w.drew _
    refine row_pre hb fun k u hu => ?_
    rw [lessP_cells] at hu
    have hk := (List.getElem?_eq_some_iff.1 hu).1
    rw [Array.getElem?_append_left (by simpa using hk)]
    simpa using hu
  · have hn : l.length - (c + 1) = 0 := by omega
    have hd : l.drop (c + 1) = [] := List.drop_eq_nil_of_le (by omega)
    rw [hn]
    have hs : Src Try.prog i.size 40 (.slice a' 0 cp) 0 [] w := by
      cases a' with
      | none => exact Src.ofNil w Try.underlying40 cp
      | some a => exact Src.ofSlice w Try.underlying40 a 0 cp [] (by simp) (fun j u hu => by simp at hu) (fun u hu => by simp at hu)
    have hr := run_append_nothing (P := Try.prog) w 40 40 ty 27 i Try.underlying40 hi (some ⟨g, 0, none⟩) c c (Nat.le_refl _) (.slice a' 0 cp) hs
    have hlen : c = l.length - 1 := by omega
    refine ⟨some ⟨g, 0, none⟩, c, w, by rw [hr, ← hlen], Ext.refl _, ?_, .inl rfl⟩
    intro k hk
    rw [lessP_cells, hd] at hk ⊢
    simp only [List.map_nil, List.flatten_nil, List.append_nil] at hk ⊢
    exact ⟨_, rfl, (hold k _ (List.getElem?_eq_getElem hk)).trans (List.getElem?_eq_getElem hk).symm⟩
end Go.Proofs.Yteilglljigjefaa
