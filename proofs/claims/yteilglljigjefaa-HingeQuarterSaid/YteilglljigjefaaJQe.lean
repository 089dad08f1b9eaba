/- Stores into a linkage that is the call's own. -/
import Derived.Test.YteilglljigjefaaJ32
namespace Go.Proofs.Yteilglljigjefaa
open Go.RowKit
section
variable {w1 w : World} {A B : Option Addr} {c d : Nat} {vs : List Value} {ps : List (List Sp)} {hs : List Hg}
/-- A store into a cell of a hinge. -/
theorem TwinOk.hcell (h : TwinOk w1 w A c B d vs ps hs) {j : Nat} (hj : j < hs.length * 5) : ∃ g, B = some ⟨g, 0, none⟩ ∧ w1.heap.size ≤ g ∧ g < w.heap.size ∧ (w.cell? ⟨g, j, none⟩ = (hs.map Hg.cells).flatten[j]?) ∧ w.frozen? ⟨g, j, none⟩ = false ∧
    ∀ u hs', hs'.length = hs.length → (hs.map Hg.cells).flatten.set j u = (hs'.map Hg.cells).flatten → TwinOk w1 (w.setCell ⟨g, j, none⟩ u) A c (some ⟨g, 0, none⟩) d vs ps hs' := by
  obtain ⟨hp, hq, ho⟩ := h
  obtain ⟨g, c', ev, h1, h2⟩ := ho.at_ (by omega)
  cases ev
  refine ⟨g, rfl, h1, h2, ho.cell (by rw [Hg.cells_len]; omega), ho.free j, fun u hs' hl he => ⟨hp.other (p := ⟨g, j, none⟩) h1 (fun i hi => (hp.own i hi).ne_own ho (by decide) rfl) u, hq.other (p := ⟨g, j, none⟩) h1 (hq.ne_own ho (by decide) rfl) u, ?_⟩⟩
  have := ho.store j u
  rw [he] at this
  rw [hl]
  exact this
theorem TwinOk.angle (h : TwinOk w1 w A c B d vs ps hs) {k : Nat} (hk : k < hs.length) : ∃ g, B = some ⟨g, 0, none⟩ ∧ w1.heap.size ≤ g ∧ g < w.heap.size ∧ (w.cell? ⟨g, k * 5 + 4, none⟩ = some (vint (hgA hs k).ang)) ∧ w.frozen? ⟨g, k * 5 + 4, none⟩ = false ∧
    ∀ n, TwinOk w1 (w.setCell ⟨g, k * 5 + 4, none⟩ (vint n)) A c (some ⟨g, 0, none⟩) d vs ps (setAng hs k n) := by
  obtain ⟨g, h1, h2, h3, h4, h5, h6⟩ := h.hcell (j := k * 5 + 4) (by omega)
  refine ⟨g, h1, h2, h3, ?_, h5, fun n => h6 _ _ (setAng_len hs k n) (setAng_cells hs k n hk)⟩
  have hr := h.hown.row
  obtain ⟨ad, ee, _, _, _, _, r4⟩ := OwnH.row h.hown |>.at_ hk
  rw [h1] at ee
  cases ee
  have := r4 w (Ext.refl _)
  rw [add_zero'] at this
  simpa using this
end
end Go.Proofs.Yteilglljigjefaa
