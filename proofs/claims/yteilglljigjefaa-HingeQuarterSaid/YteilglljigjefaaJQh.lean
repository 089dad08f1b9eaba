/- A panel of the call's own linkage, exchanged. -/
import Derived.Test.YteilglljigjefaaJQe
import Derived.Test.YteilglljigjefaaJQg
import Derived.Test.YteilglljigjefaaJ32
namespace Go.Proofs.Yteilglljigjefaa
open Go.RowKit
theorem Row.far {w : World} {A : Option Addr} {xs : List Value} {p : Addr} (h : Row w A xs) (hne : ∀ ad, A = some ad → 0 < xs.length → ad.block ≠ p.block) (u : Value) : Row (w.setCell p u) A xs := fun k hk => by
  obtain ⟨ad, e, hc⟩ := h k hk
  refine ⟨ad, e, ?_⟩
  rw [← hc]
  have hb : (ad.add k).block ≠ p.block := by
    have : (ad.add k).block = ad.block := by unfold Addr.add; split <;> rfl
    rw [this]
    exact hne ad e (by omega)
  exact World.cell?_setCell_other _ _ _ _ (fun e => hb (by rw [e]))
section
variable {w1 w : World} {A B : Option Addr} {c d : Nat} {vs : List Value} {ps : List (List Sp)} {hs : List Hg}
theorem TwinOk.panel (h : TwinOk w1 w A c B d vs ps hs) {i : Nat} (hi : i < ps.length) (hpos : 0 < (pnA ps i).length) : ∃ gP gS cap, A = some ⟨gP, 0, none⟩ ∧ w1.heap.size ≤ gP ∧ gP < w.heap.size ∧ gS < w.heap.size ∧ gS ≠ gP ∧ (pnA ps i).length ≤ cap ∧
    w.cell? ⟨gP, i, none⟩ = some (.slice (some ⟨gS, 0, none⟩) (pnA ps i).length cap) ∧ w.frozen? ⟨gP, i, none⟩ = false ∧ SRow w (some ⟨gS, 0, none⟩) (pnA ps i) := by
  obtain ⟨hp, hq, ho⟩ := h
  obtain ⟨gP, c', ev, h1, h2⟩ := hq.at_ (by omega)
  cases ev
  have hpi := hp.own i hi
  obtain ⟨gS, cap, e2, h3, h4⟩ := hpi.at_ hpos
  have hcap : (pnA ps i).length ≤ cap := by
    rcases hpi.2.2 with ⟨e3, _⟩ | ⟨g, cap', cur, e3, _, _, hn, _⟩
    · rw [e2] at e3; cases e3
    · rw [e2] at e3
      injection e3 with _ _ e4
      omega
  have hne := hpi.ne_own hq (by decide) rfl
  rw [e2] at hpi hne
  have hv : vs[i]? = some (.slice (some ⟨gS, 0, none⟩) (pnA ps i).length cap) := by
    have hl := hp.len
    rw [← e2, List.getD, List.getElem?_eq_getElem (show i < vs.length by omega)]
    rfl
  refine ⟨gP, gS, cap, rfl, h1, h2, h4, fun e => hne (by rw [e]; rfl), hcap, ?_, hq.free i, Own.row hpi⟩
  rw [hq.cell (by have := hp.len; omega)]
  exact hv
theorem TwinOk.setPanel (h : TwinOk w1 w A c B d vs ps hs) {i : Nat} (hi : i < ps.length) {gP : Nat} (hA : A = some ⟨gP, 0, none⟩) {X : Option Addr} {l : List Sp} (x : Nat) (hX : SRow w X l) (hne : ∀ ad, X = some ad → 0 < l.length → ad.block ≠ gP) :
    PnRow (w.setCell ⟨gP, i, none⟩ (.slice X l.length x)) A (ps.set i l) ∧ HRow (w.setCell ⟨gP, i, none⟩ (.slice X l.length x)) B hs ∧ Ext w1 (w.setCell ⟨gP, i, none⟩ (.slice X l.length x)) := by
  obtain ⟨hp, hq, ho⟩ := h
  subst hA
  have hst := hq.store i (.slice X l.length x)
  have hl := hp.len
  have hge := hq.ge
  refine ⟨fun k hk => ?_, OwnH.row (ho.other (p := ⟨gP, i, none⟩) hge (ho.ne_own hq (by decide) rfl) _), hst.ext⟩
  rw [List.length_set] at hk
  have hcell : ∀ v, (vs.set i (.slice X l.length x))[k]? = some v → ∀ w', Ext (w.setCell ⟨gP, i, none⟩ (.slice X l.length x)) w' → w'.cell? ((⟨gP, 0, none⟩ : Addr).add k) = some v := fun v hv w' he => by
    rw [add_zero']
    exact he.cell ((hst.cell (by rw [List.length_set]; omega)).trans hv)
  by_cases hki : k = i
  · subst hki
    refine ⟨_, X, x, rfl, ?_, ?_⟩
    · simp only [List.getElem_set_self]
      exact hcell _ (by rw [List.getElem?_set_self (by omega)])
    · simp only [List.getElem_set_self]
      exact Row.far hX (fun ad e h0 => hne ad e (by rw [Sp.flat_len] at h0; omega)) _
  · have hpk := hp.own k hk
    obtain ⟨A', c', hv⟩ := hpk.form
    have hkn := hpk.ne_own hq (by decide) rfl
    rw [hv] at hpk hkn
    refine ⟨_, A', c', rfl, ?_, ?_⟩
    · simp only [List.getElem_set_ne (Ne.symm hki)]
      refine hcell _ ?_
      rw [List.getElem?_set_ne (Ne.symm hki), ← pnA_at hk, ← hv, List.getD, List.getElem?_eq_getElem (show k < vs.length by omega)]
      rfl
    · simp only [List.getElem_set_ne (Ne.symm hki)]
      rw [← pnA_at hk]
      refine Row.far (Own.row hpk) (fun ad e _ => ?_) _
      subst e
      intro e2
      exact hkn (by rw [← e2]; rfl)
end
end Go.Proofs.Yteilglljigjefaa
