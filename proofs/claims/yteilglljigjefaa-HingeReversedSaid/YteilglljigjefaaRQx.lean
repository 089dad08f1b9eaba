/- HingeReversed: the linkage from the other end as it is laid. -/
import Derived.Test.YteilglljigjefaaRQw
import Derived.Test.YteilglljigjefaaRQr
import Derived.Test.YteilglljigjefaaR15
import Derived.Test.YteilglljigjefaaR27
namespace Go.Proofs.Yteilglljigjefaa
open Go.RowKit
/-- The slices of a linkage's panels as they lie. -/
theorem pan_vals {w : World} {A : Option Addr} {ps : List (List Sp)} (hA : PnRow w A ps) : ∃ pv : Nat → Value, ∀ k, k < ps.length → (∃ ad, A = some ad ∧ ∀ w', Ext w w' → w'.cell? (ad.add k) = some (pv k)) ∧ ∃ B c, pv k = .slice B (pnA ps k).length c ∧ SRow w B (pnA ps k) := by
  have h : ∀ k, ∃ v : Value, k < ps.length → (∃ ad, A = some ad ∧ ∀ w', Ext w w' → w'.cell? (ad.add k) = some v) ∧ ∃ B c, v = .slice B (pnA ps k).length c ∧ SRow w B (pnA ps k) := fun k => by
    by_cases hk : k < ps.length
    · obtain ⟨ad, B, c, h1, h2, h3⟩ := hA.at_ hk
      exact ⟨_, fun _ => ⟨⟨ad, h1, h2⟩, B, c, rfl, h3⟩⟩
    · exact ⟨undef, fun h => absurd h hk⟩
  exact ⟨fun k => (h k).choose, fun k hk => (h k).choose_spec hk⟩
/-- The first k of them, from the other end. -/
def revV (pv : Nat → Value) (n k : Nat) : List Value := (List.range k).map fun i => pv (n - 1 - i)
theorem revV_len (pv : Nat → Value) (n k : Nat) : (revV pv n k).length = k := by simp [revV]
theorem revV_succ (pv : Nat → Value) (n k : Nat) : revV pv n (k + 1) = revV pv n k ++ [pv (n - 1 - k)] := by simp [revV, List.range_succ]
theorem revV_row {w w1 w2 : World} {ps : List (List Sp)} {pv : Nat → Value} (hpv : ∀ k, k < ps.length → ∃ B c, pv k = .slice B (pnA ps k).length c ∧ SRow w B (pnA ps k)) (h1 : Ext w w1) {A1 : Option Addr} {c1 : Nat} (ho : Own w1 w2 40 1 (.slice A1 ps.length c1) ps.length (revV pv ps.length ps.length)) : PnRow w2 A1 ps.reverse := fun k hk => by
  have hk' : k < ps.length := by simpa using hk
  obtain ⟨ad, ha, hc⟩ := ho.row k (by rw [revV_len]; exact hk')
  obtain ⟨B, c, e, hB⟩ := hpv (ps.length - 1 - k) (by omega)
  have e1 : (revV pv ps.length ps.length)[k]? = some (pv (ps.length - 1 - k)) := by simp [revV, hk']
  have e2 : ps.reverse[k] = pnA ps (ps.length - 1 - k) := by
    rw [← pnA_at hk, pnA_rev hk']
  refine ⟨ad, B, c, ha, fun w' he => he.cell ?_, ?_⟩
  · rw [hc, e1, e, e2]
  · rw [e2]
    exact hB.ext (h1.trans ho.ext)
theorem revHs_len (hs : List Hg) : (revHs hs).length = hs.length := by simp [revHs]
theorem revHs_at {hs : List Hg} {k : Nat} (hk : k < hs.length) : (revHs hs)[k]'(by rw [revHs_len]; exact hk) = revH (hgA hs (hs.length - 1 - k)) := by
  rw [hgA_at (by omega)]
  simp [revHs]
theorem revHs_take {hs : List Hg} {k : Nat} (hk : k < hs.length) : (revHs hs).take (k + 1) = (revHs hs).take k ++ [revH (hgA hs (hs.length - 1 - k))] := by
  rw [List.take_succ_eq_append_getElem (by rw [revHs_len]; exact hk), revHs_at hk]
theorem rev_lk {w w1 w2 : World} {A B : Option Addr} {ps : List (List Sp)} {hs : List Hg} (hL : Lk w A ps B hs) {pv : Nat → Value} (hpv : ∀ k, k < ps.length → ∃ B c, pv k = .slice B (pnA ps k).length c ∧ SRow w B (pnA ps k)) (h1 : Ext w w1) {A1 B1 : Option Addr} {c1 d1 : Nat}
    (ho : Own w1 w2 40 1 (.slice A1 ps.length c1) ps.length (revV pv ps.length ps.length)) (hh : Own w1 w2 85 5 (.slice B1 hs.length d1) hs.length ((revHs hs).map Hg.cells).flatten) : Lk w2 A1 ps.reverse B1 (revHs hs) := by
  refine ⟨revV_row hpv h1 ho, Own.row hh, by simpa using hL.np, by rw [revHs_len]; exact hL.nh, fun k hk => ?_⟩
  have hk' : k < ps.length := by simpa using hk
  rw [pnA_rev hk']
  exact hL.hp _ (by omega)
/-- The numbers of a pair. -/
theorem pairsR_at {ps : List (List Sp)} {hs : List Hg} (hl : linkP ps hs) {k : Nat} (hk : k < (pairsR ps hs).length) : 0 ≤ (pAt (pairsR ps hs) k).1 ∧ (pAt (pairsR ps hs) k).1 < ps.length ∧ 0 ≤ (pAt (pairsR ps hs) k).2 ∧ (pAt (pairsR ps hs) k).2 < ps.length := by
  have hm : pAt (pairsR ps hs) k ∈ pairsR ps hs := by
    have e : pAt (pairsR ps hs) k = (pairsR ps hs)[k] := pAt_eq hk
    rw [e]
    exact List.getElem_mem hk
  have h1 : linkB ps hs = true := decide_eq_true hl
  generalize pAt (pairsR ps hs) k = p at *
  unfold pairsR at hm
  rw [if_pos h1] at hm
  obtain ⟨i, j, h2, h3, _, rfl⟩ := mem_refC.1 hm
  simp only
  omega
theorem pairs_len {ps : List (List Sp)} {hs : List Hg} (hl : linkP ps hs) : (pairsR ps hs).length ≤ 16 := by
  have h1 : linkB ps hs = true := decide_eq_true hl
  have h4 := hl.1.2
  unfold pairsR
  rw [if_pos h1]
  exact Nat.le_trans (refC_len _ _ _) (Nat.mul_le_mul h4 h4)
theorem mem_flip {ps : List (List Sp)} {hs : List Hg} (hl : linkP ps hs) {p : Int × Int} (hp : p ∈ pairsR ps hs) : p ∈ (pairsR ps.reverse (revHs hs)).map (flipP ps.length) := (pairs_rev hl).mem_iff.2 hp
end Go.Proofs.Yteilglljigjefaa
