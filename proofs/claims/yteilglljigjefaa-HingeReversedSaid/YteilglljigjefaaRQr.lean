/- A linkage from its other end: what it leaves as it is. Plain Lean. -/
import Derived.Test.YteilglljigjefaaR27
import Derived.Test.YteilglljigjefaaR01
namespace Go.Proofs.Yteilglljigjefaa
theorem pnA_rev {ps : List (List Sp)} {i : Nat} (hi : i < ps.length) : pnA ps.reverse i = pnA ps (ps.length - 1 - i) := by
  unfold pnA
  simp only [List.getD]
  rw [List.getElem?_reverse hi]
abbrev revHs (hs : List Hg) : List Hg := hs.reverse.map revH
theorem linkP_rev {ps : List (List Sp)} {hs : List Hg} (h : linkP ps hs) : linkP ps.reverse (revHs hs) := by
  refine ⟨by simpa using h.1, by simpa using h.2.1, fun p hp => h.2.2.1 p (List.mem_reverse.1 hp), fun q hq => ?_⟩
  obtain ⟨q', h', rfl⟩ := List.mem_map.1 hq
  exact revH_ok (h.2.2.2 q' (List.mem_reverse.1 h'))
theorem part_rev {ps : List (List Sp)} {hs : List Hg} (h : linkP ps hs) {i k : Nat} (hi : i < ps.length) (hk : k < ps.length) :
    partP (pcrn ps.reverse (revHs hs) i) (pcrn ps.reverse (revHs hs) k) ↔ partP (pcrn ps hs (ps.length - 1 - i)) (pcrn ps hs (ps.length - 1 - k)) := by
  have hn := h.2.1
  have hl := linkP_rev h
  have ei : ps.length - 1 - i = hs.length - i := by omega
  have ek : ps.length - 1 - k = hs.length - k := by omega
  have r1 := rev_rel h.2.2.2 i (by omega)
  have r2 := rev_rel h.2.2.2 k (by omega)
  have g := link_pose h (k := hs.length) (by omega)
  have n1 := link_pose hl (k := i) (by simpa using hi)
  have n2 := link_pose hl (k := k) (by simpa using hk)
  have m1 := link_pose h (k := hs.length - i) (by omega)
  have m2 := link_pose h (k := hs.length - k) (by omega)
  unfold pcrn
  rw [partP_crn, partP_crn, pnA_rev hi, pnA_rev hk, ei, ek]
  unfold Ptd
  constructor
  · rintro ⟨e, he, hx⟩
    exact ⟨e, he, fun j hj => (RelG.side g.pq g.d0 r1 r2 n1.d0 m1.d0 n2.d0 m2.d0 _ _ _).2 (hx j hj)⟩
  · rintro ⟨e, he, hx⟩
    exact ⟨e, he, fun j hj => (RelG.side g.pq g.d0 r1 r2 n1.d0 m1.d0 n2.d0 m2.d0 _ _ _).1 (hx j hj)⟩
theorem clF_rev {ps : List (List Sp)} {hs : List Hg} (h : linkP ps hs) {i k : Nat} (hi : i < ps.length) (hk : k < ps.length) : clF ps.reverse (revHs hs) i k = clF ps hs (ps.length - 1 - i) (ps.length - 1 - k) := by
  unfold clF clashB partB
  rw [decide_eq_decide.2 (part_rev h hi hk), decide_eq_decide.2 (part_rev h hk hi)]
theorem clF_comm (ps : List (List Sp)) (hs : List Hg) (i k : Nat) : clF ps hs i k = clF ps hs k i := clashB_comm _ _
/-- The pairs of a list of clashes. -/
theorem mem_refC {f : Nat → Nat → Bool} {n : Nat} {p : Int × Int} : p ∈ refC f n n ↔ ∃ i k : Nat, i < k ∧ k < n ∧ f i k = true ∧ p = ((i : Int), (k : Int)) := by
  unfold refC rowR
  simp only [List.mem_flatMap, List.mem_range, List.mem_map, List.mem_filter]
  constructor
  · rintro ⟨i, hi, q, ⟨hq, hf⟩, rfl⟩
    have := List.mem_range'_1.1 hq
    exact ⟨i, q, by omega, by omega, hf, rfl⟩
  · rintro ⟨i, k, h1, h2, h3, rfl⟩
    exact ⟨i, by omega, k, ⟨List.mem_range'_1.2 (by omega), h3⟩, rfl⟩
theorem refC_nodup (f : Nat → Nat → Bool) (n m : Nat) : (refC f n m).Nodup := by
  unfold refC List.Nodup
  rw [List.pairwise_flatMap]
  refine ⟨fun i _ => ?_, List.pairwise_lt_range.imp fun {a b} hab x hx y hy e => ?_⟩
  · unfold rowR
    rw [List.pairwise_map]
    refine (List.Pairwise.filter _ List.pairwise_lt_range').imp fun {a b} h e => ?_
    have := congrArg Prod.snd e
    simp only at this
    omega
  · unfold rowR at hx hy
    obtain ⟨_, _, rfl⟩ := List.mem_map.1 hx
    obtain ⟨_, _, rfl⟩ := List.mem_map.1 hy
    have := congrArg Prod.fst e
    simp only at this
    omega
/-- A pair from the other end. -/
def flipP (n : Nat) (p : Int × Int) : Int × Int := ((n : Int) - 1 - p.2, (n : Int) - 1 - p.1)
theorem flipP_flipP (n : Nat) (p : Int × Int) : flipP n (flipP n p) = p := by
  obtain ⟨a, b⟩ := p
  simp only [flipP, Prod.mk.injEq]
  omega
theorem rev_perm {f g : Nat → Nat → Bool} {n : Nat} (h : ∀ i k, i < n → k < n → g i k = f (n - 1 - i) (n - 1 - k)) (hc : ∀ i k, f i k = f k i) : ((refC g n n).map (flipP n)).Perm (refC f n n) := by
  refine (List.perm_ext_iff_of_nodup ?_ (refC_nodup f n n)).2 fun p => ?_
  · unfold List.Nodup
    rw [List.pairwise_map]
    refine (refC_nodup g n n).imp fun {a b} hab e => hab ?_
    rw [← flipP_flipP n a, e, flipP_flipP]
  · rw [List.mem_map, mem_refC]
    constructor
    · rintro ⟨q, hq, rfl⟩
      obtain ⟨i, k, h1, h2, h3, rfl⟩ := mem_refC.1 hq
      refine ⟨n - 1 - k, n - 1 - i, by omega, by omega, ?_, ?_⟩
      · rw [hc, ← h i k (by omega) h2]
        exact h3
      · simp only [flipP, Prod.mk.injEq]
        omega
    · rintro ⟨i, k, h1, h2, h3, rfl⟩
      refine ⟨flipP n (i, k), mem_refC.2 ⟨n - 1 - k, n - 1 - i, by omega, by omega, ?_, ?_⟩, flipP_flipP _ _⟩
      · rw [h _ _ (by omega) (by omega), hc, show n - 1 - (n - 1 - i) = i by omega, show n - 1 - (n - 1 - k) = k by omega]
        exact h3
      · simp only [flipP, Prod.mk.injEq]
        omega
/-- The pairs of a linkage and those from the other end. -/
theorem pairs_rev {ps : List (List Sp)} {hs : List Hg} (h : linkP ps hs) : ((pairsR ps.reverse (revHs hs)).map (flipP ps.length)).Perm (pairsR ps hs) := by
  have h1 : linkB ps hs = true := decide_eq_true h
  have h2 : linkB ps.reverse (revHs hs) = true := decide_eq_true (linkP_rev h)
  unfold pairsR
  rw [if_pos h1, if_pos h2, List.length_reverse]
  exact rev_perm (fun i k hi hk => clF_rev h hi hk) (clF_comm ps hs)
theorem pairs_rev_len {ps : List (List Sp)} {hs : List Hg} (h : linkP ps hs) : (pairsR ps.reverse (revHs hs)).length = (pairsR ps hs).length := by
  have := (pairs_rev h).length_eq
  simpa using this
end Go.Proofs.Yteilglljigjefaa
