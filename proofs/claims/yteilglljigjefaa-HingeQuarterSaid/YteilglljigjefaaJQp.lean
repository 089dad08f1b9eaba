/- Quarter turns and parts of linkages: what they leave as it is. Plain Lean. -/
import Derived.Test.YteilglljigjefaaJ32
namespace Go.Proofs.Yteilglljigjefaa
theorem sd_qtr (a b c : Sp) : sd (qtr a) (qtr b) (qtr c) = sd a b c := by unfold sd qtr; grind
theorem ptA_qtr (p : List Sp) (i : Nat) : ptA (p.map qtr) i = qtr (ptA p i) := by
  unfold ptA
  by_cases h : i < p.length
  · simp [List.getD, h]
  · simp [List.getD, h, s0, qtr]
theorem spotB_qtr {s : Sp} (h : spotB s) : spotB (qtr s) := by
  obtain ⟨⟨h1, h2⟩, h3, h4⟩ := h
  refine ⟨⟨?_, ?_⟩, ?_, ?_⟩ <;> simp only [qtr] <;> omega
theorem panelP_qtr {p : List Sp} (h : panelP p) : panelP (p.map qtr) := by
  refine ⟨by simpa using h.1, fun s hs => ?_, fun i hi k hk => ?_⟩
  · obtain ⟨s', h', rfl⟩ := List.mem_map.1 hs
    exact spotB_qtr (h.2.1 s' h')
  · rw [List.length_map] at hi hk
    have h2 := h.2.2 i hi k hk
    unfold cvxAt at h2 ⊢
    rw [List.length_map, ptA_qtr, ptA_qtr, ptA_qtr, sd_qtr]
    exact h2
abbrev qtrPs (ps : List (List Sp)) : List (List Sp) := ps.map (List.map qtr)
abbrev qtrHs (hs : List Hg) : List Hg := hs.map qtrH
theorem linkP_qtr {ps : List (List Sp)} {hs : List Hg} (h : linkP ps hs) : linkP (qtrPs ps) (qtrHs hs) := by
  refine ⟨by simpa using h.1, by simpa using h.2.1, fun p hp => ?_, fun q hq => ?_⟩
  · obtain ⟨p', h', rfl⟩ := List.mem_map.1 hp
    exact panelP_qtr (h.2.2.1 p' h')
  · obtain ⟨q', h', rfl⟩ := List.mem_map.1 hq
    have hh := h.2.2.2 q' h'
    exact ⟨spotB_qtr hh.1, spotB_qtr hh.2.1, hh.2.2⟩
theorem pnA_qtr (ps : List (List Sp)) (k : Nat) : pnA (qtrPs ps) k = (pnA ps k).map qtr := by
  unfold pnA
  by_cases h : k < ps.length
  · simp [List.getD, h]
  · simp [List.getD, h]
theorem part_qtr (ps : List (List Sp)) (hs : List Hg) (i k : Nat) : partP (pcrn (qtrPs ps) (qtrHs hs) i) (pcrn (qtrPs ps) (qtrHs hs) k) ↔ partP (pcrn ps hs i) (pcrn ps hs k) := by
  unfold pcrn
  rw [partP_crn, partP_crn, posF_qtr, posF_qtr, pnA_qtr, pnA_qtr]
  simp only [List.length_map, ptA_qtr, plc_qtr]
  exact ptd_qtr
theorem clF_qtr (ps : List (List Sp)) (hs : List Hg) : clF (qtrPs ps) (qtrHs hs) = clF ps hs := by
  funext i k
  unfold clF clashB partB
  rw [decide_eq_decide.2 (part_qtr ps hs i k), decide_eq_decide.2 (part_qtr ps hs k i)]
theorem setAng_qtr {hs : List Hg} {k : Nat} (hk : k < hs.length) (n : Int) : setAng (qtrHs hs) k n = qtrHs (setAng hs k n) := by
  unfold setAng qtrHs
  rw [List.map_set]
  have e : hgA (hs.map qtrH) k = qtrH (hgA hs k) := by simp [hgA, List.getD, hk]
  rw [e]
  rfl
theorem swF_qtr (ps : List (List Sp)) {hs : List Hg} {k : Nat} (hk : k < hs.length) (n : Nat) : swF (qtrPs ps) (qtrHs hs) k n = swF ps hs k n := by
  unfold swF
  rw [setAng_qtr hk, clF_qtr, List.length_map]
theorem swL_qtr (ps : List (List Sp)) {hs : List Hg} {k : Nat} (hk : k < hs.length) (m : Nat) : swL (qtrPs ps) (qtrHs hs) k m = swL ps hs k m := by
  unfold swL
  have e : swF (qtrPs ps) (qtrHs hs) k = swF ps hs k := funext fun n => swF_qtr ps hk n
  rw [e]
theorem sw_qtr {ps : List (List Sp)} {hs : List Hg} (h : linkP ps hs) (x : Int) : swE (qtrPs ps) (qtrHs hs) x = swE ps hs x ∧ swR (qtrPs ps) (qtrHs hs) x = swR ps hs x := by
  have h1 : linkB ps hs = true := decide_eq_true h
  have h2 : linkB (qtrPs ps) (qtrHs hs) = true := decide_eq_true (linkP_qtr h)
  unfold swE swR
  rw [h1, h2]
  simp only [if_true]
  by_cases hx : inH hs x
  · have hx' : inH (qtrHs hs) x := by unfold inH at *; rw [List.length_map]; exact hx
    rw [if_pos hx, if_pos hx', if_pos hx, if_pos hx', swL_qtr ps (by have := hx.1; have := hx.2; omega)]
    exact ⟨rfl, rfl⟩
  · have hx' : ¬ inH (qtrHs hs) x := by unfold inH at *; rw [List.length_map]; exact hx
    rw [if_neg hx, if_neg hx', if_neg hx, if_neg hx']
    exact ⟨rfl, rfl⟩
theorem pairs_qtr {ps : List (List Sp)} {hs : List Hg} (h : linkP ps hs) : pairsR (qtrPs ps) (qtrHs hs) = pairsR ps hs := by
  have h1 : linkB ps hs = true := decide_eq_true h
  have h2 : linkB (qtrPs ps) (qtrHs hs) = true := decide_eq_true (linkP_qtr h)
  unfold pairsR
  rw [h1, h2, if_pos rfl, if_pos rfl, clF_qtr, List.length_map]
/-! ### A corner less -/
def lessP (p : List Sp) (c : Nat) : List Sp := p.take c ++ p.drop (c + 1)
theorem lessP_len {p : List Sp} {c : Nat} (h : c < p.length) : (lessP p c).length = p.length - 1 := by simp [lessP]; omega
theorem ptA_less {p : List Sp} {c : Nat} (h : c < p.length) (i : Nat) : ptA (lessP p c) i = ptA p (skp c i) := by
  unfold ptA lessP skp
  by_cases h1 : i < c
  · rw [if_pos h1]
    simp only [List.getD]
    rw [List.getElem?_append_left (by simp; omega), List.getElem?_take_of_lt h1]
  · rw [if_neg h1]
    simp only [List.getD]
    rw [List.getElem?_append_right (by simp; omega), List.getElem?_drop]
    congr 2
    simp
    omega
theorem panelP_less {p : List Sp} {c : Nat} (h : panelP p) (hc : c < p.length) (h4 : 4 ≤ p.length) : panelP (lessP p c) := by
  refine ⟨by rw [lessP_len hc]; have := h.1; omega, fun s hs => ?_, fun i hi k hk => ?_⟩
  · unfold lessP at hs
    rcases List.mem_append.1 hs with hs | hs
    · exact h.2.1 s (List.mem_of_mem_take hs)
    · exact h.2.1 s (List.mem_of_mem_drop hs)
  · rw [lessP_len hc] at hi hk
    have hv := (Cvx.less h.cvx h4 hc).2 i k hi hk
    unfold cvxAt
    rw [lessP_len hc, ptA_less hc i, ptA_less hc k, ptA_less hc]
    exact hv
/-- A linkage with a corner less in one panel. -/
def lessL (ps : List (List Sp)) (i c : Nat) : List (List Sp) := ps.set i (lessP (pnA ps i) c)
theorem pnA_less {ps : List (List Sp)} {i c : Nat} (hi : i < ps.length) : pnA (lessL ps i c) i = lessP (pnA ps i) c := by simp [pnA, lessL, List.getD, hi]
theorem pnA_less_ne {ps : List (List Sp)} {i c k : Nat} (hk : k ≠ i) : pnA (lessL ps i c) k = pnA ps k := by
  simp [pnA, lessL, List.getD, Ne.symm hk]
theorem linkP_less {ps : List (List Sp)} {hs : List Hg} {i c : Nat} (h : linkP ps hs) (hi : i < ps.length) (hc : c < (pnA ps i).length) (h4 : 4 ≤ (pnA ps i).length) : linkP (lessL ps i c) hs := by
  refine ⟨by simpa [lessL] using h.1, by simpa [lessL] using h.2.1, fun p hp => ?_, h.2.2.2⟩
  rcases List.mem_or_eq_of_mem_set hp with h1 | rfl
  · exact h.2.2.1 p h1
  · exact panelP_less (by rw [pnA_at hi]; exact h.2.2.1 _ (List.getElem_mem hi)) hc h4
theorem linkP_less_not {ps : List (List Sp)} {hs : List Hg} {i c : Nat} (hi : i < ps.length) (hc : c < (pnA ps i).length) (h4 : (pnA ps i).length < 4) : ¬ linkP (lessL ps i c) hs := fun h => by
  have h1 := h.2.2.1 (lessP (pnA ps i) c) (List.mem_iff_getElem.2 ⟨i, by simpa [lessL] using hi, by simp [lessL]⟩)
  have h2 := h1.1.1
  rw [lessP_len hc] at h2
  omega
theorem ptd_less' {K K' L : Nat → Sp} {n m c : Nat} {d e : Int} (hk : ∀ j, K' j = K (skp c j)) (hK : Cvx K n) (h4 : 4 ≤ n) (hc : c < n) (hL : Cvx L m) (hd : 0 < d) (he : 0 < e)
    (h : Ptd K n d L m e ∨ Ptd L m e K n d) : Ptd K' (n - 1) d L m e ∨ Ptd L m e K' (n - 1) d := by
  obtain rfl : K' = fun j => K (skp c j) := funext hk
  exact ptd_less hK (Cvx.less hK h4 hc) hL hd he h
theorem clash_lessP {p q : Ps} {a b : List Sp} {c : Nat} (hp : PoseOk p 3) (hq : PoseOk q 3) (va : panelP a) (vb : panelP b) (hc : c < a.length) (h4 : 4 ≤ a.length)
    (h : clashB (crn p a) (crn q b) = false) : clashB (crn p (lessP a c)) (crn q b) = false := by
  rw [clashB_crn] at h ⊢
  rw [lessP_len hc]
  have hk : ∀ j, plc p (ptA (lessP a c) j) = plc p (ptA a (skp c j)) := fun j => by rw [ptA_less hc]
  have hK := va.cvx.plc hp
  have hM := vb.cvx.plc hq
  have h1 := hp.d0
  have h2 := hq.d0
  generalize p.d = d at *
  generalize q.d = e at *
  exact ptd_less' (K := fun j => plc p (ptA a j)) hk hK h4 hc hM h1 h2 h
theorem clash_less {ps : List (List Sp)} {hs : List Hg} {i c k : Nat} (h : linkP ps hs) (hi : i < ps.length) (hk : k < ps.length) (hne : i ≠ k) (hc : c < (pnA ps i).length) (h4 : 4 ≤ (pnA ps i).length)
    (hcl : clashB (pcrn ps hs i) (pcrn ps hs k) = false) : clashB (pcrn (lessL ps i c) hs i) (pcrn (lessL ps i c) hs k) = false := by
  have vi : panelP (pnA ps i) := by rw [pnA_at hi]; exact h.2.2.1 _ (List.getElem_mem hi)
  have vk : panelP (pnA ps k) := by rw [pnA_at hk]; exact h.2.2.1 _ (List.getElem_mem hk)
  unfold pcrn at hcl ⊢
  rw [pnA_less hi, pnA_less_ne (Ne.symm hne)]
  exact clash_lessP (link_pose h hi) (link_pose h hk) vi vk hc h4 hcl
end Go.Proofs.Yteilglljigjefaa
