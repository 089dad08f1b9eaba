/- What a solved train proves. Plain Lean. -/
import Derived.Deep.Upon
import Derived.Deep.AppendSrc
import Derived.Maps.OwnSet
import Derived.Test.YtbclbcldplmppaaMv07
namespace Go.Proofs.Ytbclbcldplmppaa

theorem dotT_S (x : List Int) (c : Nat → Int) : ∀ n, dotT x c n = S (List.range n) fun k => getI x k * c k
  | 0 => rfl
  | n + 1 => by rw [dotT, dotT_S x c n, List.range_succ, S_append, S_cons, S_nil, Int.add_zero]
theorem sumT_S (F : List Int) (L : Nat → Nat → Int) (k : Nat) : ∀ m, sumT F L m k = S (List.range m) fun y => getI F y * L y k
  | 0 => rfl
  | m + 1 => by rw [sumT, sumT_S F L k m, List.range_succ, S_append, S_cons, S_nil, Int.add_zero]

theorem mul4 (a b c d : Int) : (a * b) * (c * d) = (a * c) * (b * d) := by rw [Int.mul_assoc, Int.mul_left_comm b c d, ← Int.mul_assoc]
/-- The sign of a scale. -/
def sg (d : Int) : Int := if d < 0 then -1 else 1
theorem sg_mul (d : Int) : sg d * d = (d.natAbs : Int) := by unfold sg; split <;> omega
theorem sg_cases (d : Int) : sg d = 1 ∨ sg d = -1 := by unfold sg; split <;> simp
theorem sg_pos {d : Int} (h : d ≠ 0) : 0 < sg d * d := by rw [sg_mul]; omega

/-- A motion in which a free shaft turns. -/
def MotOf (n : Nat) (pv : List (Nat × Nat)) (M : Nat → Nat → Int) (d : Int) (f : Nat) (x : List Int) : Prop :=
  x.length = n ∧ getI x f = sg d * d ∧ (∀ q ∈ pv, getI x q.2 = -sg d * M q.1 f) ∧ ∀ j, j < n → j ≠ f → j ∉ colsP pv → getI x j = 0
/-- A row's factors, with a sign. -/
def FacOf (n m : Nat) (M : Nat → Nat → Int) (d : Int) (q : Nat × Nat) (F : List Int) : Prop := F.length = m ∧ ∀ y, y < m → getI F y = sg d * M q.1 (n + y)

section
variable {A : Nat → Nat → Int} {n m : Nat} {cols : List Nat} {σ : Nat → Nat} {pv : List (Nat × Nat)} {M : Nat → Nat → Int} {d : Int}

theorem SolSt.red' (h : SolSt (augF n A) n m cols σ pv M d) {q q' : Nat × Nat} (hq : q ∈ pv) (hq' : q' ∈ pv) : M q.1 q'.2 = if q = q' then d else 0 := by
  obtain ⟨i, hi, rfl⟩ := List.getElem_of_mem hq
  obtain ⟨l, hl, rfl⟩ := List.getElem_of_mem hq'
  rw [h.row_at hi, h.red hi hl]
  by_cases e : i = l
  · subst e; simp
  · rw [if_neg e, if_neg]
    intro e'
    have h2 : (colsP pv)[i]'(by rw [colsP_len]; exact hi) = (colsP pv)[l]'(by rw [colsP_len]; exact hl) := by rw [colsP_get, colsP_get, e']
    exact e ((List.getElem_inj h.cnd).1 h2)

/-- A row times such a motion is 0. -/
theorem SolSt.row_dot (h : SolSt (augF n A) n m cols σ pv M d) {f : Nat} {x : List Int} (hf : f < n) (hfo : f ∉ colsP pv) (hx : MotOf n pv M d f x) {q : Nat × Nat} (hq : q ∈ pv) : S (List.range n) (fun j => getI x j * M q.1 j) = 0 := by
  have hqn : q.2 < n := (h.cin q.2 (List.mem_map.2 ⟨q, hq, rfl⟩)).2
  have hne : q.2 ≠ f := fun e => hfo (e ▸ List.mem_map.2 ⟨q, hq, rfl⟩)
  have h1 : S (List.range n) (fun j => getI x j * M q.1 j) = S (List.range n) fun j => (if j = f then getI x j * M q.1 j else 0) + (if j = q.2 then getI x j * M q.1 j else 0) := S_congr fun j hj => by
    have hj := List.mem_range.1 hj
    by_cases e1 : j = f
    · rw [if_pos e1, if_neg (fun e => hne (e.symm.trans e1)), Int.add_zero]
    · rw [if_neg e1, Int.zero_add]
      by_cases e2 : j = q.2
      · rw [if_pos e2]
      · rw [if_neg e2]
        by_cases hc : j ∈ colsP pv
        · obtain ⟨q', hq', rfl⟩ := List.mem_map.1 hc
          rw [h.red' hq hq', if_neg (fun e => e2 (by rw [e])), Int.mul_zero]
        · rw [hx.2.2.2 j hj e1 hc, Int.zero_mul]
  rw [h1, S_add, S_single List.nodup_range (List.mem_range.2 hf) (fun j => getI x j * M q.1 j), S_single List.nodup_range (List.mem_range.2 hqn) (fun j => getI x j * M q.1 j)]
  rw [hx.2.1, hx.2.2.1 q hq, h.red' hq hq, if_pos rfl, Int.neg_mul, Int.neg_mul, Int.mul_assoc, Int.mul_assoc, Int.mul_comm d (M q.1 f)]
  omega

theorem SolSt.motion (h : SolSt (augF n A) n m cols σ pv M d) (hall : ∀ c, c < n → c ∈ cols) {f : Nat} {x : List Int} (hf : f < n) (hfo : f ∉ colsP pv) (hx : MotOf n pv M d f x) {i : Nat} (hi : i < m) : dotT x (A i) n = 0 := by
  obtain ⟨cf, hcf⟩ := (h.basis hall).hA i hi
  have h1 : d * dotT x (A i) n = 0 := by
    rw [dotT_S, ← S_mul]
    have h2 : S (List.range n) (fun j => d * (getI x j * A i j)) = S (List.range n) fun j => S (List.range (colsP pv).length) fun k => cf k * (getI x j * M (σ k) j) := S_congr fun j hj => by
      have h3 := Int.eq_of_sub_eq_zero (Int.zero_dvd.1 (hcf j (List.mem_range.1 hj)))
      have h3 : d * A i j = S (List.range (colsP pv).length) fun k => cf k * M (σ k) j := h3
      have h4 : d * (getI x j * A i j) = getI x j * (d * A i j) := Int.mul_left_comm _ _ _
      rw [h4, h3, ← S_mul]
      exact S_congr fun k _ => Int.mul_left_comm _ _ _
    rw [h2, S_comm]
    refine S_zero fun k hk => ?_
    rw [S_mul]
    have hk' : k < pv.length := by have := List.mem_range.1 hk; rwa [colsP_len] at this
    have h5 := h.row_dot hf hfo hx (List.getElem_mem hk')
    rw [h.row_at hk'] at h5
    rw [h5, Int.mul_zero]
  rcases Int.mul_eq_zero.1 h1 with h2 | h2
  · exact absurd h2 h.bar.ne
  · exact h2

theorem SolSt.factor (h : SolSt (augF n A) n m cols σ pv M d) {q : Nat × Nat} (hq : q ∈ pv) {F : List Int} (hF : FacOf n m M d q F) {k : Nat} (hk : k < n) : sumT F A m k = sg d * M q.1 k := by
  rw [sumT_S, h.by_ (h.bar.lt q hq) hk, ← S_mul]
  refine S_congr fun y hy => ?_
  rw [hF.2 y (List.mem_range.1 hy), Int.mul_assoc, Int.mul_comm (A y k)]

/-! ### The proofs -/
theorem fits_of {a : Int} {s : Int} (h : a.natAbs ≤ 9007199254740992) (hs : s = 1 ∨ s = -1) : -9007199254740992 ≤ s * a ∧ s * a ≤ 9007199254740992 := by
  rcases hs with rfl | rfl <;> omega
theorem SolSt.facSized (_h : SolSt (augF n A) n m cols σ pv M d) (hB : d.natAbs ≤ 9007199254740992 ∧ ∀ q ∈ pv, ∀ j, (M q.1 j).natAbs ≤ 9007199254740992) {q : Nat × Nat} (hq : q ∈ pv) {F : List Int} (hF : FacOf n m M d q F) : sizedP F m := by
  refine ⟨hF.1, fun x hx => ?_⟩
  obtain ⟨k, hk, rfl⟩ := List.getElem_of_mem hx
  have := hF.2 k (by rw [← hF.1]; exact hk)
  rw [getI_eq hk] at this
  rw [this]
  exact fits_of (hB.2 q hq _) (sg_cases d)
theorem SolSt.motSized (hB : d.natAbs ≤ 9007199254740992 ∧ ∀ q ∈ pv, ∀ j, (M q.1 j).natAbs ≤ 9007199254740992) {f : Nat} {x : List Int} (hx : MotOf n pv M d f x) : sizedP x n := by
  refine ⟨hx.1, fun y hy => ?_⟩
  obtain ⟨k, hk, rfl⟩ := List.getElem_of_mem hy
  have e : x[k] = getI x k := (getI_eq hk).symm
  rw [e]
  by_cases e1 : k = f
  · rw [e1, hx.2.1]; exact fits_of hB.1 (sg_cases d)
  · by_cases e2 : k ∈ colsP pv
    · obtain ⟨q, hq, rfl⟩ := List.mem_map.1 e2
      rw [hx.2.2.1 q hq]
      exact fits_of (hB.2 q hq _) (by rcases sg_cases d with h | h <;> rw [h] <;> simp)
    · rw [hx.2.2.2 k (by rw [← hx.1]; exact hk) e1 e2]; omega
theorem SolSt.moves (h : SolSt (augF n A) n m cols σ pv M d) (hall : ∀ c, c < n → c ∈ cols) (hB : d.natAbs ≤ 9007199254740992 ∧ ∀ q ∈ pv, ∀ j, (M q.1 j).natAbs ≤ 9007199254740992) {f : Nat} {x : List Int} (hf : f < n) (hfo : f ∉ colsP pv) (hx : MotOf n pv M d f x) : movesP A m n x ∧ 0 < getI x f :=
  ⟨⟨SolSt.motSized hB hx, fun _ hi => h.motion hall hf hfo hx hi⟩, by rw [hx.2.1]; exact sg_pos h.bar.ne⟩

theorem SolSt.provesJam (h : SolSt (augF n A) n m cols σ pv M d) (hall : ∀ c, c < n → c ∈ cols) (hB : d.natAbs ≤ 9007199254740992 ∧ ∀ q ∈ pv, ∀ j, (M q.1 j).natAbs ≤ 9007199254740992) {c1 : List Nat} {i : Nat} (hc : cols = c1 ++ [i]) (hn : cols.Nodup) (hi : i < n) {q : Nat × Nat} (hq : q ∈ pv) (hqi : q.2 = i) {F : List Int} (hF : FacOf n m M d q F) : jamPr A m n i F [] [] := by
  refine ⟨h.facSized hB hq hF, rfl, rfl, fun k hk hki => ?_, ?_⟩
  · rw [h.factor hq hF hk, h.row_last hall hc hn hq hqi k hk, if_neg hki, Int.mul_zero]
  · rw [h.factor hq hF hi, h.row_last hall hc hn hq hqi i hi, if_pos rfl]
    exact sg_pos h.bar.ne

theorem SolSt.provesLoose (h : SolSt (augF n A) n m cols σ pv M d) (hall : ∀ c, c < n → c ∈ cols) (hB : d.natAbs ≤ 9007199254740992 ∧ ∀ q ∈ pv, ∀ j, (M q.1 j).natAbs ≤ 9007199254740992) {i o : Nat} (hi : i < n) (ho : o < n) (hio : i ≠ o) (hni : i ∉ colsP pv) (hno : o ∉ colsP pv) {x y : List Int} (hx : MotOf n pv M d i x) (hy : MotOf n pv M d o y) : loosePr A m n i o [] x y := by
  obtain ⟨m1, p1⟩ := h.moves hall hB hi hni hx
  obtain ⟨m2, p2⟩ := h.moves hall hB ho hno hy
  exact ⟨rfl, m1, m2, p1, hy.2.2.2 i hi hio hni, p2⟩

theorem SolSt.provesSame (h : SolSt (augF n A) n m cols σ pv M d) (hall : ∀ c, c < n → c ∈ cols) (hB : d.natAbs ≤ 9007199254740992 ∧ ∀ q ∈ pv, ∀ j, (M q.1 j).natAbs ≤ 9007199254740992) {i : Nat} (hi : i < n) (hni : i ∉ colsP pv) {x : List Int} (hx : MotOf n pv M d i x) : ratPr A m n i i 1 1 (List.replicate m 0) x [] := by
  obtain ⟨m1, p1⟩ := h.moves hall hB hi hni hx
  have hz : ∀ y, getI (List.replicate m 0) y = 0 := fun y => by
    unfold getI
    rw [List.getElem?_replicate]
    split <;> rfl
  refine ⟨⟨List.length_replicate, fun y hy => by rw [(List.mem_replicate.1 hy).2]; omega⟩, rfl, m1, p1, by omega, rfl, ?_⟩
  rw [if_pos rfl]
  refine ⟨fun k _ => ?_, rfl, rfl⟩
  rw [sumT_S]
  exact S_zero fun y _ => by rw [hz, Int.zero_mul]

theorem SolSt.provesRatio (h : SolSt (augF n A) n m cols σ pv M d) (hall : ∀ c, c < n → c ∈ cols) (hB : d.natAbs ≤ 9007199254740992 ∧ ∀ q ∈ pv, ∀ j, (M q.1 j).natAbs ≤ 9007199254740992) {c1 : List Nat} {i o : Nat} (hc : cols = c1 ++ [o, i]) (hn : cols.Nodup) (hi : i < n) (ho : o < n) (hio : i ≠ o) (hni : i ∉ colsP pv) {q : Nat × Nat} (hq : q ∈ pv) (hqo : q.2 = o) {F x : List Int} (hF : FacOf n m M d q F) (hx : MotOf n pv M d i x) :
    ratPr A m n i o ((-M q.1 i).tdiv (sg d * (Int.gcd (M q.1 i) d : Int))) (d.tdiv (sg d * (Int.gcd (M q.1 i) d : Int))) F x [] := by
  obtain ⟨m1, p1⟩ := h.moves hall hB hi hni hx
  have hd := h.bar.ne
  have hso : sumT F A m o = sg d * d := by
    rw [h.factor hq hF ho, ← hqo, h.red' hq hq, if_pos rfl]
  have hsi : sumT F A m i = sg d * M q.1 i := h.factor hq hF hi
  have hoth : ∀ k, k < n → k ≠ i → k ≠ o → sumT F A m k = 0 := fun k hk h1 h2 => by
    rw [h.factor hq hF hk, h.row_before hall hc hn hq hqo k hk h1, if_neg h2, Int.mul_zero]
  generalize M q.1 i = r at *
  have hg0 : (Int.gcd r d : Int) ≠ 0 := by
    have : Int.gcd r d ≠ 0 := fun e => hd (Int.gcd_eq_zero_iff.1 e).2
    omega
  have hgp : 0 < (Int.gcd r d : Int) := by omega
  obtain ⟨u, hu⟩ := Int.gcd_dvd_left r d
  obtain ⟨v, hv⟩ := Int.gcd_dvd_right r d
  generalize hgg : (Int.gcd r d : Int) = g at *
  have huv : Int.gcd u v = 1 := by
    have h1 : Int.gcd (g * u) (g * v) = g.natAbs * Int.gcd u v := Int.gcd_mul_left g u v
    rw [← hu, ← hv] at h1
    have h2 : (Int.gcd r d) = g.natAbs := by omega
    rw [h2] at h1
    have h3 : 0 < g.natAbs := by omega
    have h4 : g.natAbs * 1 = g.natAbs * Int.gcd u v := by omega
    exact (Nat.eq_of_mul_eq_mul_left h3 h4).symm
  have hgs : sg d * g ≠ 0 := by rcases sg_cases d with e | e <;> rw [e] <;> omega
  have hss : sg d * sg d = 1 := by rcases sg_cases d with e | e <;> rw [e] <;> rfl
  have hden : d.tdiv (sg d * g) = sg d * v := by
    have : d = (sg d * v) * (sg d * g) := by
      conv => lhs; rw [hv]
      rw [mul4, hss, Int.one_mul, Int.mul_comm]
    conv => lhs; rw [this]
    rw [← this]
    conv => lhs; arg 1; rw [this]
    exact Int.mul_tdiv_cancel _ hgs
  have hnum : (-r).tdiv (sg d * g) = -(sg d * u) := by
    have : -r = (-(sg d * u)) * (sg d * g) := by
      conv => lhs; rw [hu]
      rw [Int.neg_mul, mul4, hss, Int.one_mul, Int.mul_comm u]
    rw [this]
    exact Int.mul_tdiv_cancel _ hgs
  rw [hden, hnum]
  have hvp : 0 < sg d * v := by
    have h1 := sg_pos hd
    have h2 : g * (sg d * v) = sg d * d := by rw [Int.mul_left_comm, ← hv]
    rw [← h2] at h1
    exact Int.pos_of_mul_pos_right h1 hgp
  have e1 : sumT F A m o = g * (sg d * v) := by rw [hso, Int.mul_left_comm, ← hv]
  have e2 : sumT F A m i = g * (sg d * u) := by rw [hsi, Int.mul_left_comm, ← hu]
  have e3 : (sumT F A m o).tdiv (sg d * v) = g := by rw [e1]; exact Int.mul_tdiv_cancel _ (by omega)
  refine ⟨h.facSized hB hq hF, rfl, m1, p1, by omega, ?_, ?_⟩
  · show (-(sg d * u)).natAbs.gcd (sg d * v).natAbs = 1
    have h1 : (-(sg d * u)).natAbs = u.natAbs := by rcases sg_cases d with e | e <;> rw [e] <;> omega
    have h2 : (sg d * v).natAbs = v.natAbs := by rcases sg_cases d with e | e <;> rw [e] <;> omega
    rw [h1, h2]
    exact huv
  · rw [if_neg hio, e3]
    refine ⟨hoth, ?_, by omega, ?_, ?_⟩
    · rw [e1]; exact Int.tmod_eq_zero_of_dvd ⟨g, Int.mul_comm _ _⟩
    · rw [e2]; exact Int.tmod_eq_zero_of_dvd ⟨_, rfl⟩
    · rw [e2, Int.mul_comm, Int.mul_tdiv_cancel _ hg0]
end
end Go.Proofs.Ytbclbcldplmppaa

/- Sums of equations: lists that loops fill; bounds. No program in sight but the table of types. -/
namespace Go.Proofs.Ytbclbcldplmppaa
open Go.RowKit

theorem NewInts.put {w w' : World} {g : Nat} {xs : List Int} (h : NewInts w w' g xs) (k : Nat) (v : Int) : NewInts w (w'.setCell ⟨g, k, none⟩ (vint v)) g (xs.set k v) := by
  refine ⟨h.1.setCell h.2.1 _, h.2.1, ?_⟩
  unfold World.setCell
  simp only [Array.getElem?_modify, if_true, h.2.2, Option.map_some]
  simp
theorem NewInts.frz {w w' : World} {g : Nat} {xs : List Int} (h : NewInts w w' g xs) (k : Nat) : w'.frozen? ⟨g, k, none⟩ = false := by simp [World.frozen?, h.2.2]

theorem heap_other {w : World} {p : Addr} {u : Value} {k : Nat} (h : ¬ p.block = k) : (w.setCell p u).heap[k]? = w.heap[k]? := by
  unfold World.setCell
  simp only [Array.getElem?_modify, if_neg h]

def outL (n : Nat) (f : Nat → Int) : List Int := (List.range n).map f
theorem outL_len (n : Nat) (f : Nat → Int) : (outL n f).length = n := by simp [outL]
theorem outL_get {n : Nat} {f : Nat → Int} {k : Nat} (h : k < n) : getI (outL n f) k = f k := by simp [outL, getI, h]
theorem outL_congr {n : Nat} {f g : Nat → Int} (h : ∀ k, k < n → f k = g k) : outL n f = outL n g := List.map_congr_left fun k hk => h k (List.mem_range.1 hk)
theorem outL_set {n : Nat} {f : Nat → Int} {k : Nat} {v : Int} : (outL n f).set k v = outL n fun j => if j = k then v else f j := by
  apply List.ext_getElem?
  intro j
  rw [List.getElem?_set]
  unfold outL
  by_cases hj : j < n
  · by_cases e : k = j
    · subst e; simp [hj]
    · rw [if_neg e]
      have e' : ¬ j = k := fun h => e h.symm
      simp [hj, e']
  · rw [List.getElem?_eq_none (l := List.map f (List.range n)) (by simp; omega), List.getElem?_eq_none (l := List.map _ (List.range n)) (by simp; omega)]
    simp only [List.length_map, List.length_range]
    split
    · rw [if_neg (by omega)]
    · rfl
theorem outL_zero (n : Nat) : outL n (fun _ => 0) = List.replicate n 0 := by
  apply List.ext_getElem?
  intro j
  unfold outL
  by_cases hj : j < n
  · simp [hj]
  · rw [List.getElem?_eq_none (by simp; omega), List.getElem?_eq_none (by simp; omega)]

/-- The sum of equations, where equation i has been added up to shaft k. -/
def accT (F : List Int) (L : Nat → Nat → Int) (i k j : Nat) : Int := if j < k then sumT F L (i + 1) j else sumT F L i j
theorem accT_zero (F : List Int) (L : Nat → Nat → Int) (i n : Nat) : outL n (accT F L i 0) = outL n (sumT F L i) := outL_congr fun j _ => if_neg (Nat.not_lt_zero j)
theorem accT_full (F : List Int) (L : Nat → Nat → Int) (i n : Nat) : outL n (accT F L i n) = outL n (sumT F L (i + 1)) := outL_congr fun _ hj => if_pos hj
theorem accT_at (F : List Int) (L : Nat → Nat → Int) (i k : Nat) : accT F L i k k = sumT F L i k := if_neg (Nat.lt_irrefl k)
theorem accT_step {F : List Int} {L : Nat → Nat → Int} {i k n : Nat} : (outL n (accT F L i k)).set k (sumT F L i k + getI F i * L i k) = outL n (accT F L i (k + 1)) := by
  rw [outL_set]
  refine outL_congr fun j _ => ?_
  unfold accT
  by_cases e : j = k
  · subst e; rw [if_pos rfl, if_pos (by omega)]; rfl
  · rw [if_neg e]
    have : j < k ↔ j < k + 1 := by omega
    simp only [this]

/-- The bounds of a sum. -/
def boundF (F : List Int) : Prop := ∀ y, (getI F y).natAbs ≤ 9007199254740992
def boundL (L : Nat → Nat → Int) (m n : Nat) : Prop := ∀ i, i < m → ∀ k, k < n → (L i k).natAbs ≤ 48
theorem sizedP.bound {l : List Int} {n : Nat} (h : sizedP l n) : boundF l := fun y => by
  by_cases hy : y < l.length
  · have := h.2 _ (List.getElem_mem hy)
    rw [getI_eq hy]
    omega
  · have : getI l y = 0 := by unfold getI; rw [List.getElem?_eq_none (by omega)]; rfl
    rw [this]; decide
theorem gearL_bound {S : Nat} {ms : List Msh} (ht : trainP S ms) : boundL (gearL ms S) ms.length S := fun i hi k _ => by
  unfold gearL
  rw [lineI_eq hi]
  exact facS_48 (ht.2.2.2 i hi) k
theorem mul_bound {a b : Int} (ha : a.natAbs ≤ 9007199254740992) (hb : b.natAbs ≤ 48) : (a * b).natAbs ≤ 432345564227567616 := by
  rw [Int.natAbs_mul]
  exact Nat.le_trans (Nat.mul_le_mul ha hb) (by decide)
theorem sumT_bound {F : List Int} {L : Nat → Nat → Int} {m n : Nat} (hF : boundF F) (hL : boundL L m n) {k : Nat} (hk : k < n) : ∀ {i}, i ≤ m → (sumT F L i k).natAbs ≤ i * 432345564227567616
  | 0, _ => by simp [sumT]
  | i + 1, hi => by
    have h1 := sumT_bound hF hL hk (i := i) (by omega)
    have h2 := mul_bound (hF i) (hL i (by omega) k hk)
    unfold sumT
    omega
theorem dotT_bound {x : List Int} {c : Nat → Int} (hx : boundF x) : ∀ {k}, (∀ j, j < k → (c j).natAbs ≤ 48) → (dotT x c k).natAbs ≤ k * 432345564227567616
  | 0, _ => by simp [dotT]
  | k + 1, h => by
    have h1 := dotT_bound hx (k := k) fun j hj => h j (by omega)
    have h2 := mul_bound (hx k) (h k (by omega))
    unfold dotT
    omega

/-- What 'sum' hands back. -/
def SumRes (w : World) (l : List Int) (e : Ending) (w' : World) : Prop := ∃ g, e = .returned (sl g l.length) ∧ NewInts w w' g l
end Go.Proofs.Ytbclbcldplmppaa

/- The sum of equations, by the code. -/
namespace Go.Proofs.Ytbclbcldplmppaa
open Go.RowKit

set_option maxRecDepth 100000 in
set_option maxHeartbeats 4000000 in
theorem sum_any (A : Option Addr) (c S : Nat) (ms : List Msh) (B : Option Addr) (d : Nat) (F : List Int) (w : World) (hA : MRow w A ms) (ht : trainP S ms) (hB : Ints w B F) (hF : sizedP F ms.length) :
    Calls Try.prog 85 #[.agg #[.int .i64 S, .slice A ms.length c], .slice B F.length d] w (SumRes w (outL S (sumT F (gearL ms S) ms.length))) := by
  have ha := fun k (hk : k < ms.length) => hA.at_ hk
  have ce := fun (k : Nat) (hk : k < ms.length) (w' : World) => equation_any ms[k] S w' (ht.2.2.2 k hk) (by have := ht.2.1; omega)
  have hl16 := ht.2.2.1
  have h8 : S ≤ 8 := by have := ht.2.1; omega
  have hfl := fun (k : Nat) (hk : k < ms.length) => facS_length ms[k] S
  have hFl : F.length = ms.length := hF.1
  have hb1 := fun (i k : Nat) (hi : i < ms.length) (hk : k < S) => mul_bound (hF.bound i) (gearL_bound ht i hi k hk)
  have hb2 := fun (i k : Nat) (hi : i ≤ ms.length) (hk : k < S) => sumT_bound hF.bound (gearL_bound ht) hk hi
  have hgl := fun (i k : Nat) (hi : i < ms.length) => (show gearL ms S i k = getI (facS ms[i] S) k by unfold gearL; rw [lineI_eq hi])
  have hb := fun (i : Nat) (hi : i < ms.length) => hB.some_ (by rw [hFl]; omega)
  rw [hFl] at hb
  have Ha := Lib.hid ha
  have Ce := Lib.hid ce
  have Hfl := Lib.hid hfl
  have Hb1 := Lib.hid hb1
  have Hb2 := Lib.hid hb2
  have Hgl := Lib.hid hgl
  have Hb := Lib.hid hb
  rw [hFl]
  clear ha ce hfl hb1 hb2 hgl hb hA ht hB hF hFl
  generalize gearL ms S = L at *
  obtain ⟨m, hm⟩ : ∃ m, m = ms.length := ⟨_, rfl⟩
  rw [← hm] at hl16 ⊢
  have Hm := Lib.hid hm
  clear hm
  go_enter Try.func85, Try.ntmps85
  have hexb : Ext w (w.alloc (.cells #[.int .i64 S, .slice A m c] 41)) := by simp
  have hp0 : ∀ w', Ext (w.alloc (.cells #[.int .i64 S, .slice A m c] 41)) w' → w'.cell? ⟨w.heap.size, 0, none⟩ = some (.int .i64 S) := fun w' he => he.cell (by simp)
  have hp1 : ∀ w', Ext (w.alloc (.cells #[.int .i64 S, .slice A m c] 41)) w' → w'.cell? ⟨w.heap.size, 1, none⟩ = some (.slice A m c) := fun w' he => he.cell (by simp)
  generalize hwb : w.alloc (.cells #[.int .i64 S, .slice A m c] 41) = wb at *
  go_wp2_with (first
    | (refine own_make (w1 := wb) int_elem rfl _ _ rfl Try.underlying94 _ S rfl rfl (by omega) (by unfold maxLen; omega) (Ext.refl _) ?_; intro w2 hown hx2; rw [made_ints] at hown; have hnew := NewInts.of_own hown))
  have Hexb := Lib.hid hexb
  have Hp0 := Lib.hid hp0
  have Hstart := Lib.hid hnew
  have hx2' := hx2
  clear hexb hp0 hp1 hown hnew hwb hx2 hx2'
  generalize wb.heap.size = g0 at *
  generalize w.heap.size = bx at *
  go_loopw [16] (fun i wr => ∃ k : Nat, k ≤ m ∧ i = .int .i64 k ∧ NewInts wb wr g0 (outL S (sumT F L k))) (fun i _ => m - (intOf i).toNat)
  case atStart => exact ⟨0, by omega, rfl, by have h := Hstart.out; rw [← outL_zero] at h; exact h⟩
  case round =>
    clear Hstart
    obtain ⟨wo, rfl⟩ : ∃ wo : World, wo = wr := ⟨_, rfl⟩
    obtain ⟨i, hi, rfl, hacc⟩ := hrel
    have hexw := Hexb.out.trans hacc.ext
    have hp0 : ∀ w', Ext wo w' → w'.cell? ⟨bx, 0, none⟩ = some (.int .i64 S) := fun w' he => Hp0.out w' (hacc.ext.trans he)
    by_cases hlt : i < m
    · have hip : i < ms.length := by rw [← Hm.out]; exact hlt
      obtain ⟨ad, rfl, q0, q1, q2, q3, q4, q5⟩ := Ha.out i hip
      obtain ⟨bd, rfl, hFc⟩ := Hb.out i hip
      have q0 := q0 wo hexw
      have q1 := q1 wo hexw
      have q2 := q2 wo hexw
      have q3 := q3 wo hexw
      have q4 := q4 wo hexw
      have q5 := q5 wo hexw
      have hFi := fun w' (he : Ext w w') => hFc i hip w' he
      have hce := Ce.out i hip
      have hfl := Hfl.out i hip
      have hb1 := fun k hk => Hb1.out i k hip hk
      have hb2 := fun k hk => Hb2.out i k (by omega) hk
      have hb3 := fun k hk => Hb2.out (i + 1) k (by omega) hk
      have hgl := fun k => Hgl.out i k hip
      have hki : (i : Int) < (m : Int) := by omega
      have HFi := Lib.hid hFi
      have Hce := Lib.hid hce
      have Hfl' := Lib.hid hfl
      have B1 := Lib.hid hb1
      have B2 := Lib.hid hb2
      have B3 := Lib.hid hb3
      have Hgl' := Lib.hid hgl
      have Hacc := Lib.hid hacc
      clear hce hfl hb1 hb2 hb3 hgl hFi hFc hacc Ha Ce Hfl Hb1 Hb2 Hgl Hb
      generalize facS ms[i] S = l at *
      generalize ms[i] = x at *
      obtain ⟨kind, xa, xb, xc, xn, xm⟩ := x
      simp only [Msh.val] at *
      have hx00 : Ext wo (wo.alloc (.cells #[.int .u8 kind, .int .i64 xa, .int .i64 xb, .int .i64 xc, .int .i64 xn, .int .i64 xm] 57)) := by simp
      go_wp2_with (first
        | (go_at_call 62; refine (Hce.out _).mono ?_; rintro e w3 ⟨gf, rfl, hof⟩; have hnf := NewInts.of_own hof))
      have hll : l.length = S := Hfl'.out
      have hxo3 : Ext wo w3 := hx00.trans hnf.ext
      have hgf : g0 < gf := by
        have h1 := Hacc.out.lt
        have h2 := hx00.le
        have h3 := hnf.2.1
        omega
      have hacc3 := Hacc.out.later hxo3
      have hf3 := hnf.2.2
      have Hacc3 := Lib.hid hacc3
      have Hf3 := Lib.hid hf3
      have Hll := Lib.hid hll
      clear hnf hof hx00 hxo3 hacc3 hf3 Hacc q0 q1 q2 q3 q4 q5 hp0 Hce
      simp only [hll]
      clear hll
      go_loopw [26] (fun k wr => ∃ j : Nat, j ≤ S ∧ k = .int .i64 j ∧ NewInts wb wr g0 (outL S (accT F L i j)) ∧ wr.heap[gf]? = some (.cells (l.map vint).toArray 3)) (fun k _ => S - (intOf k).toNat)
      case atStart => exact ⟨0, by omega, rfl, by rw [accT_zero]; exact Hacc3.out, Hf3.out⟩
      case round =>
        clear Hacc3 Hf3
        obtain ⟨k, hk, rfl, hacc, hf⟩ := hrel
        by_cases hlk : k < S
        · have hcf : wr.cell? ⟨gf, k, none⟩ = some (vint (getI l k)) := by
            rw [cell_heap hf, List.getElem?_toArray, List.getElem?_map]
            have hkl : k < l.length := by rw [Hll.out]; exact hlk
            rw [getI_eq hkl]
            simp [hkl]
          have hca : ∀ w', Ext wr w' → w'.cell? ⟨g0, k, none⟩ = some (vint (sumT F L i k)) := fun w' he => by
            have := hacc.cell (k := k) (by rw [outL_len]; exact hlk)
            rw [outL_get hlk, accT_at] at this
            exact he.cell this
          have hfa : ∀ w', Ext wr w' → w'.frozen? ⟨g0, k, none⟩ = false := fun w' he => (hacc.later he).frz k
          have hcF : ∀ w', Ext wr w' → w'.cell? (bd.add i) = some (vint (getI F i)) := fun w' he => HFi.out w' (Hexb.out.trans (hacc.ext.trans he))
          have c1 := B1.out k hlk
          have c2 := B2.out k hlk
          have c3 := B3.out k hlk
          have hst := accT_step (F := F) (L := L) (i := i) (k := k) (n := S)
          have hsum : sumT F L (i + 1) k = sumT F L i k + getI F i * L i k := rfl
          have hL := Hgl'.out k
          rw [← hL] at hcf
          rw [hsum] at c3
          have em : IntKind.i64.wrap (getI F i * L i k) = getI F i * L i k := by rw [IntKind.wrap_i64]; omega
          have ea : IntKind.i64.wrap (sumT F L i k + getI F i * L i k) = sumT F L i k + getI F i * L i k := by rw [IntKind.wrap_i64]; omega
          have Hst := Lib.hid hst
          have Hac := Lib.hid hacc
          have Hhf := Lib.hid hf
          have Hlt := Lib.hid hgf
          clear c1 c2 c3 hst hsum hL hacc hf hgf
          generalize getI F i = y at *
          generalize L i k = z at *
          generalize sumT F L i k = a at *
          have hki2 : (k : Int) < (S : Int) := by omega
          go_wp2
          refine Cf.wp_region_calm (p := Cf.extPre) (fr := fun _ => false) 12 (fun _ _ _ _ => True) (fun _ _ _ _ _ _ h => h) (by kernel_rfl) (by kernel_rfl) ?_
          simp only [List.take_succ_cons, List.take_zero, List.drop_succ_cons, List.drop_zero]
          refine Cf.calm_quiet Cf.calm_mono_final wr (fun _ h => h) 12 (by kernel_rfl) ?_
          simp only [List.take_succ_cons, List.take_zero, List.drop_succ_cons, List.drop_zero]
          repeat (go_big_quiet_step (fail))
          refine wpQuiet_nil ?_
          refine Cf.calm_nil fun w4 he4 hF => ?_
          clear hF
          have hca4 := hca w4 he4
          have hfa4 := hfa w4 he4
          go_wp2
          go_roundw
          case rel => exact ⟨k + 1, by omega, by go_num, by rw [← Hst.out]; exact (Hac.out.later he4).put k _, by rw [heap_other (by simp; have := Hlt.out; omega)]; exact he4.heap Hhf.out⟩
          case measure => simp [intOf]; omega
        · obtain rfl : k = S := by omega
          have hacc' := hacc
          rw [accT_full] at hacc'
          have Hac := Lib.hid hacc'
          clear hacc hacc' hf
          go_wp2
          go_roundw
          case rel => exact ⟨i + 1, by omega, by go_num, Hac.out⟩
          case measure => simp [intOf]; omega
    · obtain rfl : i = m := by omega
      have Hac := Lib.hid hacc
      clear hacc Ha Ce Hfl Hb1 Hb2 Hgl Hb
      go_wp2
      go_ret
      exact ⟨g0, by rw [outL_len]; rfl, (Hac.out.since Hexb.out)⟩
end Go.Proofs.Ytbclbcldplmppaa

/- Whether a list's numbers fit, and whether it is a motion: by the code. -/
namespace Go.Proofs.Ytbclbcldplmppaa
open Go.RowKit

def fitB (x : Int) : Bool := decide (-9007199254740992 ≤ x ∧ x ≤ 9007199254740992)
def fitsP (l : List Int) : Prop := ∀ k, k < l.length → fitB (getI l k) = true
instance (l : List Int) : Decidable (fitsP l) := by unfold fitsP; infer_instance
theorem sizedP_iff {l : List Int} {n : Nat} : sizedP l n ↔ l.length = n ∧ ∀ k, k < l.length → fitB (getI l k) = true := by
  unfold sizedP fitB
  constructor
  · rintro ⟨h1, h2⟩
    refine ⟨h1, fun k hk => decide_eq_true ?_⟩
    rw [getI_eq hk]
    exact h2 _ (List.getElem_mem hk)
  · rintro ⟨h1, h2⟩
    refine ⟨h1, fun x hx => ?_⟩
    obtain ⟨k, hk, rfl⟩ := List.getElem_of_mem hx
    have := of_decide_eq_true (h2 k hk)
    rwa [getI_eq hk] at this

set_option maxRecDepth 100000 in
theorem fit_any (x : Int) (w : World) : Calls Try.prog 103 #[.int .i64 x] w fun e w' => e = .returned (.bool (!fitB x)) ∧ w = w' := by
  have h : fitB x = decide (-9007199254740992 ≤ x ∧ x ≤ 9007199254740992) := rfl
  generalize fitB x = b at *
  by_cases h1 : x < -9007199254740992
  · have hb : b = false := by rw [h]; simp; omega
    subst hb
    clear h
    go_enter Try.func103, Try.ntmps103
    go_wp2
    go_ret
    exact ⟨rfl, rfl⟩
  · by_cases h2 : 9007199254740992 < x
    · have hb : b = false := by rw [h]; simp; omega
      subst hb
      clear h
      go_enter Try.func103, Try.ntmps103
      go_wp2
      go_ret
      exact ⟨rfl, rfl⟩
    · have hb : b = true := by rw [h]; simp; omega
      subst hb
      clear h
      go_enter Try.func103, Try.ntmps103
      go_wp2
      go_ret
      exact ⟨rfl, rfl⟩

set_option maxRecDepth 100000 in
set_option maxHeartbeats 1000000 in
theorem indexFunc_any (B : Option Addr) (d : Nat) (l : List Int) (w : World) (hB : Ints w B l) (hl : l.length ≤ 1000000) :
    Calls Try.prog 112 #[.slice B l.length d, .func (.func 103) #[] #[]] w fun e w' => ∃ r : Int, e = .returned (.int .i64 r) ∧ (0 ≤ r ↔ ¬ fitsP l) ∧ w = w' := by
  have hb := fun (i : Nat) (hi : i < l.length) => hB.some_ (by omega)
  have hgood : (∀ k, k < l.length → fitB (getI l k) = true) → ((0 : Int) ≤ -1 ↔ ¬ fitsP l) := fun h => ⟨fun h' => absurd h' (by decide), fun h' => absurd h h'⟩
  have hbad : ∀ k : Nat, k < l.length → fitB (getI l k) = false → ((0 : Int) ≤ (k : Int) ↔ ¬ fitsP l) := fun k hk h => ⟨fun _ h' => (by rw [h' k hk] at h; cases h), fun _ => (by omega)⟩
  have Hb := Lib.hid hb
  have Hgood := Lib.hid hgood
  have Hbad := Lib.hid hbad
  clear hb hgood hbad hB
  generalize fitsP l = Q at *
  generalize l.length = n at *
  go_enter Try.func112, Try.ntmps112
  go_wp2
  go_loop [8] (fun i => ∃ k : Nat, k ≤ n ∧ i = .int .i64 k ∧ ∀ j, j < k → fitB (getI l j) = true) (fun i => n - (intOf i).toNat)
  case atStart => exact ⟨0, by omega, rfl, fun j hj => by omega⟩
  case round =>
    obtain ⟨k, hk, rfl, hall⟩ := hrel
    have Hall := Lib.hid hall
    clear hall
    by_cases hlt : k < n
    · obtain ⟨bd, rfl, hc0⟩ := Hb.out k hlt
      have hc := hc0 k hlt w (Ext.refl w)
      clear hc0
      have hbad := Hbad.out k hlt
      have hst : fitB (getI l k) = true → ∀ j, j < k + 1 → fitB (getI l j) = true := fun h j hj => by
        by_cases e : j = k
        · subst e; exact h
        · exact Hall.out j (by omega)
      have Hst := Lib.hid hst
      have Hbad' := Lib.hid hbad
      have CF := Lib.hid (fit_any (getI l k) w)
      clear hst hbad Hb Hgood Hbad
      generalize getI l k = y at *
      generalize fitB y = b at *
      have hki : (k : Int) < (n : Int) := by omega
      cases b
      · go_wp2_with (first
          | (go_at_call 103; (with_reducible refine CF.out.mono ?_); rintro e w1 ⟨rfl, rfl⟩; simp only [Bool.not_false]))
        go_ret
        exact ⟨k, rfl, Hbad'.out (by trivial), rfl⟩
      · go_wp2_with (first
          | (go_at_call 103; (with_reducible refine CF.out.mono ?_); rintro e w1 ⟨rfl, rfl⟩; simp only [Bool.not_true]))
        go_round
        case rel => exact ⟨k + 1, by omega, by go_num, Hst.out (by trivial)⟩
        case measure => simp [intOf]; omega
    · obtain rfl : k = n := by omega
      clear Hb
      go_wp2
      go_ret
      exact ⟨-1, rfl, Hgood.out Hall.out, rfl⟩


set_option maxRecDepth 100000 in
theorem containsFunc_any (B : Option Addr) (d : Nat) (l : List Int) (w : World) (hB : Ints w B l) (hl : l.length ≤ 1000000) :
    Calls Try.prog 102 #[.slice B l.length d, .func (.func 103) #[] #[]] w fun e w' => e = .returned (.bool (!decide (fitsP l))) ∧ w = w' := by
  have Ci := Lib.hid (indexFunc_any B d l w hB hl)
  have hq : fitsP l ↔ decide (fitsP l) = true := by simp
  have Hq := Lib.hid hq
  clear hq hB
  generalize decide (fitsP l) = b at *
  generalize fitsP l = Q at *
  generalize l.length = n at *
  go_enter Try.func102, Try.ntmps102
  go_wp2_with (first
    | (go_at_call 112; refine Ci.out.mono ?_; rintro e w1 ⟨r, rfl, hr, rfl⟩))
  go_ret
  refine ⟨?_, rfl⟩
  have : decide (0 ≤ r) = !b := by
    rw [Bool.eq_iff_iff, decide_eq_true_iff, hr, Hq.out]
    simp
  rw [← this]
  rfl

set_option maxRecDepth 100000 in
set_option maxHeartbeats 1000000 in
theorem sized_any (B : Option Addr) (d : Nat) (l : List Int) (n : Nat) (w : World) (hB : Ints w B l) (hl : l.length ≤ 1000000) :
    Calls Try.prog 84 #[.slice B l.length d, .int .i64 n] w fun e w' => e = .returned (.bool (decide (sizedP l n))) ∧ w = w' := by
  have Ci := Lib.hid (containsFunc_any B d l w hB hl)
  by_cases h : l.length = n
  · have hs : decide (sizedP l n) = decide (fitsP l) := by
      rw [decide_eq_decide, sizedP_iff]
      exact ⟨fun h' => h'.2, fun h' => ⟨h, h'⟩⟩
    rw [hs]
    clear hs hB
    subst h
    generalize decide (fitsP l) = b at *
    generalize l.length = q at *
    cases b
    all_goals
      go_enter Try.func84, Try.ntmps84
      go_wp2_with (first
        | (go_at_call 102; refine Ci.out.mono ?_; rintro e w1 ⟨rfl, rfl⟩; simp only [Bool.not_true, Bool.not_false]))
      go_ret
      exact ⟨rfl, rfl⟩
  · have hs : decide (sizedP l n) = false := decide_eq_false fun h' => h h'.1
    rw [hs]
    clear hs hB Ci
    have hi : ¬ ((l.length : Int) = (n : Int)) := by omega
    generalize l.length = q at *
    go_enter Try.func84, Try.ntmps84
    go_wp2
    go_ret
    exact ⟨rfl, rfl⟩

set_option maxRecDepth 100000 in
set_option maxHeartbeats 4000000 in
theorem moves_any (A : Option Addr) (c S : Nat) (ms : List Msh) (B : Option Addr) (d : Nat) (x : List Int) (w : World) (hA : MRow w A ms) (ht : trainP S ms) (hB : Ints w B x) (hxl : x.length ≤ 1000000) :
    Calls Try.prog 88 #[.agg #[.int .i64 S, .slice A ms.length c], .slice B x.length d] w fun e w' => e = .returned (.bool (decide (movesP (gearL ms S) ms.length S x))) ∧ Ext w w' := by
  have cs := fun (w' : World) (he : Ext w w') => sized_any B d x S w' (hB.ext he) hxl
  by_cases hsz : sizedP x S
  · have e1 : decide (sizedP x S) = true := decide_eq_true hsz
    rw [e1] at cs
    have ha := fun k (hk : k < ms.length) => hA.at_ hk
    have ce := fun (k : Nat) (hk : k < ms.length) (w' : World) => equation_any ms[k] S w' (ht.2.2.2 k hk) (by have := ht.2.1; omega)
    have hl16 := ht.2.2.1
    have h8 : S ≤ 8 := by have := ht.2.1; omega
    have hfl := fun (k : Nat) (hk : k < ms.length) => facS_length ms[k] S
    have hgl := fun (i k : Nat) (hi : i < ms.length) => (show gearL ms S i k = getI (facS ms[i] S) k by unfold gearL; rw [lineI_eq hi])
    have hb1 := fun (i k : Nat) (hi : i < ms.length) (hk : k < S) => mul_bound (hsz.bound k) (gearL_bound ht i hi k hk)
    have hb2 := fun (i k : Nat) (hi : i < ms.length) (hk : k ≤ S) => dotT_bound (c := gearL ms S i) hsz.bound (k := k) fun j hj => gearL_bound ht i hi j (by omega)
    have hb := fun (k : Nat) (hk : k < S) => hB.some_ (by rw [hsz.1]; omega)
    have hxS : x.length = S := hsz.1
    have hbad : ∀ i, i < ms.length → dotT x (gearL ms S i) S ≠ 0 → false = decide (movesP (gearL ms S) ms.length S x) := fun i hi h => (decide_eq_false fun h' => h (h'.2 i hi)).symm
    have hgood : (∀ i, i < ms.length → dotT x (gearL ms S i) S = 0) → true = decide (movesP (gearL ms S) ms.length S x) := fun h => (decide_eq_true ⟨hsz, h⟩).symm
    rw [hxS] at hb cs ⊢
    have Ha := Lib.hid ha
    have Ce := Lib.hid ce
    have Hfl := Lib.hid hfl
    have Hgl := Lib.hid hgl
    have Hb1 := Lib.hid hb1
    have Hb2 := Lib.hid hb2
    have Hb := Lib.hid hb
    have Hbad := Lib.hid hbad
    have Hgood := Lib.hid hgood
    have Cs := Lib.hid cs
    clear ha ce hfl hgl hb1 hb2 hb hbad hgood cs e1 hA ht hB hsz hxS hxl
    generalize decide (movesP (gearL ms S) ms.length S x) = res at *
    generalize gearL ms S = L at *
    obtain ⟨m, hm⟩ : ∃ m, m = ms.length := ⟨_, rfl⟩
    rw [← hm] at hl16 ⊢
    have Hm := Lib.hid hm
    clear hm
    go_enter Try.func88, Try.ntmps88
    have hexb : Ext w (w.alloc (.cells #[.int .i64 S, .slice A m c] 41)) := by simp
    have hp0 : ∀ w', Ext (w.alloc (.cells #[.int .i64 S, .slice A m c] 41)) w' → w'.cell? ⟨w.heap.size, 0, none⟩ = some (.int .i64 S) := fun w' he => he.cell (by simp)
    have hp1 : ∀ w', Ext (w.alloc (.cells #[.int .i64 S, .slice A m c] 41)) w' → w'.cell? ⟨w.heap.size, 1, none⟩ = some (.slice A m c) := fun w' he => he.cell (by simp)
    go_wp2_with (first
      | (go_at_call 84; refine (Cs.out _ (by simp)).mono ?_; rintro e w1 ⟨rfl, rfl⟩))
    generalize w.alloc (.cells #[.int .i64 S, .slice A m c] 41) = wb at *
    generalize w.heap.size = bx at *
    have Hexb := Lib.hid hexb
    have Hp0 := Lib.hid hp0
    clear hexb hp0 hp1 Cs
    go_loopw [18] (fun i wr => ∃ k : Nat, k ≤ m ∧ i = .int .i64 k ∧ Ext wb wr ∧ ∀ j, j < k → dotT x (L j) S = 0) (fun i _ => m - (intOf i).toNat)
    case atStart => exact ⟨0, by omega, rfl, Ext.refl _, fun j hj => by omega⟩
    case round =>
      obtain ⟨wo, rfl⟩ : ∃ wo : World, wo = wr := ⟨_, rfl⟩
      obtain ⟨i, hi, rfl, hex, hall⟩ := hrel
      have Hall := Lib.hid hall
      clear hall
      have hexw := Hexb.out.trans hex
      have hp0 : ∀ w', Ext wo w' → w'.cell? ⟨bx, 0, none⟩ = some (.int .i64 S) := fun w' he => Hp0.out w' (hex.trans he)
      by_cases hlt : i < m
      · have hip : i < ms.length := by rw [← Hm.out]; exact hlt
        obtain ⟨ad, rfl, q0, q1, q2, q3, q4, q5⟩ := Ha.out i hip
        have q0 := q0 wo hexw
        have q1 := q1 wo hexw
        have q2 := q2 wo hexw
        have q3 := q3 wo hexw
        have q4 := q4 wo hexw
        have q5 := q5 wo hexw
        have hce := Ce.out i hip
        have hfl := Hfl.out i hip
        have hb1 := fun k hk => Hb1.out i k hip hk
        have hb2 := fun k hk => Hb2.out i k hip hk
        have hgl := fun k => Hgl.out i k hip
        have hbad := Hbad.out i hip
        have hst : dotT x (L i) S = 0 → ∀ j, j < i + 1 → dotT x (L j) S = 0 := fun h j hj => by
          by_cases e : j = i
          · subst e; exact h
          · exact Hall.out j (by omega)
        have hki : (i : Int) < (m : Int) := by omega
        have Hce := Lib.hid hce
        have Hfl' := Lib.hid hfl
        have B1 := Lib.hid hb1
        have B2 := Lib.hid hb2
        have Hgl' := Lib.hid hgl
        have Hbad' := Lib.hid hbad
        have Hst := Lib.hid hst
        clear hce hfl hb1 hb2 hgl hbad hst Ha Ce Hfl Hb1 Hb2 Hgl Hbad Hgood
        generalize facS ms[i] S = l at *
        generalize ms[i] = y at *
        obtain ⟨kind, xa, xb, xc, xn, xm⟩ := y
        simp only [Msh.val] at *
        have hx00 : Ext wo (wo.alloc (.cells #[.int .u8 kind, .int .i64 xa, .int .i64 xb, .int .i64 xc, .int .i64 xn, .int .i64 xm] 57)) := by simp
        go_wp2_with (first
          | (go_at_call 62; refine (Hce.out _).mono ?_; rintro e w3 ⟨gf, rfl, hof⟩; have hnf := NewInts.of_own hof))
        have hll : l.length = S := Hfl'.out
        have hxo3 : Ext wo w3 := hx00.trans hnf.ext
        have Hf3 := Lib.hid hnf.2.2
        have Hx3 := Lib.hid (hex.trans hxo3)
        have Hxw3 := Lib.hid (hexw.trans hxo3)
        have Hll := Lib.hid hll
        clear hnf hof hx00 hxo3 q0 q1 q2 q3 q4 q5 hp0 Hce hex hexw
        simp only [hll]
        clear hll
        go_loop [27, 7] (fun k n => ∃ j : Nat, j ≤ S ∧ k = .int .i64 j ∧ n = .int .i64 (dotT x (L i) j)) (fun k _ => S - (intOf k).toNat)
        case atStart => exact ⟨0, by omega, rfl, rfl⟩
        case round =>
          obtain ⟨k, hk, rfl, rfl⟩ := hrel
          by_cases hlk : k < S
          · obtain ⟨bd, rfl, hxc⟩ := Hb.out k hlk
            have hcf : w3.cell? ⟨gf, k, none⟩ = some (vint (getI l k)) := by
              rw [cell_heap Hf3.out, List.getElem?_toArray, List.getElem?_map]
              have hkl : k < l.length := by rw [Hll.out]; exact hlk
              rw [getI_eq hkl]
              simp [hkl]
            have hcx := hxc k hlk w3 Hxw3.out
            have c1 := B1.out k hlk
            have c2 := B2.out k (by omega)
            have c3 := B2.out (k + 1) (by omega)
            have hsum : dotT x (L i) (k + 1) = dotT x (L i) k + getI x k * L i k := rfl
            have hL := Hgl'.out k
            rw [← hL] at hcf
            have Hsum := Lib.hid hsum
            rw [hsum] at c3
            have em : IntKind.i64.wrap (getI x k * L i k) = getI x k * L i k := by rw [IntKind.wrap_i64]; omega
            have ea : IntKind.i64.wrap (dotT x (L i) k + getI x k * L i k) = dotT x (L i) k + getI x k * L i k := by rw [IntKind.wrap_i64]; omega
            have hki2 : (k : Int) < (S : Int) := by omega
            clear c1 c2 c3 hsum hL hxc Hb
            generalize getI x k = y at *
            generalize L i k = z at *
            generalize dotT x (L i) k = a at *
            go_wp2
            go_round
            case rel => exact ⟨k + 1, by omega, by go_num, by rw [Hsum.out]⟩
            case measure => simp [intOf]; omega
          · obtain rfl : k = S := by omega
            clear Hb
            generalize dotT x (L i) k = v at *
            by_cases hv : v = 0
            · subst hv
              go_wp2
              go_roundw
              case rel => exact ⟨i + 1, by omega, by go_num, Hx3.out, Hst.out rfl⟩
              case measure => simp [intOf]; omega
            · have hv' : (v == 0) = false := by simpa using hv
              go_wp2
              go_ret
              exact ⟨ret_b (Hbad'.out hv), Hxw3.out⟩
      · obtain rfl : i = m := by omega
        have Hg := Lib.hid (Hgood.out fun j hj => Hall.out j (by rw [Hm.out]; exact hj))
        clear Ha Ce Hfl Hb1 Hb2 Hgl Hb Hbad Hgood
        go_wp2
        go_ret
        exact ⟨ret_b Hg.out, hexw⟩
  · have e1 : decide (sizedP x S) = false := decide_eq_false hsz
    have e2 : decide (movesP (gearL ms S) ms.length S x) = false := decide_eq_false fun h => hsz h.1
    rw [e1] at cs
    rw [e2]
    have Cs := Lib.hid cs
    clear cs e1 e2 hsz hA hB ht
    generalize ms.length = m at *
    generalize x.length = q at *
    go_enter Try.func88, Try.ntmps88
    go_wp2_with (first
      | (go_at_call 84; refine (Cs.out _ (by simp)).mono ?_; rintro e w1 ⟨rfl, rfl⟩))
    go_ret
    exact ⟨rfl, by simp⟩
end Go.Proofs.Ytbclbcldplmppaa

/- The reference's Jammed. -/
namespace Go.Proofs.Ytbclbcldplmppaa
open Go.RowKit

noncomputable def jamB (m n : Nat) (L : Nat → Nat → Int) (i : Nat) : Bool := rkF (m + 1) n (snocF m L (eU i)) == rkF m n L

theorem LMat.lrow' {b w : World} {A : Option Addr} {k c S : Nat} {gs : List Nat} {ms : List Msh} (h : LMat b w (.slice A k c) S gs (gearLs ms S)) : LRow w A S ms.length (gearL ms S) := by
  have := h.lrow
  rw [gearLs_len] at this
  refine this.congr fun k hk j hj => ?_
  have hk' : k < (gearLs ms S).length := by rw [gearLs_len]; exact hk
  simp only [List.getD_eq_getElem?_getD, List.getElem?_eq_getElem hk', Option.getD_some]
  rw [gearLs_get]
  rfl
theorem app_lrow_gear {b w0 w : World} {v v' : Value} {S i m : Nat} {gs : List Nat} {ms : List Msh} (hm : LMat b w0 v S gs (gearLs ms S)) (hn : m = ms.length) (hR : ApR w0 v m S (slL S gs) (unitL S i) b.heap.size w0 w) (hT : AppT w0 v m S (slL S gs) (unitL S i) v' w) :
    ∃ A c, v' = .slice A (m + 1) c ∧ LRow w A S (m + 1) (snocF m (gearL ms S) (eU i)) := by
  rw [hn, ← gearLs_len ms S] at hR hT
  subst hn
  have hb : b.heap.size = b.heap.size := rfl
  obtain ⟨A, c, e, h⟩ := hT.lrow hm hb (unitL_length S i) hR
  rw [gearLs_len] at e h
  refine ⟨A, c, e, h.congr fun k hk j hj => ?_⟩
  by_cases ek : k = ms.length
  · subst ek
    rw [if_pos rfl, snocF_at, getI_unitL hj]
  · have hk' : k < (gearLs ms S).length := by rw [gearLs_len]; omega
    rw [if_neg ek, snocF_lt (by omega)]
    simp only [List.getD_eq_getElem?_getD, List.getElem?_eq_getElem hk', Option.getD_some]
    rw [gearLs_get]
    rfl

/-- The old list, after whatever has happened. -/
theorem LMat.apr {b w0 w : World} {v : Value} {S : Nat} {gs : List Nat} {ls : List (List Int)} {xs : List Int} {m : Nat} (hm : LMat b w0 v S gs ls) (hn : ls.length = m) (hR : ApR w0 v m S (slL S gs) xs b.heap.size w0 w) : LMat b w v S gs ls := by
  subst hn
  have hx : Ext b w := hR.ext hm.own.ext hm.own.2 (Nat.le_refl _)
  refine ⟨⟨hx, hR.own hm.own.2⟩, hm.gl, fun i h1 h2 => ?_⟩
  have h := hm.rows i h1 h2
  exact ⟨⟨hx, h.1.2.1, (hR.gr.block _ h.1.lt (fun e => hm.apart h.1 e.symm)).trans h.1.2.2⟩, h.2⟩

theorem AppT.form {w0 w : World} {v v' : Value} {n S : Nat} {cells : List Value} {xs : List Int} (h : AppT w0 v n S cells xs v' w) : ∃ A c, v' = .slice A (n + 1) c := by
  rcases h with ⟨g, c, e, _⟩ | ⟨b, c, _, _, e, _⟩
  · exact ⟨_, c, e⟩
  · exact ⟨_, c, e⟩
/-- A line of the numbers xs, made since w0. -/
def LineT (w0 : World) (S : Nat) (xs : List Int) (v : Value) (w : World) : Prop := ∃ h, v = sl h S ∧ w0.heap.size ≤ h ∧ w.heap[h]? = some (.cells (xs.map vint).toArray 3)

theorem exec_append {a : Act} {o : Oper} {w w' : World} {v v' x : Value} (s q : Operand) (t : TypeId) (ho : o.op = .call { callee := .builtin .append, args := #[s, q], argTypes := #[t, t] }) (hs : a.eval s = v) (hx : a.eval q = x) (hr : (Builtin.append_ #[t, t] o.type #[v, x]).run Try.prog w = .ok v' w') :
    (execOp a.eval o).run Try.prog w = .ok (.value v') w' := by
  unfold execOp
  simp only [ho, resolve, invoke, builtin, Sem.run_bind, Sem.run_pure, Result.andThen_ok, List.map_toArray, List.map_cons, List.map_nil, hs, hx, hr]

/-- What the region's calls hand back: a line, and two ranks. -/
def twoS (w1 : World) (S : Nat) (xs : List Int) (r1 r2 : Int) (j1 j2 j3 j : Nat) (v : Value) (w : World) : Prop := bif j == j1 then LineT w1 S xs v w else bif j == j2 then v = .int .i64 r1 else bif j == j3 then v = .int .i64 r2 else True
theorem twoS.stable {w1 w w' : World} {S : Nat} {xs : List Int} {r1 r2 : Int} {j1 j2 j3 j : Nat} {v : Value} (hn : ∀ k o, w1.heap.size ≤ k → w.heap[k]? = some o → w'.heap[k]? = some o) (h : twoS w1 S xs r1 r2 j1 j2 j3 j v w) : twoS w1 S xs r1 r2 j1 j2 j3 j v w' := by
  unfold twoS at h ⊢
  cases h1 : (j == j1)
  · rw [h1] at h; exact h
  · rw [h1] at h
    obtain ⟨h', e1, e2, e3⟩ := h
    exact ⟨h', e1, e2, hn _ _ e2 e3⟩

set_option maxRecDepth 100000 in
set_option maxHeartbeats 4000000 in
theorem jammed_ref (A : Option Addr) (c S i : Nat) (ms : List Msh) (w : World) (hA : MRow w A ms) (ht : trainP S ms) (hi : i < S) :
    Calls Try.prog 79 #[.agg #[.int .i64 S, .slice A ms.length c], .int .i64 i] w fun e w' => e = .returned (.bool (jamB ms.length S (gearL ms S) i)) ∧ Ext w w' := by
  have h8 : S ≤ 8 := by have := ht.2.1; omega
  have hS0 : 0 < S := by have := ht.1; omega
  have hl16 := ht.2.2.1
  have hsm := gearL_small ht
  have c1 := fun (w' : World) (he : Ext w w') => rows_ref A c S ms w' (hA.ext he) ht
  have C1 := Lib.hid c1
  have Hsm := Lib.hid hsm
  clear c1 hsm hA ht
  obtain ⟨m, hm⟩ : ∃ m, m = ms.length := ⟨_, rfl⟩
  rw [← hm] at hl16 C1 ⊢
  have Hm := Lib.hid hm
  clear hm
  go_enter Try.func79, Try.ntmps79
  have hexb : Ext w (w.alloc (.cells #[.int .i64 S, .slice A m c] 41)) := by simp
  have hp0 : ∀ w', Ext (w.alloc (.cells #[.int .i64 S, .slice A m c] 41)) w' → w'.cell? ⟨w.heap.size, 0, none⟩ = some (.int .i64 S) := fun w' he => he.cell (by simp)
  have hp1 : ∀ w', Ext (w.alloc (.cells #[.int .i64 S, .slice A m c] 41)) w' → w'.cell? ⟨w.heap.size, 1, none⟩ = some (.slice A m c) := fun w' he => he.cell (by simp)
  go_wp2_with (first
    | (go_at_call 69; refine (C1.out _ (by simp)).mono ?_; rintro e w1 ⟨v, gs, rfl, hmat⟩))
  generalize w.alloc (.cells #[.int .i64 S, .slice A m c] 41) = wb at *
  have hmat : LMat wb w1 v S gs (gearLs ms S) := hmat
  have hxb : Ext wb w1 := hmat.own.ext
  have hlen16 : (gearLs ms S).length ≤ 16 := by rw [gearLs_len, ← Hm.out]; exact hl16
  have hgl : (gearLs ms S).length = m := by rw [gearLs_len, Hm.out]
  obtain ⟨Av, cv, e⟩ := hmat.own.form
  subst e
  rw [hgl] at hmat ⊢
  have hown : w1.ownsRow wb.heap.size 22 1 (.slice Av m cv) m (slL S gs) := by
    have := hmat.own.2
    rwa [hgl] at this
  have hob : ∀ k, (Value.slice Av m cv).ownBlock = some k → k < w1.heap.size := fun k hk => (hown.lt k hk).2
  have hbR : ∀ w', ApR w1 (.slice Av m cv) m S (slL S gs) (unitL S i) wb.heap.size w1 w' → Ext wb w' := fun w' hR => hR.ext hxb hown (Nat.le_refl _)
  have hnew : ∀ (w' w'' : World) (k : Nat) (o : Obj), ApR w1 (.slice Av m cv) m S (slL S gs) (unitL S i) wb.heap.size w' w'' → w1.heap.size ≤ k → w'.heap[k]? = some o → w''.heap[k]? = some o := fun w' w'' k o hR hk ho =>
    (hR.gr.block _ (Array.getElem?_eq_some_iff.1 ho).1 (fun e => by have := hob _ e.symm; omega)).trans ho
  obtain ⟨r1, hr1⟩ : ∃ r1, r1 = rkF (m + 1) S (snocF m (gearL ms S) (eU i)) := ⟨_, rfl⟩
  obtain ⟨r2, hr2⟩ : ∃ r2, r2 = rkF m S (gearL ms S) := ⟨_, rfl⟩
  have Hr1 := Lib.hid hr1
  have Hr2 := Lib.hid hr2
  clear hr1 hr2
  have hstab : Cf.StableS (apPre w1 (.slice Av m cv) m S (slL S gs) (unitL S i) wb.heap.size) (fun j _ v w => twoS w1 S (unitL S i) r1 r2 4 9 13 j v w) := fun j _ v w' w'' hR h => twoS.stable (fun k o hk ho => hnew _ _ k o hR hk ho) h
  generalize w.heap.size = bx at *
  refine Cf.wp_region_calm (p := apPre w1 (.slice Av m cv) m S (slL S gs) (unitL S i) wb.heap.size) (fr := fun _ => false) 14 _ hstab (by kernel_rfl) (by kernel_rfl) ?_
  simp only [List.take_succ_cons, List.take_zero, List.drop_succ_cons, List.drop_zero]
  refine Cf.calm_quiet Cf.calm_mono_final wb hbR 4 (by kernel_rfl) ?_
  simp only [List.take_succ_cons, List.take_zero, List.drop_succ_cons, List.drop_zero]
  repeat (go_big_quiet_step (fail))
  refine wpQuiet_nil ?_
  refine Cf.calm_call Cf.calm_mono_final 80 #[.int .i64 S, .int .i64 i] rfl (fun w => ?_) (fun w' hR _ => ?_) ?_
  · go_simp
  · refine (one_ref S i w' hi (by omega)).mono fun e w'' h => ?_
    obtain ⟨g, rfl, hn⟩ := h
    exact ⟨_, rfl, ApR.of_ext hn.ext, (show LineT w1 S (unitL S i) (sl g S) w'' from ⟨g, rfl, Nat.le_trans hR.gr.size hn.2.1, hn.2.2⟩), fun hf => by cases hf⟩
  rintro v4 w4 _ hv4 _
  have hv4' : LineT w1 S (unitL S i) v4 w4 := hv4
  obtain ⟨h, rfl, hh0, _⟩ := hv4'
  clear hv4
  simp only [Act.put, List.setIfInBounds_toArray, List.set_cons_succ, List.set_cons_zero]
  refine Cf.calm_value Cf.calm_mono_final (fun v w => ∃ b, v = .slice (some ⟨b, 0, none⟩) 1 1 ∧ w1.heap.size ≤ b ∧ w.heap[b]? = some (.cells #[sl h S] 22)) (fun _ w' w'' hR ⟨b, e, hb, hh⟩ => ⟨b, e, hb, hnew _ _ _ _ hR hb hh⟩) rfl (fun w' hR _ => ⟨sl w'.heap.size 1, w'.alloc (.cells #[sl h S] 22), by go_simp, ApR.of_ext ((Ext.refl w').alloc _), ⟨_, rfl, hR.gr.size, heap_alloc_new _ _⟩, fun hf => by cases hf⟩) ?_
  rintro v5 _ _ ⟨bs, rfl, hbs, _⟩ _
  simp only [Act.put, List.setIfInBounds_toArray, List.set_cons_succ, List.set_cons_zero]
  refine Cf.calm_value Cf.calm_mono_final (fun v w => AppT w1 (.slice Av m cv) m S (slL S gs) (unitL S i) v w) (fun _ w' w'' hR hT => AppT.stable hR hT) rfl (fun w' hR hf => ?_) ?_
  · obtain ⟨b', eb, _, hb2⟩ := (hf 5 (by kernel_rfl)).2 rfl
    have hl4 : LineT w1 S (unitL S i) (sl h S) w' := (hf 4 (by kernel_rfl)).1.2 rfl
    obtain ⟨h', eh, _, hh2⟩ := hl4
    simp only [sl, Value.slice.injEq, Option.some.injEq, Addr.mk.injEq, and_true] at eb eh
    subst eb eh
    obtain ⟨v', w'', hr, hR2, hT⟩ := app_run (c := 1) 106 hR hown hxb.le (by omega) hb2 hh0 hh2
    exact ⟨v', w'', exec_append _ _ 106 rfl rfl rfl hr, hR2, hT, fun hf => by cases hf⟩
  rintro v6 w6 _ hT6 _
  obtain ⟨A6, c6, e6⟩ := hT6.form
  subst e6
  clear hT6
  simp only [Act.put, List.setIfInBounds_toArray, List.set_cons_succ, List.set_cons_zero]
  refine Cf.calm_quiet Cf.calm_mono_final wb hbR 2 (by kernel_rfl) ?_
  simp only [List.take_succ_cons, List.take_zero, List.drop_succ_cons, List.drop_zero]
  repeat (go_big_quiet_step (fail))
  refine wpQuiet_nil ?_
  refine Cf.calm_call Cf.calm_mono_final 68 #[.slice A6 (m + 1) c6, .int .i64 S] rfl (fun w => ?_) (fun w' hR hf => ?_) ?_
  · go_simp
  · have hT : AppT w1 (.slice Av m cv) m S (slL S gs) (unitL S i) (.slice A6 (m + 1) c6) w' := (hf 6 (by kernel_rfl)).2 rfl
    obtain ⟨A7, c7, e7, hl7⟩ := app_lrow_gear hmat Hm.out hR hT
    simp only [Value.slice.injEq, true_and] at e7
    obtain ⟨rfl, rfl⟩ := e7
    have hs7 : SmallL (m + 1) S (snocF m (gearL ms S) (eU i)) := by
      have := Hsm.out.snoc i
      rwa [← Hm.out] at this
    refine (Rank_any A6 c6 S (m + 1) _ w' hl7 hS0 h8 (by omega) hs7).mono fun e w'' h => ?_
    obtain ⟨rfl, hx⟩ := h
    exact ⟨_, rfl, ApR.of_ext hx, (show _ = _ by rw [Hr1.out]), fun hf => by cases hf⟩
  rintro v9 w9 _ hv9 _
  have hv9' : v9 = .int .i64 r1 := hv9
  subst hv9'
  clear hv9
  simp only [Act.put, List.setIfInBounds_toArray, List.set_cons_succ, List.set_cons_zero]
  refine Cf.calm_quiet Cf.calm_mono_final wb hbR 3 (by kernel_rfl) ?_
  simp only [List.take_succ_cons, List.take_zero, List.drop_succ_cons, List.drop_zero]
  repeat (go_big_quiet_step (fail))
  refine wpQuiet_nil ?_
  refine Cf.calm_call Cf.calm_mono_final 68 #[.slice Av m cv, .int .i64 S] rfl (fun w => ?_) (fun w' hR hf => ?_) ?_
  · go_simp
  · have hl8 := (hmat.apr hgl hR).lrow'
    rw [← Hm.out] at hl8
    have hs8 : SmallL m S (gearL ms S) := by
      have := Hsm.out
      rwa [← Hm.out] at this
    refine (Rank_any Av cv S m _ w' hl8 hS0 h8 (by omega) hs8).mono fun e w'' h => ?_
    obtain ⟨rfl, hx⟩ := h
    exact ⟨_, rfl, ApR.of_ext hx, (show _ = _ by rw [Hr2.out]), fun hf => by cases hf⟩
  rintro v13 w13 _ hv13 _
  have hv13' : v13 = .int .i64 r2 := hv13
  subst hv13'
  clear hv13
  simp only [Act.put, List.setIfInBounds_toArray, List.set_cons_succ, List.set_cons_zero]
  refine Cf.calm_nil fun w3 he3 hF => ?_
  clear hF
  have hx3 := hexb.trans (hbR w3 he3)
  go_wp2
  go_ret
  refine ⟨?_, hx3⟩
  have hb : ((r1 : Int) == (r2 : Int)) = jamB m S (gearL ms S) i := by
    rw [Bool.eq_iff_iff]
    unfold jamB
    rw [← Hr1.out, ← Hr2.out, beq_iff_eq, beq_iff_eq]
    omega
  rw [← hb]
  rfl
end Go.Proofs.Ytbclbcldplmppaa

/- The clutches that slip: a search, written plainly. No program in sight. -/
namespace Go.Proofs.Ytbclbcldplmppaa
open Go.RowKit

def isCl (ms : List Msh) (i : Nat) : Bool := match ms[i]? with
  | some x => x.kind == 7
  | none => false
/-- The clutches from a mesh on. -/
def clF (ms : List Msh) (k : Nat) : List Nat := (List.range' k (ms.length - k)).filter (isCl ms)
theorem clF_end {ms : List Msh} {k : Nat} (h : ms.length ≤ k) : clF ms k = [] := by
  unfold clF
  rw [show ms.length - k = 0 by omega]; rfl
theorem clF_step {ms : List Msh} {k : Nat} (h : k < ms.length) : clF ms k = if isCl ms k = true then k :: clF ms (k + 1) else clF ms (k + 1) := by
  unfold clF
  rw [show ms.length - k = (ms.length - (k + 1)) + 1 by omega, List.range'_succ, List.filter_cons]
theorem isCl_at {ms : List Msh} {k : Nat} (h : k < ms.length) : isCl ms k = (ms[k].kind == 7) := by
  unfold isCl; rw [List.getElem?_eq_getElem h]
theorem clF_take {ms : List Msh} {k : Nat} (h : k < ms.length) (hk : ms[k].kind = 7) : clF ms k = k :: clF ms (k + 1) := by
  rw [clF_step h, isCl_at h, hk]; simp
theorem clF_skip {ms : List Msh} {k : Nat} (h : k < ms.length) (hk : ¬ ms[k].kind = 7) : clF ms k = clF ms (k + 1) := by
  rw [clF_step h, isCl_at h]; simp [hk]
theorem clF_len (ms : List Msh) (k : Nat) : (clF ms k).length ≤ ms.length - k := by
  unfold clF
  have := List.length_filter_le (isCl ms) (List.range' k (ms.length - k))
  rwa [List.length_range'] at this
theorem clF_lt {ms : List Msh} {k c : Nat} (h : c ∈ clF ms k) : c < ms.length := by
  have := (List.mem_filter.1 h).1
  rw [List.mem_range'_1] at this
  omega
/-- The clutches before a mesh. -/
def clP (ms : List Msh) (k : Nat) : List Nat := (List.range k).filter (isCl ms)
theorem clP_take {ms : List Msh} {k : Nat} (h : k < ms.length) (hk : ms[k].kind = 7) : clP ms (k + 1) = clP ms k ++ [k] := by
  unfold clP
  rw [List.range_succ, List.filter_append]
  simp [isCl_at h, hk]
theorem clP_skip {ms : List Msh} {k : Nat} (h : k < ms.length) (hk : ¬ ms[k].kind = 7) : clP ms (k + 1) = clP ms k := by
  unfold clP
  rw [List.range_succ, List.filter_append]
  simp [isCl_at h, hk]
theorem clP_all (ms : List Msh) : clP ms ms.length = clF ms 0 := by
  unfold clP clF
  rw [List.range_eq_range']; rfl

/-- The first set of so many more, of those in the list, that J does not bar. -/
def chooseL (J : List Nat → Bool) : List Nat → Nat → List Nat → Option (List Nat)
  | [], 0, set => if J set = true then none else some set
  | _ :: _, 0, set => if J set = true then none else some set
  | [], _ + 1, _ => none
  | c :: cs, n + 1, set => match chooseL J cs n (set ++ [c]) with
    | some r => some r
    | none => chooseL J cs (n + 1) set
variable {J : List Nat → Bool}
theorem chooseL_zero (l set : List Nat) : chooseL J l 0 set = if J set = true then none else some set := by cases l <;> rfl
theorem chooseL_nil (n : Nat) (set : List Nat) : chooseL J [] (n + 1) set = none := rfl
theorem chooseL_some {c : Nat} {cs : List Nat} {n : Nat} {set r : List Nat} (h : chooseL J cs n (set ++ [c]) = some r) : chooseL J (c :: cs) (n + 1) set = some r := by
  simp only [chooseL, h]
theorem chooseL_none {c : Nat} {cs : List Nat} {n : Nat} {set : List Nat} (h : chooseL J cs n (set ++ [c]) = none) : chooseL J (c :: cs) (n + 1) set = chooseL J cs (n + 1) set := by
  simp only [chooseL, h]
theorem chooseL_few : ∀ (l : List Nat) (n : Nat) (set : List Nat), l.length < n → chooseL J l n set = none
  | [], n + 1, set, _ => rfl
  | c :: cs, n + 1, set, h => by
    simp only [List.length_cons] at h
    rw [chooseL_none (chooseL_few cs n _ (by omega)), chooseL_few cs (n + 1) set (by omega)]
theorem chooseL_mem : ∀ (l : List Nat) (n : Nat) (set r : List Nat), chooseL J l n set = some r → (∀ x ∈ r, x ∈ set ∨ x ∈ l) ∧ r.length = set.length + n ∧ J r = false
  | l, 0, set, r, h => by
    rw [chooseL_zero] at h
    split at h
    · cases h
    · injection h with h
      subst h
      refine ⟨fun x hx => .inl hx, rfl, ?_⟩
      rename_i hj
      simpa using hj
  | [], n + 1, set, r, h => by cases h
  | c :: cs, n + 1, set, r, h => by
    cases h1 : chooseL J cs n (set ++ [c]) with
    | some r' =>
      rw [chooseL_some h1] at h
      injection h with h
      subst h
      obtain ⟨a, b, d⟩ := chooseL_mem cs n _ _ h1
      refine ⟨fun x hx => ?_, by rw [b, List.length_append, List.length_singleton]; omega, d⟩
      rcases a x hx with h2 | h2
      · rcases List.mem_append.1 h2 with h3 | h3
        · exact .inl h3
        · simp at h3; exact .inr (by simp [h3])
      · exact .inr (List.mem_cons_of_mem _ h2)
    | none =>
      rw [chooseL_none h1] at h
      obtain ⟨a, b, d⟩ := chooseL_mem cs (n + 1) _ _ h
      refine ⟨fun x hx => ?_, b, d⟩
      rcases a x hx with h2 | h2
      · exact .inl h2
      · exact .inr (List.mem_cons_of_mem _ h2)

def natI (l : List Nat) : List Int := l.map fun (k : Nat) => (k : Int)
theorem natI_snoc (l : List Nat) (k : Nat) : natI (l ++ [k]) = natI l ++ [(k : Int)] := by simp [natI]
theorem natI_len (l : List Nat) : (natI l).length = l.length := by simp [natI]
/-- The meshes without a set. -/
def offL (ms : List Msh) (set : List Nat) : List Msh := keepL (natI set) ms ms.length
/-- Whether a shaft is jammed without a set. -/
noncomputable def jamO (ms : List Msh) (S i : Nat) (set : List Nat) : Bool := jamB (offL ms set).length S (gearL (offL ms set) S) i
noncomputable def slipN (ms : List Msh) (S i n : Nat) : Option (List Nat) := chooseL (jamO ms S i) (clF ms 0) n []
noncomputable def slipO (ms : List Msh) (S i : Nat) : Option (List Nat) := (List.range (ms.length + 1)).findSome? (slipN ms S i)
theorem findSome_range {f : Nat → Option (List Nat)} {n : Nat} {r : List Nat} : ∀ {m : Nat}, n ≤ m → (∀ k, k < n → f k = none) → f n = some r → (List.range (m + 1)).findSome? f = some r
  | m, hm, hno, h => by
    have e : List.range (m + 1) = List.range n ++ List.range' n (m + 1 - n) := by
      have h0 := @List.range'_append_1 0 n (m + 1 - n)
      rw [Nat.zero_add] at h0
      rw [List.range_eq_range', List.range_eq_range', h0]
      congr 1
      omega
    rw [e, List.findSome?_append, show m + 1 - n = (m - n) + 1 by omega, List.range'_succ, List.findSome?_cons, h]
    rw [List.findSome?_eq_none_iff.2 (fun x hx => hno x (List.mem_range.1 hx))]
    rfl
theorem slipO_some {ms : List Msh} {S i n : Nat} {r : List Nat} (hn : n ≤ ms.length) (hno : ∀ k, k < n → slipN ms S i k = none) (h : slipN ms S i n = some r) : slipO ms S i = some r := findSome_range hn hno h
theorem slipO_none {ms : List Msh} {S i : Nat} (hno : ∀ k, k ≤ ms.length → slipN ms S i k = none) : slipO ms S i = none :=
  List.findSome?_eq_none_iff.2 fun x hx => hno x (by have := List.mem_range.1 hx; omega)
theorem slipO_none' {ms : List Msh} {S i : Nat} (hno : ∀ k, k ≤ (clF ms 0).length → slipN ms S i k = none) : slipO ms S i = none :=
  slipO_none fun k hk => by
    by_cases h : k ≤ (clF ms 0).length
    · exact hno k h
    · exact chooseL_few _ _ _ (by omega)

theorem keepL_mem {all : List Int} {ms : List Msh} {x : Msh} : ∀ {k : Nat}, x ∈ keepL all ms k → x ∈ ms
  | 0, h => by cases h
  | k + 1, h => by
    unfold keepL at h
    rcases List.mem_append.1 h with h | h
    · exact keepL_mem h
    · split at h
      · cases h
      · have := Option.mem_toList.1 h
        exact List.mem_of_getElem? this
theorem offL_train {S : Nat} {ms : List Msh} (h : trainP S ms) (set : List Nat) : trainP S (offL ms set) := by
  refine ⟨h.1, h.2.1, Nat.le_trans (keepL_le _ _ _) h.2.2.1, fun k hk => ?_⟩
  have hm := keepL_mem (List.getElem_mem hk)
  obtain ⟨j, hj, e⟩ := List.getElem_of_mem hm
  rw [← e]
  exact h.2.2.2 j hj

/-- The error of a train and shafts. -/
def askE (s : Int) (ms : List Msh) (l : List Int) : Int := if trainB s ms = true then if (∀ x ∈ l, 0 ≤ x ∧ x < s) then 0 else 2 else 40
def slipE (s : Int) (ms : List Msh) (i : Int) : Int := askE s ms [i]
noncomputable def slipX (s : Int) (ms : List Msh) (i : Int) : Int := if askE s ms [i] = 0 then (if (slipO ms s.toNat i.toNat).isSome = true then 0 else 6) else askE s ms [i]
noncomputable def slipL (s : Int) (ms : List Msh) (i : Int) : List Int := if askE s ms [i] = 0 then natI ((slipO ms s.toNat i.toNat).getD []) else []
end Go.Proofs.Ytbclbcldplmppaa

/- The errors of a train and shafts, both sides. -/
namespace Go.Proofs.Ytbclbcldplmppaa
open Go.RowKit

theorem askE_bad {s : Int} {ms : List Msh} {l : List Int} (h : trainB s ms = false) : askE s ms l = 40 := by unfold askE; rw [h, if_neg (by decide)]
theorem askE_ok {s : Int} {ms : List Msh} {l : List Int} (h : trainB s ms = true) (hl : ∀ x ∈ l, 0 ≤ x ∧ x < s) : askE s ms l = 0 := by unfold askE; rw [h, if_pos rfl, if_pos hl]
theorem askE_out {s : Int} {ms : List Msh} {l : List Int} (h : trainB s ms = true) {x : Int} (hx : x ∈ l) (ho : ¬ (0 ≤ x ∧ x < s)) : askE s ms l = 2 := by unfold askE; rw [h, if_pos rfl, if_neg (fun h => ho (h x hx))]
theorem askE_at {s : Int} {ms : List Msh} {l : List Int} (h : trainB s ms = true) {k : Nat} (hk : k < l.length) (ho : ¬ (0 ≤ getI l k ∧ getI l k < s)) : askE s ms l = 2 :=
  askE_out h (x := getI l k) (by rw [getI_eq hk]; exact List.getElem_mem hk) ho
theorem askE_all {s : Int} {ms : List Msh} {l : List Int} (h : trainB s ms = true) (ho : ∀ k, k < l.length → 0 ≤ getI l k ∧ getI l k < s) : askE s ms l = 0 :=
  askE_ok h fun x hx => by
    obtain ⟨k, hk, e⟩ := List.getElem_of_mem hx
    have := ho k hk
    rwa [getI_eq hk, e] at this

set_option maxRecDepth 100000 in
set_option maxHeartbeats 2000000 in
theorem asked_any (A : Option Addr) (c : Nat) (s : Int) (ms : List Msh) (B : Option Addr) (d : Nat) (l : List Int) (w : World) (hA : MRow w A ms) (hl : ms.length ≤ 1000000) (hB : Ints w B l) (hl2 : l.length ≤ 1000000) :
    Calls Try.prog 73 #[.agg #[.int .i64 s, .slice A ms.length c], .slice B l.length d] w fun e w' => e = .returned (.int .i64 (askE s ms l)) ∧ Ext w w' := by
  have c0 := fun (w' : World) (he : Ext w w') => check_any A c s ms w' (hA.ext he) hl
  have hb := fun (k : Nat) (hk : k < l.length) => hB.some_ (by omega)
  have Hb := Lib.hid hb
  clear hb hB
  cases hT : trainB s ms
  case false =>
    have e2 : trainE s ms = 40 := by unfold trainE; rw [hT, if_neg (by decide)]
    rw [askE_bad hT]
    rw [e2] at c0
    have C0 := Lib.hid c0
    clear c0 e2 hA hT Hb
    generalize ms.length = m at *
    generalize l.length = n at *
    go_enter Try.func73, Try.ntmps73
    go_wp2_with (first
      | (go_at_call 24; refine (C0.out _ (by simp)).mono ?_; rintro e w1 ⟨rfl, hx1⟩))
    go_ret
    exact ⟨rfl, Ext.trans (by simp) hx1⟩
  case true =>
    have e2 : trainE s ms = 0 := by unfold trainE; rw [hT, if_pos rfl]
    have hbad := fun (k : Nat) (hk : k < l.length) => askE_at (l := l) hT hk
    have hgood := askE_all (l := l) hT
    rw [e2] at c0
    have C0 := Lib.hid c0
    have Hbad := Lib.hid hbad
    have Hgood := Lib.hid hgood
    clear c0 e2 hA hT hbad hgood
    generalize askE s ms l = res at *
    generalize ms.length = m at *
    generalize l.length = n at *
    go_enter Try.func73, Try.ntmps73
    have hexb : Ext w (w.alloc (.cells #[.int .i64 s, .slice A m c] 41)) := by simp
    have hp0 : ∀ w', Ext (w.alloc (.cells #[.int .i64 s, .slice A m c] 41)) w' → w'.cell? ⟨w.heap.size, 0, none⟩ = some (.int .i64 s) := fun w' he => he.cell (by simp)
    go_wp2_with (first
      | (go_at_call 24; refine (C0.out _ (by simp)).mono ?_; rintro e w1 ⟨rfl, hx1⟩))
    generalize w.alloc (.cells #[.int .i64 s, .slice A m c] 41) = wb0 at *
    have hp0 := hp0 w1 hx1
    have hexw : Ext w w1 := hexb.trans hx1
    generalize w.heap.size = bx at *
    clear hexb hx1 C0
    go_loop [15, 7] (fun i _ => ∃ k : Nat, k ≤ n ∧ i = .int .i64 k ∧ ∀ j, j < k → 0 ≤ getI l j ∧ getI l j < s) (fun i _ => n - (intOf i).toNat)
    case atStart => exact ⟨0, by omega, rfl, fun j hj => by omega⟩
    case round =>
      obtain ⟨k, hk, rfl, hall⟩ := hrel
      by_cases hlt : k < n
      · obtain ⟨ad, rfl, hcell⟩ := Hb.out k hlt
        have hck := hcell k hlt w1 hexw
        have hbad := Hbad.out k hlt
        have hstep : 0 ≤ getI l k ∧ getI l k < s → ∀ j, j < k + 1 → 0 ≤ getI l j ∧ getI l j < s := fun h j hj => by
          by_cases e : j = k
          · subst e; exact h
          · exact hall j (by omega)
        have Hst := Lib.hid hstep
        have Hbad' := Lib.hid hbad
        clear hstep hbad hall hcell Hbad Hgood Hb
        generalize getI l k = y at *
        cases d1 : decide (y < 0)
        · cases d2 : decide (s ≤ y)
          · have h1 : 0 ≤ y := by simpa using d1
            have h2 : y < s := by simpa using d2
            go_wp2
            go_round
            case rel => exact ⟨k + 1, by omega, by go_num, Hst.out ⟨h1, h2⟩⟩
            case measure => simp [intOf]; omega
          · have h2 : s ≤ y := by simpa using d2
            go_wp2
            go_ret
            exact ⟨ret_i (Hbad'.out (by omega)).symm, hexw⟩
        · have h1 : y < 0 := by simpa using d1
          go_wp2
          go_ret
          exact ⟨ret_i (Hbad'.out (by omega)).symm, hexw⟩
      · obtain rfl : k = n := by omega
        have H0 := Lib.hid (Hgood.out hall)
        clear hall Hgood Hbad Hb
        go_wp2
        go_ret
        exact ⟨ret_i H0.out.symm, hexw⟩

set_option maxRecDepth 100000 in
set_option maxHeartbeats 2000000 in
theorem asked_ref (A : Option Addr) (c : Nat) (s : Int) (ms : List Msh) (i o : Int) (w : World) (hA : MRow w A ms) (hl : ms.length ≤ 1000000) :
    Calls Try.prog 35 #[.agg #[.int .i64 s, .slice A ms.length c], .int .i64 i, .int .i64 o] w fun e w' => e = .returned (.int .i64 (askE s ms [i, o])) ∧ Ext w w' := by
  have c0 := fun (w' : World) (he : Ext w w') => train_ref A c s ms w' (hA.ext he) hl
  cases hT : trainB s ms
  case false =>
    rw [askE_bad hT]
    rw [hT] at c0
    have C0 := Lib.hid c0
    clear c0 hA hT
    generalize ms.length = m at *
    go_enter Try.func35, Try.ntmps35
    go_wp2_with (first
      | (go_at_call 45; refine (C0.out _ (by simp)).mono ?_; rintro e w1 ⟨rfl, hx1⟩))
    go_ret
    exact ⟨rfl, Ext.trans (by simp) hx1⟩
  case true =>
    have hs : 1 ≤ s ∧ s ≤ 8 := by
      have h : trainP s ms := of_decide_eq_true hT
      exact ⟨h.1, h.2.1⟩
    have hb1 : withinB i 0 (s - 1) = false → askE s ms [i, o] = 2 := fun h => askE_out hT (x := i) (by simp) (by have := withinB_false.1 h; omega)
    have hb2 : withinB o 0 (s - 1) = false → askE s ms [i, o] = 2 := fun h => askE_out hT (x := o) (by simp) (by have := withinB_false.1 h; omega)
    have hg : withinB i 0 (s - 1) = true → withinB o 0 (s - 1) = true → askE s ms [i, o] = 0 := fun h1 h2 => askE_ok hT (by have := withinB_true.1 h1; have := withinB_true.1 h2; intro x hx; simp at hx; rcases hx with rfl | rfl <;> omega)
    have e1 : IntKind.i64.wrap (s - 1) = s - 1 := by rw [IntKind.wrap_i64]; omega
    rw [hT] at c0
    have C0 := Lib.hid c0
    have Hb1 := Lib.hid hb1
    have Hb2 := Lib.hid hb2
    have Hg := Lib.hid hg
    clear c0 hA hT hb1 hb2 hg hs
    generalize askE s ms [i, o] = res at *
    generalize ms.length = m at *
    cases w1 : withinB i 0 (s - 1)
    all_goals cases w2 : withinB o 0 (s - 1)
    all_goals
      go_enter Try.func35, Try.ntmps35
      have hexb : Ext w (w.alloc (.cells #[.int .i64 s, .slice A m c] 41)) := by simp
      have hp0 : ∀ w', Ext (w.alloc (.cells #[.int .i64 s, .slice A m c] 41)) w' → w'.cell? ⟨w.heap.size, 0, none⟩ = some (.int .i64 s) := fun w' he => he.cell (by simp)
      go_wp2_with (first
        | (go_at_call 45; refine (C0.out _ (by simp)).mono ?_; rintro e wv ⟨rfl, hx1⟩; have hp0' := hp0 wv hx1)
        | (go_at_call 54; refine (within_any _ _ _ _).mono ?_; rintro e w' ⟨rfl, rfl⟩))
      go_ret
      refine ⟨ret_i ?_, Ext.trans (by simp) hx1⟩
      first
        | exact (Hb1.out w1).symm
        | exact (Hb2.out w2).symm
        | exact (Hg.out w1 w2).symm
end Go.Proofs.Ytbclbcldplmppaa

/- Appending numbers: what is old stays; a growth under which the own slices of certain numbers stay. No program in sight but the table of types. -/
namespace Go.Proofs.Ytbclbcldplmppaa
open Go.RowKit

theorem Ints.src {w : World} {A : Option Addr} {xs : List Int} (h : Ints w A xs) (c : Nat) : Src Try.prog 1 22 (.slice A xs.length c) xs.length (xs.map vint) w := by
  cases A with
  | none =>
    cases xs with
    | nil => exact Src.ofNil w Try.underlying22 c
    | cons x xs =>
      obtain ⟨ad, e, _⟩ := h 0 (by simp)
      cases e
  | some a =>
    refine Src.ofSlice w Try.underlying22 a _ c _ (by simp) (fun j u hu => ?_) (fun u hu => ?_)
    · obtain ⟨ad, e, hc⟩ := h j (List.getElem?_eq_some_iff.1 hu).1
      rw [Option.some.inj e, hc, hu]
    · obtain ⟨x, _, rfl⟩ := List.mem_map.1 hu
      rfl

/-- The own row that a new block holds. -/
theorem own_newRow {w : World} {base : Nat} (hb : base ≤ w.heap.size) (xs : List Value) (n cap : Nat) (hn : n = xs.length) (hc : n ≤ cap) (hm : cap ≤ maxLen) (pad : Array Value) (hp : pad.size = cap - n) :
    (w.alloc (.cells (xs.toArray ++ pad) 3)).ownsRow base 3 1 (.slice (some ⟨w.heap.size, 0, none⟩) n cap) n xs := by
  subst hn
  refine ⟨by simp, .inr ⟨w.heap.size, cap, xs.toArray ++ pad, rfl, hb, heap_alloc_new w _, hc, hm, ?_, ?_⟩⟩
  · simp only [Array.size_append, List.size_toArray, hp]; omega
  · simp

/-- 'append([]int{}, l...)' and 'append(l[:n:n], x)': new memory. -/
theorem app_new {w : World} {A : Option Addr} {xs ys : List Int} {n m : Nat} (x : Value) (ty : TypeId) (h : Ints w A xs) (hn : xs.length = n) (hs : Src Try.prog 1 22 x m (ys.map vint) w) (hm : 0 < m) (hl : n + m ≤ 1000000) :
    ∃ g cap w', (Builtin.append_ #[22, 22] ty #[.slice A n n, x]).run Try.prog w = .ok (.slice (some ⟨g, 0, none⟩) (n + m) cap) w' ∧ Ext w w' ∧ w.heap.size = g ∧ OwnI w w' (.slice (some ⟨g, 0, none⟩) (n + m) cap) (xs ++ ys) := by
  obtain ⟨i, hi, hz0, hz1, hz2⟩ := int_elem.info
  have hlen : ys.length = m := by have := hs.newsLen; simpa using this
  have h1 : xs.length + ys.length = n + m := by omega
  have hfit : Builtin.nextslicecap (n + m) n * i.bytes ≤ 281474976710656 := by rw [hz2]; exact growslice_fits (by omega) (by omega)
  have hold : (Builtin.firstCells i.size n (.slice A n n)).run Try.prog w.drew = .ok (xs.map vint).toArray w.drew := by
    have hd := (h.ext ((Ext.refl w).drew)).src n
    rw [hn] at hd
    rw [hz1]
    exact hd.cells
  have hs' : Src Try.prog i.size 22 x m (ys.map vint) w := by rw [hz1]; exact hs
  have hrun := run_append_grow_src (P := Try.prog) w 22 22 ty 3 i _ Try.underlying22 hi hz0 A n n ((xs.map vint)) hold x m ((ys.map vint)) hs' (by omega) (by omega) hfit
  have hg := grownCap_ge w (n + m) n 3
  have hg2 := grownCap_le_maxLen w (n + m) n 3 (by unfold maxLen; omega)
  have hown := own_newRow (w := w.drew) (base := w.heap.size) (Nat.le_refl _) ((xs ++ ys).map vint) (n + m) (grownCap w (n + m) n 3) (by simp; omega) hg hg2 (Builtin.zeroCells (Value.int .i64 0).cells (grownCap w (n + m) n 3 - (n + m))) (by rw [size_zeroCells]; simp [Value.cells])
  refine ⟨_, _, _, hrun, by simp, rfl, by simp, ?_⟩
  rw [List.map_append] at hown
  have : (xs ++ ys).length = n + m := by rw [List.length_append]; exact h1
  rw [this, List.map_append]
  exact hown

/-- 'append([]int{}, l...)'. -/
theorem app_empty {w : World} {base b c : Nat} {B : Option Addr} {ys : List Int} (ty : TypeId) (hb : w.heap[b]? = some (Obj.cells #[] 3)) (hbb : base ≤ b) (hB : Ints w B ys) (hl : ys.length ≤ 1000000) :
    ∃ v' w', (Builtin.append_ #[22, 22] ty #[.slice (some ⟨b, 0, none⟩) 0 0, .slice B ys.length c]).run Try.prog w = .ok v' w' ∧ Ext w w' ∧ w'.ownsRow base 3 1 v' ys.length (ys.map vint) := by
  obtain ⟨i, hi, hz0, hz1, hz2⟩ := int_elem.info
  have hbl := (Array.getElem?_eq_some_iff.1 hb).1
  by_cases h0 : ys.length = 0
  · have : ys = [] := List.eq_nil_of_length_eq_zero h0
    subst this
    have hs := hB.src c
    have hs' : Src Try.prog i.size 22 (.slice B 0 c) 0 [] w := by rw [hz1]; exact hs
    exact ⟨_, w, run_append_nothing w 22 22 ty 3 i Try.underlying22 hi _ 0 0 (Nat.le_refl _) _ hs', Ext.refl _, rfl, .inr ⟨b, 0, #[], rfl, hbb, hb, Nat.le_refl _, by unfold maxLen; omega, rfl, rfl⟩⟩
  · obtain ⟨g, cap, w', hr, hx, hg, ho⟩ := app_new (w := w) (A := some ⟨b, 0, none⟩) (xs := []) (ys := ys) (n := 0) (m := ys.length) _ ty (Ints.nil _ _) rfl (hB.src c) (by omega) (by omega)
    rw [Nat.zero_add] at hr ho
    refine ⟨_, w', hr, hx, ?_⟩
    refine ⟨by simp, ?_⟩
    rcases ho.2.2 with ⟨e, _⟩ | ⟨g', cap', cur, e, hb', r⟩
    · cases e
    · exact .inr ⟨g', cap', cur, e, by omega, r⟩

/-- Of each block all cells stay but the one at place n, and this one, too, if it is x. -/
def KeepB (n : Nat) (x : Int) (w w' : World) : Prop := ∀ (k : Nat) cs t, w.heap[k]? = some (Obj.cells cs t) → ∃ cs', w'.heap[k]? = some (Obj.cells cs' t) ∧ cs'.size = cs.size ∧ ∀ (j : Nat) v, cs[j]? = some v → (j ≠ n ∨ v = vint x) → cs'[j]? = some v
theorem KeepB.of_same {n : Nat} {x : Int} {w w' : World} (h : ∀ (k : Nat) o, w.heap[k]? = some o → w'.heap[k]? = some o) : KeepB n x w w' := fun k cs _ hk => ⟨cs, h k _ hk, rfl, fun _ _ h _ => h⟩
theorem KeepB.trans {n : Nat} {x : Int} {a b c : World} (h : KeepB n x a b) (h' : KeepB n x b c) : KeepB n x a c := fun k cs t hk => by
  obtain ⟨cs1, a1, a2, a3⟩ := h k cs t hk
  obtain ⟨cs2, b1, b2, b3⟩ := h' k cs1 t a1
  exact ⟨cs2, b1, b2.trans a2, fun j v hj hv => b3 j v (a3 j v hj hv) hv⟩

theorem app_keep {w : World} {base : Nat} {v : Value} {n : Nat} {xs : List Value} (ty : TypeId) (hown : w.ownsRow base 3 1 v n xs) {bs c : Nat} {x : Int} (hx : w.heap[bs]? = some (.cells #[vint x] 3)) (hn : n ≤ 1000000) (hbase : base ≤ w.heap.size) :
    ∃ v' w', (Builtin.append_ #[22, 22] ty #[v, .slice (some ⟨bs, 0, none⟩) 1 c]).run Try.prog w = .ok v' w' ∧ w'.ownsRow base 3 1 v' (n + 1) (xs ++ [vint x]) ∧ w.grownBy w' v.ownBlock ∧ KeepB n x w w' := by
  obtain ⟨i, hi, hz0, hz1, hz2⟩ := int_elem.info
  have hnews : ∀ j u, [vint x][j]? = some u → w.cell? ((⟨bs, 0, none⟩ : Addr).add j) = some u := fun j u hj => by
    have e : j = 0 := by
      have := (List.getElem?_eq_some_iff.1 hj).1
      simpa using this
    subst e
    have : (⟨bs, 0, none⟩ : Addr).add 0 = ⟨bs, 0, none⟩ := by simp [Addr.add]
    rw [this, cell_heap hx]
    simpa using hj
  have hone : ∀ u ∈ [vint x], u.oneCell' = true := fun u hu => by simp at hu; subst hu; rfl
  have hbytes : (n + 1) * 8 ≤ 140737488355328 := by omega
  have h63 : n + 1 ≤ maxLen := by unfold maxLen; omega
  obtain ⟨v', w', hr, o1, o2, _, o4⟩ := run_append_own_at (P := Try.prog) w base 22 ty 3 i _ 1 8 Try.underlying22 hi hz0 hz1 hz2 int_elem.zs int_elem.pos v n xs hown ⟨bs, 0, none⟩ 1 c [vint x] rfl hnews hone h63 hbytes hbase
  refine ⟨v', w', hr, o1, o2, ?_⟩
  rcases hown.2 with ⟨rfl, rfl⟩ | ⟨g, cap, cur, rfl, hbg, hg, hnc, hcm, hcs, htake⟩
  · exact KeepB.of_same fun k o h => (o2.block k (Array.getElem?_eq_some_iff.1 h).1 (by simp [Value.ownBlock])).trans h
  · have hglt : g < w.heap.size := (Array.getElem?_eq_some_iff.1 hg).1
    have hlen : xs.length = n := by have := hown.1; omega
    by_cases hroom : n + 1 ≤ cap
    · have hr2 := run_append_room (P := Try.prog) w 22 ty 3 i Try.underlying22 hi g n cap cur hg ⟨bs, 0, none⟩ 1 c [vint x] (by rw [hz1]; rfl) hnews hone hroom (by rw [hz1, hcs]; simp; omega)
      rw [hr] at hr2
      injection hr2 with e1 e2
      rw [hz1, Nat.mul_one] at e2
      have hcurl : cur.toList.length = cap := by rw [Array.length_toList]; omega
      rw [Nat.mul_one] at htake
      have hnew : w'.heap[g]? = some (.cells (xs ++ [vint x] ++ cur.toList.drop (n + 1)).toArray 3) := by
        rw [e2, setRow_heap w g cur _ _ _ hg, htake]
        simp
      have hsz : (xs ++ [vint x] ++ cur.toList.drop (n + 1)).toArray.size = cur.size := by
        simp only [List.size_toArray, List.length_append, List.length_drop, List.length_singleton, hcurl, hlen]; omega
      intro k cs t hk
      by_cases e : k = g
      · subst e
        rw [hg] at hk
        simp only [Option.some.injEq, Obj.cells.injEq, and_true] at hk
        obtain ⟨rfl, rfl⟩ := hk
        refine ⟨_, hnew, hsz, fun j u hj hu => ?_⟩
        rw [List.getElem?_toArray]
        have hj' : cur.toList[j]? = some u := by simpa using hj
        rcases Nat.lt_trichotomy j n with h | h | h
        · rw [List.append_assoc, List.getElem?_append_left (by omega), ← htake, List.getElem?_take, if_pos h]
          exact hj'
        · subst h
          rw [List.append_assoc, List.getElem?_append_right (by omega), hlen]
          rcases hu with hu | hu
          · exact absurd rfl hu
          · simp [hu]
        · rw [List.getElem?_append_right (by simp; omega), List.getElem?_drop]
          simp only [List.length_append, List.length_singleton, hlen]
          rw [show n + 1 + (j - (n + 1)) = j by omega]
          exact hj'
      · exact ⟨cs, (o2.block k (Array.getElem?_eq_some_iff.1 hk).1 (fun e' => e (by simpa [Value.ownBlock] using e'))).trans hk, rfl, fun _ _ h _ => h⟩
    · have holds : ∀ j u, xs[j]? = some u → w.cell? ((⟨g, 0, none⟩ : Addr).add j) = some u := hown.cells (g := g) rfl
      have hr2 := run_append_grow (P := Try.prog) w 22 ty 3 i _ Try.underlying22 hi hz0 ⟨g, 0, none⟩ n cap xs (by rw [hz1]; exact hown.1) holds ⟨bs, 0, none⟩ 1 c [vint x] (by rw [hz1]; rfl) hnews (by omega) (by omega) (by rw [hz2]; exact growslice_fits (by omega) hbytes)
      rw [hr] at hr2
      injection hr2 with e1 e2
      have hx : Ext w w' := by rw [e2]; simp
      exact KeepB.of_same fun k o h => hx.heap h

/-- The growth. -/
structure KeepR (base : Nat) (n : Nat) (x : Int) (w w' : World) : Prop where
  below : Below base w w'
  blk : KeepB n x w w'

def keepPre (base n : Nat) (x : Int) : Cf.Pre where
  R := KeepR base n x
  refl _ := ⟨Below.refl _ _, KeepB.of_same fun _ _ h => h⟩
  trans h k := ⟨h.below.trans k.below, h.blk.trans k.blk⟩
  drawn h _ := ⟨⟨h.below.os, h.below.tape, h.below.output, h.below.size, h.below.block⟩, fun k cs t hk => h.blk k cs t hk⟩
  size h := h.below.size
section
variable {base n : Nat} {x : Int} {w w' : World}
theorem KeepR.of_ext (h : Ext w w') (hb : base ≤ w.heap.size) : KeepR base n x w w' := ⟨Below.mono h hb, KeepB.of_same fun _ _ ho => h.heap ho⟩
theorem KeepR.ext {w0 : World} (h : KeepR w0.heap.size n x w0 w) : Ext w0 w := h.below
theorem KeepR.row {b k : Nat} {e : TypeId} {u : Value} {ys : List Value} (h : KeepR base n x w w') (hu : w.ownsRow b e 1 u k ys) (hy : ∀ y, ys[n]? = some y → y = vint x) : w'.ownsRow b e 1 u k ys := by
  refine ⟨hu.1, ?_⟩
  rcases hu.2 with h1 | ⟨g, cap, cur, rfl, hb, hg, hk, hm, hc, ht⟩
  · exact .inl h1
  · obtain ⟨cs', e1, e2, e3⟩ := h.blk g cur e hg
    refine .inr ⟨g, cap, cs', rfl, hb, e1, hk, hm, e2.trans hc, ?_⟩
    rw [← ht] at hy ⊢
    apply List.ext_getElem?
    intro j
    rw [List.getElem?_take, List.getElem?_take]
    split
    · rename_i hj
      have hj2 : j < cur.size := by omega
      have hcj : cur[j]? = some cur[j] := Array.getElem?_eq_getElem hj2
      have := e3 j cur[j] hcj (by
        by_cases e : j = n
        · subst e
          exact .inr (hy _ (by rw [List.getElem?_take, if_pos hj]; simp))
        · exact .inl e)
      rw [Array.getElem?_toList, Array.getElem?_toList, this, hcj]
    · rfl
theorem KeepR.lit0 {k : Nat} (h : KeepR base n x w w') (hk : w.heap[k]? = some (Obj.cells #[] 3)) : w'.heap[k]? = some (Obj.cells #[] 3) := by
  obtain ⟨cs', e1, e2, _⟩ := h.blk k _ _ hk
  rw [e1, Array.eq_empty_of_size_eq_zero e2]
theorem KeepR.lit1 {k : Nat} (h : KeepR base n x w w') (hk : w.heap[k]? = some (Obj.cells #[vint x] 3)) : w'.heap[k]? = some (Obj.cells #[vint x] 3) := by
  obtain ⟨cs', e1, e2, e3⟩ := h.blk k _ _ hk
  have h0 := e3 0 (vint x) rfl (.inr rfl)
  rw [e1]
  congr 2
  apply Array.ext
  · exact e2
  · intro j h1 h2
    have : j = 0 := by simp at h2; omega
    subst this
    exact (Array.getElem?_eq_some_iff.1 h0).2
end

/-- Numbers in a slice that begins its block. -/
def RowI (l : List Int) (v : Value) (w : World) : Prop := w.ownsRow 0 3 1 v l.length (l.map vint)
theorem RowI.later {l : List Int} {v : Value} {w w' : World} (h : RowI l v w) (he : Ext w w') : RowI l v w' := he.owns h
theorem RowI.isInts {l : List Int} {v : Value} {w : World} (h : RowI l v w) : isInts l v w := by
  have hr : w.ownsRow 0 3 1 v l.length (l.map vint) := h
  rcases h.2 with ⟨rfl, e⟩ | ⟨g, cap, cur, rfl, _⟩
  · exact ⟨none, 0, by rw [e], by rw [e] at hr; exact Row.of_own hr⟩
  · exact ⟨_, cap, rfl, Row.of_own hr⟩
theorem RowI.nil (w : World) : RowI [] (.slice none 0 0) w := World.ownsRow_nil _ _ _ _
theorem RowI.keep {base n : Nat} {x : Int} {w w' : World} {l : List Int} {v : Value} (h : RowI l v w) (hR : KeepR base n x w w') (hl : ∀ y, l[n]? = some y → y = x) : RowI l v w' :=
  hR.row h fun y hy => by
    rw [List.getElem?_map] at hy
    cases e : l[n]? with
    | none => rw [e] at hy; cases hy
    | some z => rw [e] at hy; injection hy with hy; rw [← hy, hl z e]
theorem ownsRow_zero {base : Nat} {w : World} {e : TypeId} {size n : Nat} {v : Value} {xs : List Value} (h : w.ownsRow base e size v n xs) : w.ownsRow 0 e size v n xs := by
  refine ⟨h.1, ?_⟩
  rcases h.2 with h1 | ⟨g, cap, cur, e1, _, r⟩
  · exact .inl h1
  · exact .inr ⟨g, cap, cur, e1, Nat.zero_le _, r⟩

theorem Own.mrow {w1 w : World} {A : Option Addr} {m c : Nat} {l : List Msh} (h : Own w1 w 57 6 (.slice A m c) l.length (cellsL l)) : MRow w A l := Own.row h
end Go.Proofs.Ytbclbcldplmppaa

/- The reference's Verdict. -/
namespace Go.Proofs.Ytbclbcldplmppaa
open Go.RowKit

noncomputable def looseB (m n : Nat) (L : Nat → Nat → Int) (i o : Nat) : Bool := rkF (m + 1 + 1) n (snocF (m + 1) (snocF m L (eU i)) (eU o)) != rkF (m + 1) n (snocF m L (eU i))
noncomputable def verdS (m n : Nat) (L : Nat → Nat → Int) (i o : Nat) : Int := if jamB m n L i = true then 41 else if looseB m n L i o = true then 42 else 0

theorem held_get {ms : List Msh} {S i k j : Nat} (hk : k < ms.length + 1) (hj : j < S) : getI ((gearLs ms S ++ [unitL S i]).getD k []) j = snocF ms.length (gearL ms S) (eU i) k j := by
  by_cases ek : k = ms.length
  · subst ek
    rw [snocF_at, ← getI_unitL (n := S) hj]
    congr 1
    rw [List.getD_eq_getElem?_getD, List.getElem?_append_right (by rw [gearLs_len]; exact Nat.le_refl _), gearLs_len]
    simp
  · have hk' : k < (gearLs ms S).length := by rw [gearLs_len]; omega
    rw [snocF_lt (by omega), List.getD_eq_getElem?_getD, List.getElem?_append_left hk', List.getElem?_eq_getElem hk', Option.getD_some, gearLs_get]
    rfl
theorem held_len (ms : List Msh) (S i : Nat) : (gearLs ms S ++ [unitL S i]).length = ms.length + 1 := by simp [gearLs_len]
theorem lrow_held {b w : World} {A : Option Addr} {k c S i m : Nat} {gs : List Nat} {ms : List Msh} (h : LMat b w (.slice A k c) S gs (gearLs ms S ++ [unitL S i])) (hm : m = ms.length) : LRow w A S (m + 1) (snocF m (gearL ms S) (eU i)) := by
  subst hm
  have := h.lrow
  rw [held_len] at this
  exact this.congr fun k hk j hj => held_get hk hj
theorem app_lrow_held {b w0 w : World} {v v' : Value} {S i o m : Nat} {gs : List Nat} {ms : List Msh} (hm : LMat b w0 v S gs (gearLs ms S ++ [unitL S i])) (hn : m = ms.length) (hR : ApR w0 v (m + 1) S (slL S gs) (unitL S o) b.heap.size w0 w) (hT : AppT w0 v (m + 1) S (slL S gs) (unitL S o) v' w) :
    ∃ A c, v' = .slice A (m + 1 + 1) c ∧ LRow w A S (m + 1 + 1) (snocF (m + 1) (snocF m (gearL ms S) (eU i)) (eU o)) := by
  subst hn
  rw [← held_len ms S i] at hR hT
  obtain ⟨A, c, e, h⟩ := hT.lrow hm rfl (unitL_length S o) hR
  rw [held_len] at e h
  refine ⟨A, c, e, h.congr fun k hk j hj => ?_⟩
  by_cases ek : k = ms.length + 1
  · subst ek
    rw [if_pos rfl, snocF_at, getI_unitL hj]
  · rw [if_neg ek, snocF_lt (by omega)]
    exact held_get (by omega) hj

set_option maxRecDepth 100000 in
set_option maxHeartbeats 8000000 in
theorem verdict_ref (A : Option Addr) (c S i o : Nat) (ms : List Msh) (w : World) (hA : MRow w A ms) (ht : trainP S ms) (hi : i < S) (ho : o < S) :
    Calls Try.prog 36 #[.agg #[.int .i64 S, .slice A ms.length c], .int .i64 i, .int .i64 o] w fun e w' => e = .returned (.int .i64 (verdS ms.length S (gearL ms S) i o)) ∧ Ext w w' := by
  have h8 : S ≤ 8 := by have := ht.2.1; omega
  have hS0 : 0 < S := by have := ht.1; omega
  have hl16 := ht.2.2.1
  have hsm := gearL_small ht
  have c1 := fun (w' : World) (he : Ext w w') => rows_ref A c S ms w' (hA.ext he) ht
  have c0 := fun (w' : World) (he : Ext w w') => jammed_ref A c S i ms w' (hA.ext he) ht hi
  have C1 := Lib.hid c1
  have C0 := Lib.hid c0
  have Hsm := Lib.hid hsm
  clear c0 c1 hsm hA ht
  obtain ⟨m, hm⟩ : ∃ m, m = ms.length := ⟨_, rfl⟩
  rw [← hm] at hl16 C1 C0 ⊢
  have Hm := Lib.hid hm
  clear hm
  obtain ⟨vS, hvS⟩ : ∃ vS, vS = verdS m S (gearL ms S) i o := ⟨_, rfl⟩
  obtain ⟨jB, hjB⟩ : ∃ jB, jB = jamB m S (gearL ms S) i := ⟨_, rfl⟩
  rw [← hvS]
  rw [← hjB] at C0
  have HvS := Lib.hid hvS
  have HjB := Lib.hid hjB
  clear hvS hjB
  go_enter Try.func36, Try.ntmps36
  have hexb : Ext w (w.alloc (.cells #[.int .i64 S, .slice A m c] 41)) := by simp
  have hp0 : ∀ w', Ext (w.alloc (.cells #[.int .i64 S, .slice A m c] 41)) w' → w'.cell? ⟨w.heap.size, 0, none⟩ = some (.int .i64 S) := fun w' he => he.cell (by simp)
  have hp1 : ∀ w', Ext (w.alloc (.cells #[.int .i64 S, .slice A m c] 41)) w' → w'.cell? ⟨w.heap.size, 1, none⟩ = some (.slice A m c) := fun w' he => he.cell (by simp)
  cases jB
  case true =>
    go_wp2_with (first
      | (go_at_call 79; refine (C0.out _ (by simp)).mono ?_; rintro e w1 ⟨rfl, hx1⟩))
    go_ret
    refine ⟨?_, hexb.trans hx1⟩
    have : vS = 41 := by rw [HvS.out]; unfold verdS; rw [← HjB.out, if_pos rfl]
    rw [this]; rfl
  case false =>
    go_wp2_with (first
      | (go_at_call 79; refine (C0.out _ (by simp)).mono ?_; rintro e w1 ⟨rfl, hx1⟩))
    generalize w.alloc (.cells #[.int .i64 S, .slice A m c] 41) = wb0 at *
    generalize w.heap.size = bx at *
    have hp0 : ∀ w', Ext w1 w' → _ := fun w' he => hp0 w' (hx1.trans he)
    have hp1 : ∀ w', Ext w1 w' → _ := fun w' he => hp1 w' (hx1.trans he)
    obtain ⟨wb, rfl⟩ : ∃ wb : World, wb = w1 := ⟨_, rfl⟩
    have hexb : Ext w wb := hexb.trans hx1
    clear hx1
    refine wp_region_calm 7 (fun j _ v w => if j = 1 then ∃ gs, LMat wb w v S gs (gearLs ms S) else ∃ g, v = sl g S ∧ NewInts wb w g (unitL S i)) (fun j _ v w w' he h => by
      by_cases e : j = 1
      · simp only [e, if_true] at h ⊢
        obtain ⟨gs, hm⟩ := h
        exact ⟨gs, hm.later he⟩
      · simp only [e, if_false] at h ⊢
        obtain ⟨g, e, hn⟩ := h
        exact ⟨g, e, hn.later he⟩) (by kernel_rfl) (by kernel_rfl) ?_
    simp only [List.take_succ_cons, List.take_zero, List.drop_succ_cons, List.drop_zero]
    refine calm_quiet calm_mono_final 1 (by kernel_rfl) ?_
    simp only [List.take_succ_cons, List.take_zero, List.drop_succ_cons, List.drop_zero]
    repeat (go_big_quiet_step (fail))
    refine wpQuiet_nil ?_
    refine calm_call calm_mono_final 69 #[.agg #[.int .i64 S, .slice A m c]] rfl (fun w => ?_) (fun w' he _ => ?_) ?_
    · go_simp
    · refine (C1.out w' (hexb.trans he)).mono fun e w'' h => ?_
      obtain ⟨v, gs, rfl, hm⟩ := h
      exact ⟨_, rfl, hm.own.ext, (show ∃ gs, LMat wb w'' v S gs (gearLs ms S) from ⟨gs, hm.since he⟩)⟩
    rintro v1 w1 _ hv1
    have hv1' : ∃ gs, LMat wb w1 v1 S gs (gearLs ms S) := hv1
    obtain ⟨gs0, hm0⟩ := hv1'
    have hv1 : ∃ A c, v1 = .slice A m c := by
      obtain ⟨A, c, e⟩ := hm0.own.form
      rw [gearLs_len, ← Hm.out] at e
      exact ⟨A, c, e⟩
    obtain ⟨Av, cv, rfl⟩ := hv1
    clear hm0
    simp only [Act.put, List.setIfInBounds_toArray, List.set_cons_succ, List.set_cons_zero]
    refine calm_quiet calm_mono_final 3 (by kernel_rfl) ?_
    simp only [List.take_succ_cons, List.take_zero, List.drop_succ_cons, List.drop_zero]
    repeat (go_big_quiet_step (fail))
    refine wpQuiet_nil ?_
    refine calm_call calm_mono_final 80 #[.int .i64 S, .int .i64 i] rfl (fun w => ?_) (fun w' he _ => ?_) ?_
    · go_simp
    · refine (one_ref S i w' hi (by omega)).mono fun e w'' h => ?_
      obtain ⟨g, rfl, hn⟩ := h
      exact ⟨_, rfl, hn.ext, (show ∃ g', sl g S = sl g' S ∧ NewInts wb w'' g' (unitL S i) from ⟨g, rfl, hn.since he⟩)⟩
    rintro v5 w5 _ hv5
    have hv5' : ∃ g, v5 = sl g S ∧ NewInts wb w5 g (unitL S i) := hv5
    obtain ⟨hl, rfl, _⟩ := hv5'
    clear hv5
    simp only [Act.put, List.setIfInBounds_toArray, List.set_cons_succ, List.set_cons_zero]
    refine calm_alloc calm_mono_final (fun b => .slice (some ⟨b, 0, none⟩) 1 1) (.cells #[sl hl S] 22) (fun b c h => by simpa using h) rfl (fun w => ?_) (fun b hb => ?_)
    · go_simp
    simp only [Act.put, List.setIfInBounds_toArray, List.set_cons_succ, List.set_cons_zero]
    refine calm_nil fun w3 he3 hF => ?_
    have hrow := row_heap ((hF 6).2 rfl)
    have hf5 : ∃ g, sl hl S = sl g S ∧ NewInts wb w3 g (unitL S i) := (hF 5).1.2 rfl
    obtain ⟨g', eg, hg⟩ := hf5
    have hf1 : ∃ gs, LMat wb w3 (.slice Av m cv) S gs (gearLs ms S) := (hF 1).1.1.2 rfl
    obtain ⟨gs, hmat⟩ := hf1
    simp only [sl, Value.slice.injEq, Option.some.injEq, Addr.mk.injEq, and_true] at eg
    subst eg
    clear hF
    have hgl : (gearLs ms S).length = m := by rw [gearLs_len, Hm.out]
    have hbv := hmat.own
    rw [hgl] at hbv
    go_wp2_with (first
      | (refine own_append_at (w1 := wb) slice_elem rfl _ _ 106 rfl Try.underlying106 _ m (slL S gs) rfl hbv _ 1 1 _ rfl rfl hrow (by intro u hu; simp at hu; subst hu; rfl) (by omega) (by unfold maxLen; omega) ?_; intro v' w2 ho' hgr _))
    have hheld := hmat.append (Ext.refl _) hg (unitL_length S i) (by rw [hgl]; exact ho') hgr
    obtain ⟨Ah, ch, e⟩ := ho'.form
    subst e
    have hown : w2.ownsRow wb.heap.size 22 1 (.slice Ah (m + 1) ch) (m + 1) (slL S (gs ++ [hl])) := by
      have := hheld.own.2
      rwa [held_len, ← Hm.out] at this
    have hgl2 : (gearLs ms S ++ [unitL S i]).length = m + 1 := by rw [held_len, Hm.out]
    have hxb : Ext wb w2 := hheld.own.ext
    clear hmat hbv hrow hg ho' hgr he3
    have hob : ∀ k, (Value.slice Ah (m + 1) ch).ownBlock = some k → k < w2.heap.size := fun k hk => (hown.lt k hk).2
    have hbR : ∀ w', ApR w2 (.slice Ah (m + 1) ch) (m + 1) S (slL S (gs ++ [hl])) (unitL S o) wb.heap.size w2 w' → Ext wb w' := fun w' hR => hR.ext hxb hown (Nat.le_refl _)
    have hnew : ∀ (w' w'' : World) (k : Nat) (ob : Obj), ApR w2 (.slice Ah (m + 1) ch) (m + 1) S (slL S (gs ++ [hl])) (unitL S o) wb.heap.size w' w'' → w2.heap.size ≤ k → w'.heap[k]? = some ob → w''.heap[k]? = some ob := fun w' w'' k ob hR hk ho =>
      (hR.gr.block _ (Array.getElem?_eq_some_iff.1 ho).1 (fun e => by have := hob _ e.symm; omega)).trans ho
    obtain ⟨r1, hr1⟩ : ∃ r1, r1 = rkF (m + 1 + 1) S (snocF (m + 1) (snocF m (gearL ms S) (eU i)) (eU o)) := ⟨_, rfl⟩
    obtain ⟨r2, hr2⟩ : ∃ r2, r2 = rkF (m + 1) S (snocF m (gearL ms S) (eU i)) := ⟨_, rfl⟩
    have Hr1 := Lib.hid hr1
    have Hr2 := Lib.hid hr2
    clear hr1 hr2
    have hstab : Cf.StableS (apPre w2 (.slice Ah (m + 1) ch) (m + 1) S (slL S (gs ++ [hl])) (unitL S o) wb.heap.size) (fun j _ v w => twoS w2 S (unitL S o) r1 r2 4 9 13 j v w) := fun j _ v w' w'' hR h => twoS.stable (fun k o hk ho => hnew _ _ k o hR hk ho) h
    refine Cf.wp_region_calm (p := apPre w2 (.slice Ah (m + 1) ch) (m + 1) S (slL S (gs ++ [hl])) (unitL S o) wb.heap.size) (fr := fun _ => false) 14 _ hstab (by kernel_rfl) (by kernel_rfl) ?_
    simp only [List.take_succ_cons, List.take_zero, List.drop_succ_cons, List.drop_zero]
    refine Cf.calm_quiet Cf.calm_mono_final wb hbR 4 (by kernel_rfl) ?_
    simp only [List.take_succ_cons, List.take_zero, List.drop_succ_cons, List.drop_zero]
    repeat (go_big_quiet_step (fail))
    refine wpQuiet_nil ?_
    refine Cf.calm_call Cf.calm_mono_final 80 #[.int .i64 S, .int .i64 o] rfl (fun w => ?_) (fun w' hR _ => ?_) ?_
    · go_simp
    · refine (one_ref S o w' ho (by omega)).mono fun e w'' h => ?_
      obtain ⟨g, rfl, hn⟩ := h
      exact ⟨_, rfl, ApR.of_ext hn.ext, (show LineT w2 S (unitL S o) (sl g S) w'' from ⟨g, rfl, Nat.le_trans hR.gr.size hn.2.1, hn.2.2⟩), fun hf => by cases hf⟩
    rintro v4 w4 _ hv4 _
    have hv4' : LineT w2 S (unitL S o) v4 w4 := hv4
    obtain ⟨h, rfl, hh0, _⟩ := hv4'
    clear hv4
    simp only [Act.put, List.setIfInBounds_toArray, List.set_cons_succ, List.set_cons_zero]
    refine Cf.calm_value Cf.calm_mono_final (fun v w => ∃ b, v = .slice (some ⟨b, 0, none⟩) 1 1 ∧ w2.heap.size ≤ b ∧ w.heap[b]? = some (.cells #[sl h S] 22)) (fun _ w' w'' hR ⟨b, e, hb, hh⟩ => ⟨b, e, hb, hnew _ _ _ _ hR hb hh⟩) rfl (fun w' hR _ => ⟨sl w'.heap.size 1, w'.alloc (.cells #[sl h S] 22), by go_simp, ApR.of_ext ((Ext.refl w').alloc _), ⟨_, rfl, hR.gr.size, heap_alloc_new _ _⟩, fun hf => by cases hf⟩) ?_
    rintro v5 _ _ ⟨bs, rfl, hbs, _⟩ _
    simp only [Act.put, List.setIfInBounds_toArray, List.set_cons_succ, List.set_cons_zero]
    refine Cf.calm_value Cf.calm_mono_final (fun v w => AppT w2 (.slice Ah (m + 1) ch) (m + 1) S (slL S (gs ++ [hl])) (unitL S o) v w) (fun _ w' w'' hR hT => AppT.stable hR hT) rfl (fun w' hR hf => ?_) ?_
    · obtain ⟨b', eb, _, hb2⟩ := (hf 5 (by kernel_rfl)).2 rfl
      have hl4 : LineT w2 S (unitL S o) (sl h S) w' := (hf 4 (by kernel_rfl)).1.2 rfl
      obtain ⟨h', eh, _, hh2⟩ := hl4
      simp only [sl, Value.slice.injEq, Option.some.injEq, Addr.mk.injEq, and_true] at eb eh
      subst eb eh
      obtain ⟨v', w'', hr, hR2, hT⟩ := app_run (c := 1) 106 hR hown hxb.le (by omega) hb2 hh0 hh2
      exact ⟨v', w'', exec_append _ _ 106 rfl rfl rfl hr, hR2, hT, fun hf => by cases hf⟩
    rintro v6 w6 _ hT6 _
    obtain ⟨A6, c6, e6⟩ := hT6.form
    subst e6
    clear hT6
    simp only [Act.put, List.setIfInBounds_toArray, List.set_cons_succ, List.set_cons_zero]
    refine Cf.calm_quiet Cf.calm_mono_final wb hbR 2 (by kernel_rfl) ?_
    simp only [List.take_succ_cons, List.take_zero, List.drop_succ_cons, List.drop_zero]
    repeat (go_big_quiet_step (fail))
    refine wpQuiet_nil ?_
    refine Cf.calm_call Cf.calm_mono_final 68 #[.slice A6 (m + 1 + 1) c6, .int .i64 S] rfl (fun w => ?_) (fun w' hR hf => ?_) ?_
    · go_simp
    · have hT : AppT w2 (.slice Ah (m + 1) ch) (m + 1) S (slL S (gs ++ [hl])) (unitL S o) (.slice A6 (m + 1 + 1) c6) w' := (hf 6 (by kernel_rfl)).2 rfl
      obtain ⟨A7, c7, e7, hl7⟩ := app_lrow_held hheld Hm.out hR hT
      simp only [Value.slice.injEq, true_and] at e7
      obtain ⟨rfl, rfl⟩ := e7
      have hs7 : SmallL (m + 1 + 1) S (snocF (m + 1) (snocF m (gearL ms S) (eU i)) (eU o)) := by
        have := (Hsm.out.snoc i).snoc o
        rwa [← Hm.out] at this
      refine (Rank_any A6 c6 S (m + 1 + 1) _ w' hl7 hS0 h8 (by omega) hs7).mono fun e w'' h => ?_
      obtain ⟨rfl, hx⟩ := h
      exact ⟨_, rfl, ApR.of_ext hx, (show _ = _ by rw [Hr1.out]), fun hf => by cases hf⟩
    rintro v9 w9 _ hv9 _
    have hv9' : v9 = .int .i64 r1 := hv9
    subst hv9'
    clear hv9
    simp only [Act.put, List.setIfInBounds_toArray, List.set_cons_succ, List.set_cons_zero]
    refine Cf.calm_quiet Cf.calm_mono_final wb hbR 3 (by kernel_rfl) ?_
    simp only [List.take_succ_cons, List.take_zero, List.drop_succ_cons, List.drop_zero]
    repeat (go_big_quiet_step (fail))
    refine wpQuiet_nil ?_
    refine Cf.calm_call Cf.calm_mono_final 68 #[.slice Ah (m + 1) ch, .int .i64 S] rfl (fun w => ?_) (fun w' hR hf => ?_) ?_
    · go_simp
    · have hl8 := lrow_held (hheld.apr hgl2 hR) Hm.out
      have hs8 : SmallL (m + 1) S (snocF m (gearL ms S) (eU i)) := by
        have := Hsm.out.snoc i
        rwa [← Hm.out] at this
      refine (Rank_any Ah ch S (m + 1) _ w' hl8 hS0 h8 (by omega) hs8).mono fun e w'' h => ?_
      obtain ⟨rfl, hx⟩ := h
      exact ⟨_, rfl, ApR.of_ext hx, (show _ = _ by rw [Hr2.out]), fun hf => by cases hf⟩
    rintro v13 w13 _ hv13 _
    have hv13' : v13 = .int .i64 r2 := hv13
    subst hv13'
    clear hv13
    simp only [Act.put, List.setIfInBounds_toArray, List.set_cons_succ, List.set_cons_zero]
    refine Cf.calm_nil fun w3 he3 hF => ?_
    clear hF
    have hx3 := hexb.trans (hbR w3 he3)
    have hcl : looseB m S (gearL ms S) i o = ((r1 : Int) != (r2 : Int)) := by
      rw [Bool.eq_iff_iff]
      unfold looseB
      rw [← Hr1.out, ← Hr2.out, bne_iff_ne, bne_iff_ne]
      omega
    cases hB : ((r1 : Int) != (r2 : Int))
    · have hv : vS = 0 := by rw [HvS.out]; unfold verdS; rw [← HjB.out, if_neg (by decide), hcl, hB, if_neg (by decide)]
      clear hcl
      go_wp2
      go_ret
      exact ⟨by first | rfl | (rw [hv]; rfl), hx3⟩
    · have hv : vS = 42 := by rw [HvS.out]; unfold verdS; rw [← HjB.out, if_neg (by decide), hcl, hB, if_pos rfl]
      clear hcl
      go_wp2

      go_ret
      exact ⟨by first | rfl | (rw [hv]; rfl), hx3⟩
end Go.Proofs.Ytbclbcldplmppaa

/- The reference's Free. -/
namespace Go.Proofs.Ytbclbcldplmppaa
open Go.RowKit

noncomputable def freeS (s : Int) (ms : List Msh) : Int := if trainB s ms = true then s - (rkF ms.length s.toNat (gearL ms s.toNat) : Int) else 0

set_option maxRecDepth 100000 in
set_option maxHeartbeats 4000000 in
theorem free_ref (A : Option Addr) (c : Nat) (s : Int) (ms : List Msh) (w : World) (hA : MRow w A ms) (hl : ms.length ≤ 1000000) :
    Calls Try.prog 27 #[.agg #[.int .i64 s, .slice A ms.length c]] w fun e w' => e = .returned (.tuple #[.int .i64 (freeS s ms), .int .i64 (trainE s ms)]) ∧ Ext w w' := by
  have c0 := fun (w' : World) (he : Ext w w') => train_ref A c s ms w' (hA.ext he) hl
  have C0 := Lib.hid c0
  clear c0
  cases hB : trainB s ms
  case false =>
    have e1 : freeS s ms = 0 := by unfold freeS; rw [hB, if_neg (by decide)]
    have e2 : trainE s ms = 40 := by unfold trainE; rw [hB, if_neg (by decide)]
    rw [e1, e2]
    rw [hB] at C0
    clear e1 e2
    generalize ms.length = m at *
    go_enter Try.func27, Try.ntmps27
    go_wp2_with (first
      | (go_at_call 45; refine (C0.out _ (by simp)).mono ?_; rintro e w1 ⟨rfl, hx1⟩))
    go_ret2
    exact ⟨rfl, Ext.trans (by simp) hx1⟩
  case true =>
    have ht : trainP s ms := of_decide_eq_true hB
    obtain ⟨S, rfl⟩ : ∃ S : Nat, s = S := ⟨s.toNat, by have := ht.1; omega⟩
    have h8 : S ≤ 8 := by have := ht.2.1; omega
    have hS0 : 0 < S := by have := ht.1; omega
    have hl16 := ht.2.2.1
    have hsm := gearL_small ht
    have c1 := fun (w' : World) (he : Ext w w') => rows_ref A c S ms w' (hA.ext he) ht
    have C1 := Lib.hid c1
    have Hsm := Lib.hid hsm
    have e1 : freeS S ms = (S : Int) - (rkF ms.length S (gearL ms S) : Int) := by unfold freeS; rw [hB, if_pos rfl]; simp
    have e2 : trainE S ms = 0 := by unfold trainE; rw [hB, if_pos rfl]
    have hrk : rkF ms.length S (gearL ms S) ≤ S := (rkF_is ms.length S (gearL ms S)).le
    rw [e1, e2]
    rw [hB] at C0
    clear c1 hsm hA ht e1 e2 hB
    obtain ⟨m, hm⟩ : ∃ m, m = ms.length := ⟨_, rfl⟩
    rw [← hm] at hl16 C1 C0 hrk ⊢
    have Hm := Lib.hid hm
    clear hm
    obtain ⟨r, hr⟩ : ∃ r, r = rkF m S (gearL ms S) := ⟨_, rfl⟩
    rw [← hr] at hrk ⊢
    have Hr := Lib.hid hr
    clear hr hl
    have ew : IntKind.i64.wrap ((S : Int) - (r : Int)) = (S : Int) - (r : Int) := by rw [IntKind.wrap_i64]; omega
    go_enter Try.func27, Try.ntmps27
    have hexb : Ext w (w.alloc (.cells #[.int .i64 S, .slice A m c] 41)) := by simp
    have hp0 : ∀ w', Ext (w.alloc (.cells #[.int .i64 S, .slice A m c] 41)) w' → w'.cell? ⟨w.heap.size, 0, none⟩ = some (.int .i64 S) := fun w' he => he.cell (by simp)
    have hp1 : ∀ w', Ext (w.alloc (.cells #[.int .i64 S, .slice A m c] 41)) w' → w'.cell? ⟨w.heap.size, 1, none⟩ = some (.slice A m c) := fun w' he => he.cell (by simp)
    go_wp2_with (first
      | (go_at_call 45; refine (C0.out _ (by simp)).mono ?_; rintro e wb ⟨rfl, hx1⟩))
    generalize w.alloc (.cells #[.int .i64 S, .slice A m c] 41) = wb0 at *
    generalize w.heap.size = bx at *
    have hp0 : ∀ w', Ext wb w' → _ := fun w' he => hp0 w' (hx1.trans he)
    have hp1 : ∀ w', Ext wb w' → _ := fun w' he => hp1 w' (hx1.trans he)
    have hexb : Ext w wb := hexb.trans hx1
    clear hx1
    refine wp_region_calm 7 (fun j _ v w => if j = 3 then ∃ gs, LMat wb w v S gs (gearLs ms S) else v = .int .i64 (r : Int)) (fun j _ v w w' he h => by
      by_cases e : j = 3
      · simp only [e, if_true] at h ⊢
        obtain ⟨gs, hm⟩ := h
        exact ⟨gs, hm.later he⟩
      · simp only [e, if_false] at h ⊢
        exact h) (by kernel_rfl) (by kernel_rfl) ?_
    simp only [List.take_succ_cons, List.take_zero, List.drop_succ_cons, List.drop_zero]
    refine calm_quiet calm_mono_final 3 (by kernel_rfl) ?_
    simp only [List.take_succ_cons, List.take_zero, List.drop_succ_cons, List.drop_zero]
    repeat (go_big_quiet_step (fail))
    refine wpQuiet_nil ?_
    refine calm_call calm_mono_final 69 #[.agg #[.int .i64 S, .slice A m c]] rfl (fun w => ?_) (fun w' he _ => ?_) ?_
    · go_simp
    · refine (C1.out w' (hexb.trans he)).mono fun e w'' h => ?_
      obtain ⟨v, gs, rfl, hm⟩ := h
      exact ⟨_, rfl, hm.own.ext, (show ∃ gs, LMat wb w'' v S gs (gearLs ms S) from ⟨gs, hm.since he⟩)⟩
    rintro v1 w1 _ hv1
    have hv1' : ∃ gs, LMat wb w1 v1 S gs (gearLs ms S) := hv1
    obtain ⟨gs0, hm0⟩ := hv1'
    have hv1 : ∃ A c, v1 = .slice A m c := by
      obtain ⟨A, c, e⟩ := hm0.own.form
      rw [gearLs_len, ← Hm.out] at e
      exact ⟨A, c, e⟩
    obtain ⟨Av, cv, rfl⟩ := hv1
    clear hm0
    simp only [Act.put, List.setIfInBounds_toArray, List.set_cons_succ, List.set_cons_zero]
    refine calm_quiet calm_mono_final 2 (by kernel_rfl) ?_
    simp only [List.take_succ_cons, List.take_zero, List.drop_succ_cons, List.drop_zero]
    repeat (go_big_quiet_step (fail))
    refine wpQuiet_nil ?_
    refine calm_call calm_mono_final 68 #[.slice Av m cv, .int .i64 S] rfl (fun w => ?_) (fun w' he hf => ?_) ?_
    · go_simp
    · have hT : ∃ gs, LMat wb w' (.slice Av m cv) S gs (gearLs ms S) := (hf 3 (by kernel_rfl)).2 rfl
      obtain ⟨gs, hm⟩ := hT
      have hl8 := hm.lrow'
      rw [← Hm.out] at hl8
      have hs8 : SmallL m S (gearL ms S) := by
        have := Hsm.out
        rwa [← Hm.out] at this
      refine (Rank_any Av cv S m _ w' hl8 hS0 h8 (by omega) hs8).mono fun e w'' h => ?_
      obtain ⟨rfl, hx⟩ := h
      exact ⟨_, rfl, hx, (show _ = _ by rw [Hr.out])⟩
    rintro v6 w6 _ hv6
    have hv6' : v6 = .int .i64 r := hv6
    subst hv6'
    clear hv6
    simp only [Act.put, List.setIfInBounds_toArray, List.set_cons_succ, List.set_cons_zero]
    refine calm_nil fun w3 he3 hF => ?_
    clear hF
    have hx3 := hexb.trans he3
    go_wp2
    go_ret2
    exact ⟨rfl, hx3⟩
end Go.Proofs.Ytbclbcldplmppaa

/- The code's Free. -/
namespace Go.Proofs.Ytbclbcldplmppaa
open Go.RowKit

theorem exec_len {a : Act} {o : Oper} {w : World} {mb n : Nat} {D : DataW Unit} (m : Operand) (hop : o.op = Op.call { callee := Callee.builtin Builtin.len, args := #[m], argTypes := #[99] }) (hm : a.eval m = .map (some mb)) (hown : MapI w mb n D) :
    (execOp a.eval o).run Try.prog w = .ok (.value (.int .i64 (Maps.size D))) w := by
  simp [execOp, hop, resolve, invoke, builtin, hm, hown.len Try.underlying99 o.type, Result.andThen]

theorem field_of (v ordv z : Value) (mb : Nat) (w : World) : (Instr.field 101 (.agg #[v, .map (some mb), ordv, z]) 1).run Try.prog w = .ok (.map (some mb)) w := by kernel_rfl

/-- What the calls hand back: equations, an order, and the solved ones. -/
def solS (b : World) (ms : List Msh) (S : Nat) (cols : List Nat) (j1 j2 j3 j : Nat) (v : Value) (w : World) : Prop := bif j == j1 then isRows b ms S v w else bif j == j2 then isNats cols v w else bif j == j3 then isSolved b ms S cols v w else True
theorem solS.later {b w w' : World} {ms : List Msh} {S : Nat} {cols : List Nat} {j1 j2 j3 j : Nat} {v : Value} (he : Ext w w') (h : solS b ms S cols j1 j2 j3 j v w) : solS b ms S cols j1 j2 j3 j v w' := by
  unfold solS at h ⊢
  cases h1 : (j == j1)
  · rw [h1] at h
    simp only [cond_false] at h ⊢
    cases h2 : (j == j2)
    · rw [h2] at h
      simp only [cond_false] at h ⊢
      cases h3 : (j == j3)
      · rw [h3] at h; exact h
      · rw [h3] at h; exact isSolved.later h he
    · rw [h2] at h; exact isNats.later h he
  · rw [h1] at h; exact isRows.later h he

theorem isSolved.rk {b w : World} {ms : List Msh} {S : Nat} {cols : List Nat} {v ordv : Value} {mb : Nat} {d : Int} (h : isSolved b ms S cols (.agg #[v, .map (some mb), ordv, .int .i64 d]) w) (hall : ∀ c, c < S → c ∈ cols) : ∃ n D, MapI w mb n D ∧ Maps.size D = rkF ms.length S (gearL ms S) := by
  obtain ⟨v', ordv', mb', g, h, σ, pv, M, d', D, e, hs, hm, hp, hd, ho⟩ := h
  simp only [Value.agg.injEq, Array.mk.injEq, List.cons.injEq, Value.map.injEq, Option.some.injEq, and_true] at e
  obtain ⟨_, rfl, _⟩ := e
  exact ⟨pv.length, D, hp, by rw [hs.rk hall, hd.size, colsP_len]⟩

set_option maxRecDepth 100000 in
set_option maxHeartbeats 4000000 in
theorem free_any (A : Option Addr) (c : Nat) (s : Int) (ms : List Msh) (w : World) (hA : MRow w A ms) (hl : ms.length ≤ 1000000) :
    Calls Try.prog 26 #[.agg #[.int .i64 s, .slice A ms.length c]] w fun e w' => e = .returned (.tuple #[.int .i64 (freeS s ms), .int .i64 (trainE s ms)]) ∧ Ext w w' := by
  have c0 := fun (w' : World) (he : Ext w w') => check_any A c s ms w' (hA.ext he) hl
  have C0 := Lib.hid c0
  clear c0
  cases hB : trainB s ms
  case false =>
    have e1 : freeS s ms = 0 := by unfold freeS; rw [hB, if_neg (by decide)]
    have e2 : trainE s ms = 40 := by unfold trainE; rw [hB, if_neg (by decide)]
    rw [e2] at C0
    rw [e1, e2]
    clear e1 e2
    generalize ms.length = m at *
    go_enter Try.func26, Try.ntmps26
    go_wp2_with (first
      | (go_at_call 24; refine (C0.out _ (by simp)).mono ?_; rintro e w1 ⟨rfl, hx1⟩))
    go_ret2
    exact ⟨rfl, Ext.trans (by simp) hx1⟩
  case true =>
    have ht : trainP s ms := of_decide_eq_true hB
    obtain ⟨S, rfl⟩ : ∃ S : Nat, s = S := ⟨s.toNat, by have := ht.1; omega⟩
    have h8 : S ≤ 8 := by have := ht.2.1; omega
    have c1 := fun (w' : World) (he : Ext w w') => rows_is A c S ms w' (hA.ext he) ht
    have C1 := Lib.hid c1
    have e1 : freeS S ms = (S : Int) - (rkF ms.length S (gearL ms S) : Int) := by unfold freeS; rw [hB, if_pos rfl]; simp
    have e2 : trainE S ms = 0 := by unfold trainE; rw [hB, if_pos rfl]
    have hrk : rkF ms.length S (gearL ms S) ≤ S := (rkF_is ms.length S (gearL ms S)).le
    have HT := Lib.hid ht
    rw [e2] at C0
    rw [e1, e2]
    clear c1 hA ht e1 e2 hB
    obtain ⟨m, hm⟩ : ∃ m, m = ms.length := ⟨_, rfl⟩
    rw [← hm] at C1 C0 hrk ⊢
    have Hm := Lib.hid hm
    clear hm
    obtain ⟨r, hr⟩ : ∃ r, r = rkF m S (gearL ms S) := ⟨_, rfl⟩
    rw [← hr] at hrk ⊢
    have Hr := Lib.hid hr
    clear hr hl
    have ew : IntKind.i64.wrap ((S : Int) - (r : Int)) = (S : Int) - (r : Int) := by rw [IntKind.wrap_i64]; omega
    obtain ⟨cols, hcols⟩ : ∃ cols, cols = ordN S [] [] := ⟨_, rfl⟩
    have hc1 : ∀ c ∈ cols, c < S := by rw [hcols]; exact ordN_lt (by simp)
    have hc2 : cols.length ≤ 1000 := by have := ordN_len (S := S) (ex := []) (tl := []) (by simp); rw [hcols]; omega
    have hc3 : ∀ c, c < S → c ∈ cols := by rw [hcols]; exact ordN_all (by simp)
    have hc4 : ordS S [] = cols.map fun (k : Nat) => (k : Int) := by rw [hcols]; exact ordS_nil S
    clear hcols
    have Hc1 := Lib.hid hc1
    have Hc3 := Lib.hid hc3
    have Hc4 := Lib.hid hc4
    clear hc1 hc3 hc4
    go_enter Try.func26, Try.ntmps26
    have hexb : Ext w (w.alloc (.cells #[.int .i64 S, .slice A m c] 41)) := by simp
    have hp0 : ∀ w', Ext (w.alloc (.cells #[.int .i64 S, .slice A m c] 41)) w' → w'.cell? ⟨w.heap.size, 0, none⟩ = some (.int .i64 S) := fun w' he => he.cell (by simp)
    have hp1 : ∀ w', Ext (w.alloc (.cells #[.int .i64 S, .slice A m c] 41)) w' → w'.cell? ⟨w.heap.size, 1, none⟩ = some (.slice A m c) := fun w' he => he.cell (by simp)
    go_wp2_with (first
      | (go_at_call 24; refine (C0.out _ (by simp)).mono ?_; rintro e wb ⟨rfl, hx1⟩))
    generalize w.alloc (.cells #[.int .i64 S, .slice A m c] 41) = wb0 at *
    generalize w.heap.size = bx at *
    have hp0 : ∀ w', Ext wb w' → _ := fun w' he => hp0 w' (hx1.trans he)
    have hp1 : ∀ w', Ext wb w' → _ := fun w' he => hp1 w' (hx1.trans he)
    have hexb : Ext w wb := hexb.trans hx1
    clear hx1
    refine Cf.wp_region_calm (p := Cf.extPre) (fr := fun _ => false) 9 (fun j _ v w => solS wb ms S cols 3 5 6 j v w) (fun _ _ _ _ _ he h => h.later he) (by kernel_rfl) (by kernel_rfl) ?_
    simp only [List.take_succ_cons, List.take_zero, List.drop_succ_cons, List.drop_zero]
    refine Cf.calm_quiet Cf.calm_mono_final wb (fun _ h => h) 3 (by kernel_rfl) ?_
    simp only [List.take_succ_cons, List.take_zero, List.drop_succ_cons, List.drop_zero]
    repeat (go_big_quiet_step (fail))
    refine wpQuiet_nil ?_
    refine Cf.calm_call Cf.calm_mono_final 66 #[.agg #[.int .i64 S, .slice A m c]] rfl (fun w => ?_) (fun w' he _ => ?_) ?_
    · go_simp
    · refine (C1.out w' (hexb.trans he)).mono fun e w'' h => ?_
      obtain ⟨v, rfl, hx, rs, h1, h2⟩ := h
      exact ⟨_, rfl, hx, (show isRows wb ms S v w'' from ⟨rs, h1.since he, h2⟩), fun hf => by cases hf⟩
    intro v3 w3 _ _ _
    simp only [Act.put, List.setIfInBounds_toArray, List.set_cons_succ, List.set_cons_zero]
    refine Cf.calm_quiet Cf.calm_mono_final wb (fun _ h => h) 1 (by kernel_rfl) ?_
    simp only [List.take_succ_cons, List.take_zero, List.drop_succ_cons, List.drop_zero]
    repeat (go_big_quiet_step (fail))
    refine wpQuiet_nil ?_
    refine Cf.calm_call Cf.calm_mono_final 67 #[.agg #[.int .i64 S, .slice A m c], .slice none 0 0] rfl (fun w => ?_) (fun w' he _ => ?_) ?_
    · go_simp
    · refine (order_nil S (.slice A m c) w' w' (Ext.refl _) h8).mono fun e w'' h => ?_
      obtain ⟨Ao, co, rfl, h1, h2⟩ := h
      rw [Hc4.out] at h1 ⊢
      exact ⟨_, rfl, h2, (show isNats cols _ w'' from ⟨Ao, co, rfl, h1⟩), fun hf => by cases hf⟩
    intro v5 w5 _ _ _
    simp only [Act.put, List.setIfInBounds_toArray, List.set_cons_succ, List.set_cons_zero]
    refine Cf.calm_call Cf.calm_mono_final 65 #[v3, v5] rfl (fun w => ?_) (fun w' he hf => ?_) ?_
    · go_simp
    · have f3 : isRows wb ms S v3 w' := (hf 3 (by kernel_rfl)).1.2 rfl
      have f5 : isNats cols v5 w' := (hf 5 (by kernel_rfl)).2 rfl
      refine (solve_is HT.out f3 f5 Hc1.out hc2).mono fun e w'' h => ?_
      obtain ⟨v, rfl, hx, h1⟩ := h
      exact ⟨_, rfl, hx, (show isSolved wb ms S cols v w'' from h1.since he), fun hf => by cases hf⟩
    intro v6 w6 _ hv6 _
    have hv6' : isSolved wb ms S cols v6 w6 := hv6
    obtain ⟨v, ordv, mb, _, _, _, _, _, d, _, rfl, _⟩ := hv6'
    clear hv6
    simp only [Act.put, List.setIfInBounds_toArray, List.set_cons_succ, List.set_cons_zero]
    refine Cf.calm_value Cf.calm_mono_final (fun v _ => v = .map (some mb)) (fun _ _ _ _ h => h) rfl (fun w' he hf => ⟨.map (some mb), w', by have hfd := field_of v ordv (.int .i64 d) mb w'; go_simp, Ext.refl _, rfl, fun hf => by cases hf⟩) ?_
    rintro v7 w7 _ rfl _
    simp only [Act.put, List.setIfInBounds_toArray, List.set_cons_succ, List.set_cons_zero]
    refine Cf.calm_value Cf.calm_mono_final (fun v _ => v = .int .i64 (r : Int)) (fun _ _ _ _ h => h) rfl (fun w' he hf => ?_) ?_
    · have f6 : isSolved wb ms S cols (.agg #[v, .map (some mb), ordv, .int .i64 d]) w' := (hf 6 (by kernel_rfl)).1.2 rfl
      obtain ⟨n, D, hp, hsz⟩ := f6.rk Hc3.out
      refine ⟨_, w', exec_len _ rfl rfl hp, Ext.refl _, by rw [hsz, ← Hm.out, ← Hr.out], fun hf => by cases hf⟩
    rintro v8 w8 _ rfl _
    simp only [Act.put, List.setIfInBounds_toArray, List.set_cons_succ, List.set_cons_zero]
    refine Cf.calm_nil fun w9 he9 hF => ?_
    clear hF
    have hx9 := hexb.trans he9
    go_wp2
    go_ret2
    exact ⟨rfl, hx9⟩
end Go.Proofs.Ytbclbcldplmppaa

/- A solved train's map, looked up; the code's search for clutches that slip. -/
namespace Go.Proofs.Ytbclbcldplmppaa
open Go.RowKit

theorem MapIs.look {w : World} {mb n : Nat} {D : DataW Unit} {cs : List Nat} (h : MapIs D cs) (hM : MapI w mb n D) (x : Nat) (hx : x < 900) :
    ∃ c : Int, (Instr.lookup 99 (.map (some mb)) (.int .i64 x) true).run Try.prog w = .ok (.tuple #[.int .i64 c, .bool (decide (x ∈ cs))]) w ∧ ∀ k (hk : k < cs.length), cs[k] = x → c = (k : Int) := by
  have hkey := Maps.keyOf_int_mk (P := Try.prog) Try.underlying3 (wf_nat x (by omega))
  obtain ⟨i, hi, hz0, hz1, hz2⟩ := int_elem.info
  obtain ⟨v, ps, hrun, hv⟩ := hM.look_ok (Maps.int_keyed Try.underlying3) Try.underlying99 (z := .int .i64 0) (by simp [zeroValue, typeInfo, hi, hz0]) (plainElem_int Try.underlying3 (by decide)) hkey
  obtain ⟨c, rfl, hc, _⟩ := plainElem_int_inv Try.underlying3 hv
  rw [h.has] at hrun
  refine ⟨c, hrun, fun k hk e => ?_⟩
  have h1 := h.at_ k hk (.lit (.int .i64 0))
  rw [e] at h1
  have h2 := congrArg Prod.fst hc
  simp only at h2
  rw [h1] at h2
  simpa using h2.symm

/-- A jam, by the map. -/
theorem isSolved.lookJam {b w : World} {ms : List Msh} {S i : Nat} {v ordv : Value} {mb : Nat} {d : Int} (h : isSolved b ms S (ordN S [i] [i]) (.agg #[v, .map (some mb), ordv, .int .i64 d]) w) (hi : i < S) (h8 : S ≤ 8) :
    ∃ c : Int, (Instr.lookup 99 (.map (some mb)) (.int .i64 i) true).run Try.prog w = .ok (.tuple #[.int .i64 c, .bool (jamB ms.length S (gearL ms S) i)]) w := by
  obtain ⟨v', ordv', mb', g, h, σ, pv, M, d', D, e, hs, hm, hp, hd, ho⟩ := h
  simp only [Value.agg.injEq, Array.mk.injEq, List.cons.injEq, Value.map.injEq, Option.some.injEq, and_true] at e
  obtain ⟨_, rfl, _⟩ := e
  obtain ⟨c, hc, _⟩ := hd.look hp i (by omega)
  refine ⟨c, ?_⟩
  have hj := hs.jam (ordN_all (ex := [i]) (tl := [i]) (fun c hc => hc)) (c1 := (List.range S).filter (fun k => decide (k ∉ [i]))) (i := i) rfl (ordN_nodup (ex := [i]) (tl := [i]) (fun c hc => hc) (by simp)) hi
  have e2 : jamB ms.length S (gearL ms S) i = decide (i ∈ colsP pv) := by
    rw [Bool.eq_iff_iff, decide_eq_true_iff, ← hj]
    unfold jamB isJam
    exact beq_iff_eq
  rw [e2]
  exact hc

theorem slice_full {A : Option Addr} {q d : Nat} (w : World) (hA : A = none ∨ ∃ g, A = some ⟨g, 0, none⟩) (h : q ≤ d) : (Instr.slice 22 (.slice A q d) none (some (.int .i64 q)) (some (.int .i64 q))).run Try.prog w = .ok (.slice A q q) w := by
  obtain ⟨i, hi, hz0, hz1, hz2⟩ := int_elem.info
  rcases hA with rfl | ⟨g, rfl⟩
  · simp [Instr.slice, Instr.sliceBounds, Instr.sliceBound, asIntOf, run_underlying Try.underlying22, sizeOf, typeInfo, hi, h, Addr.add]
  · simp [Instr.slice, Instr.sliceBounds, Instr.sliceBound, asIntOf, run_underlying Try.underlying22, sizeOf, typeInfo, hi, h, Addr.add]
end Go.Proofs.Ytbclbcldplmppaa
