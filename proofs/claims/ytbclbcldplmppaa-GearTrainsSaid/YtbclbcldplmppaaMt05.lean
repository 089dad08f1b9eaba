/- Elimination without fractions: its divisions are exact, and its entries are determinants. Plain Lean. -/
import Derived.Test.YtbclbcldplmppaaProg
import Derived.Lib.Hide
import Derived.BigRegion
import Derived.WalkMore
import Derived.Test.YtbclbcldplmppaaMt04
namespace Go.Proofs.Ytbclbcldplmppaa

section
variable {ι : Type}
theorem D_mem_left {u : ι → Int} {Z : List (ι → Int)} (h : u ∈ Z) (X : List (ι → Int)) (R : List ι) : D (Z ++ u :: X) R = 0 := by
  obtain ⟨Z1, Z2, rfl⟩ := List.append_of_mem h
  rw [List.append_assoc, List.cons_append]
  exact D_same _ _ _ _ _
theorem D_mem_right {u : ι → Int} {X : List (ι → Int)} (h : u ∈ X) (Z : List (ι → Int)) (R : List ι) : D (Z ++ u :: X) R = 0 := by
  obtain ⟨X1, X2, rfl⟩ := List.append_of_mem h
  exact D_same _ _ _ _ _
end

/-- The column of a matrix, as a function of the row. -/
def col (A : Nat → Nat → Int) (j : Nat) : Nat → Int := fun i => A i j
def rowsOf (pv : List (Nat × Nat)) : List Nat := pv.map (·.1)
def colsOf (A : Nat → Nat → Int) (pv : List (Nat × Nat)) : List (Nat → Int) := pv.map fun q => col A q.2

theorem mem_cols {A : Nat → Nat → Int} {pv : List (Nat × Nat)} {q : Nat × Nat} (h : q ∈ pv) : col A q.2 ∈ colsOf A pv := List.mem_map.2 ⟨q, h, rfl⟩

/-- The state: pivots (row, column) in their order; M: the rows as they are now; d: the scale. -/
structure Bar (A : Nat → Nat → Int) (m : Nat) (pv : List (Nat × Nat)) (M : Nat → Nat → Int) (d : Int) : Prop where
  nodup : (rowsOf pv).Nodup
  lt : ∀ q ∈ pv, q.1 < m
  ne : d ≠ 0
  det : d = D (colsOf A pv) (rowsOf pv)
  rel : ∀ x, x < m → ∀ j, d * A x j = (if x ∈ rowsOf pv then 0 else M x j) + S pv fun q => A x q.2 * M q.1 j

theorem Bar.start (A : Nat → Nat → Int) (m : Nat) : Bar A m [] A 1 :=
  ⟨by simp [rowsOf], by simp, by decide, rfl, fun x _ j => by simp [rowsOf]⟩

/-- Cramer: x times a column is a combination of the pivots' columns (and of a unit vector at i, of which 'none' speaks). -/
theorem cramer_at {A : Nat → Nat → Int} {pre post : List (Nat × Nat)} {q0 : Nat × Nat} {e : Int} {y : Nat × Nat → Int} {j : Nat} {R : List Nat}
    (h : ∀ x ∈ R, e * A x j = S (pre ++ q0 :: post) fun q => y q * A x q.2) :
    e * D (colsOf A pre ++ col A j :: colsOf A post) R = y q0 * D (colsOf A (pre ++ q0 :: post)) R := by
  have h1 := D_sum [()] (fun _ => e) (fun _ => col A j) (colsOf A pre) (colsOf A post) R
  simp only [S_cons, S_nil, Int.add_zero] at h1
  have h2 := D_sum (pre ++ q0 :: post) y (fun q => col A q.2) (colsOf A pre) (colsOf A post) R
  rw [← h1]
  refine (D_at _ (fun r => S (pre ++ q0 :: post) fun k => y k * col A k.2 r) (colsOf A post) (colsOf A pre) R (fun r hr => h r hr)).trans (h2.trans ?_)
  rw [S_append, S_cons]
  rw [S_zero (l := pre) fun q hq => by rw [D_mem_left (mem_cols hq), Int.mul_zero], S_zero (l := post) fun q hq => by rw [D_mem_right (mem_cols hq), Int.mul_zero]]
  simp [colsOf]

def optC (y : Nat × Nat → Int) (z : Int) : Option (Nat × Nat) → Int | some q => y q | none => z
def optV (A : Nat → Nat → Int) (i : Nat) : Option (Nat × Nat) → Nat → Int | some q => col A q.2 | none => fun x => if x = i then 1 else 0

theorem cramer_out {A : Nat → Nat → Int} {pv : List (Nat × Nat)} {e z : Int} {y : Nat × Nat → Int} {i j : Nat} {R : List Nat} (hl : pv.length = R.length) (hi : i ∉ R)
    (h : ∀ x ∈ R, e * A x j = S pv fun q => y q * A x q.2) (h' : e * A i j = z + S pv fun q => y q * A i q.2) :
    e * D (colsOf A pv ++ [col A j]) (R ++ [i]) = z * D (colsOf A pv) R := by
  have h1 := D_sum [()] (fun _ => e) (fun _ => col A j) (colsOf A pv) [] (R ++ [i])
  simp only [S_cons, S_nil, Int.add_zero] at h1
  have h2 := D_sum (pv.map some ++ [none]) (optC y z) (optV A i) (colsOf A pv) [] (R ++ [i])
  rw [← h1]
  refine (D_at _ (fun r => S (pv.map some ++ [none]) fun o => optC y z o * optV A i o r) [] (colsOf A pv) (R ++ [i]) (fun r hr => ?_)).trans (h2.trans ?_)
  · rw [S_append, S_map]
    simp only [S_cons, S_nil, Int.add_zero, optC, optV]
    rcases List.mem_append.1 hr with hr | hr
    · have : r ≠ i := fun he => hi (he ▸ hr)
      simp only [this, if_false, Int.mul_zero, Int.add_zero]
      exact h r hr
    · simp only [List.mem_singleton] at hr
      subst hr
      simp only [if_true, Int.mul_one]
      rw [Int.add_comm]
      exact h'
  · rw [S_append, S_map]
    simp only [S_cons, S_nil, Int.add_zero, optC, optV]
    rw [S_zero fun q hq => by rw [D_mem_left (mem_cols hq), Int.mul_zero], Int.zero_add]
    rw [D_unit _ i (by simp) _ _ (by simp [colsOf, hl]) fun r hr => by simp; intro he; subst he; exact hi hr]

section
variable {A : Nat → Nat → Int} {m : Nat} {pv : List (Nat × Nat)} {M : Nat → Nat → Int} {d : Int}

theorem rowsOf_length (pv : List (Nat × Nat)) : (rowsOf pv).length = pv.length := by simp [rowsOf]
theorem Bar.in_ (h : Bar A m pv M d) {x : Nat} (hx : x ∈ rowsOf pv) (j : Nat) : d * A x j = S pv fun q => M q.1 j * A x q.2 := by
  have hm : x < m := by
    obtain ⟨q, hq, rfl⟩ := List.mem_map.1 hx
    exact h.lt q hq
  have := h.rel x hm j
  rw [if_pos hx, Int.zero_add] at this
  rw [this]
  exact S_congr fun q _ => Int.mul_comm _ _
theorem Bar.out_ (h : Bar A m pv M d) {x : Nat} (hm : x < m) (hx : x ∉ rowsOf pv) (j : Nat) : d * A x j = M x j + S pv fun q => M q.1 j * A x q.2 := by
  have := h.rel x hm j
  rw [if_neg hx] at this
  rw [this]
  congr 1
  exact S_congr fun q _ => Int.mul_comm _ _

/-- A pivot's row: determinants with its column replaced. -/
theorem Bar.pivot (h : Bar A m pv M d) {pre post : List (Nat × Nat)} {q0 : Nat × Nat} (hp : pv = pre ++ q0 :: post) (j : Nat) : M q0.1 j = D (colsOf A pre ++ col A j :: colsOf A post) (rowsOf pv) := by
  have h1 := cramer_at (A := A) (pre := pre) (post := post) (q0 := q0) (e := d) (y := fun q => M q.1 j) (j := j) (R := rowsOf pv) (fun x hx => by rw [← hp]; exact h.in_ hx j)
  rw [← hp, ← h.det, Int.mul_comm (M q0.1 j)] at h1
  exact (Int.eq_of_mul_eq_mul_left h.ne h1).symm
/-- Another row. -/
theorem Bar.other (h : Bar A m pv M d) {i : Nat} (hm : i < m) (hi : i ∉ rowsOf pv) (j : Nat) : M i j = D (colsOf A pv ++ [col A j]) (rowsOf pv ++ [i]) := by
  have h1 := cramer_out (A := A) (pv := pv) (e := d) (z := M i j) (y := fun q => M q.1 j) (i := i) (j := j) (R := rowsOf pv) (rowsOf_length pv).symm hi (fun x hx => h.in_ hx j) (h.out_ hm hi j)
  rw [← h.det, Int.mul_comm (M i j)] at h1
  exact (Int.eq_of_mul_eq_mul_left h.ne h1).symm

/-- The rows behind a pivot at row i0, column c, before the division. -/
def raw (M : Nat → Nat → Int) (i0 c x j : Nat) : Int := M i0 c * M x j - M x c * M i0 j

theorem raw_rel (h : Bar A m pv M d) {i0 c : Nat} (x : Nat) (hx : x < m) (j : Nat) :
    d * M i0 c * A x j = (if x ∈ rowsOf pv then 0 else raw M i0 c x j) + (S pv fun q => A x q.2 * raw M i0 c q.1 j) + A x c * (d * M i0 j) := by
  have h1 := h.rel x hx j
  have h2 := h.rel x hx c
  have h3 : S pv (fun q => A x q.2 * raw M i0 c q.1 j) = M i0 c * S pv (fun q => A x q.2 * M q.1 j) - S pv (fun q => A x q.2 * M q.1 c) * M i0 j := by
    rw [← S_mul, ← S_mul_right, Int.sub_eq_add_neg, ← S_neg, ← S_add]
    refine S_congr fun q _ => ?_
    unfold raw
    rw [Int.mul_sub, Int.sub_eq_add_neg, Int.mul_left_comm, Int.mul_assoc]
  rw [h3]
  generalize S pv (fun q => A x q.2 * M q.1 j) = s1 at *
  generalize S pv (fun q => A x q.2 * M q.1 c) = s2 at *
  have e1 : d * M i0 c * A x j = M i0 c * (d * A x j) := by rw [Int.mul_comm d, Int.mul_assoc]
  have e2 : A x c * (d * M i0 j) = (d * A x c) * M i0 j := by rw [Int.mul_left_comm, Int.mul_assoc]
  rw [e1, e2, h1, h2]
  split
  · simp only [Int.zero_add]; omega
  · unfold raw
    rw [Int.mul_add, Int.add_mul]
    omega

variable {i0 c : Nat}

theorem step_det (h : Bar A m pv M d) (h0 : i0 < m) (hi : i0 ∉ rowsOf pv) : M i0 c = D (colsOf A (pv ++ [(i0, c)])) (rowsOf (pv ++ [(i0, c)])) := by
  rw [h.other h0 hi c]
  simp [colsOf, rowsOf]

theorem rows_snoc (pv : List (Nat × Nat)) (q : Nat × Nat) : rowsOf (pv ++ [q]) = rowsOf pv ++ [q.1] := by simp [rowsOf]

/-- (K) as the new pivots have it. -/
def newY (M : Nat → Nat → Int) (d : Int) (i0 c j : Nat) (q : Nat × Nat) : Int := if q.1 = i0 then d * M i0 j else raw M i0 c q.1 j
theorem raw_rel' (h : Bar A m pv M d) (hi : i0 ∉ rowsOf pv) (x : Nat) (hx : x < m) (j : Nat) :
    d * M i0 c * A x j = (if x ∈ rowsOf (pv ++ [(i0, c)]) then 0 else raw M i0 c x j) + S (pv ++ [(i0, c)]) fun q => newY M d i0 c j q * A x q.2 := by
  rw [raw_rel h (i0 := i0) (c := c) x hx j, S_append]
  simp only [S_cons, S_nil, Int.add_zero]
  have e1 : S pv (fun q => newY M d i0 c j q * A x q.2) = S pv fun q => A x q.2 * raw M i0 c q.1 j := S_congr fun q hq => by
    have : q.1 ≠ i0 := fun he => hi (he ▸ List.mem_map.2 ⟨q, hq, rfl⟩)
    unfold newY
    rw [if_neg this, Int.mul_comm]
  have e2 : newY M d i0 c j (i0, c) = d * M i0 j := by unfold newY; rw [if_pos rfl]
  have e3 : (if x ∈ rowsOf (pv ++ [(i0, c)]) then 0 else raw M i0 c x j) = if x ∈ rowsOf pv then 0 else raw M i0 c x j := by
    rw [rows_snoc]
    by_cases hxr : x ∈ rowsOf pv
    · rw [if_pos (by simp [hxr]), if_pos hxr]
    · rw [if_neg hxr]
      by_cases hx0 : x = i0
      · subst hx0
        rw [if_pos (by simp)]
        unfold raw
        omega
      · rw [if_neg (by simp [hxr, hx0])]
  rw [e1, e2, e3, Int.mul_comm (d * M i0 j)]
  omega

theorem nodup_snoc {l : List Nat} {x : Nat} (h : l.Nodup) (hx : x ∉ l) : (l ++ [x]).Nodup := by
  rw [List.nodup_append]
  exact ⟨h, by simp, fun a ha b hb => by simp at hb; subst hb; intro e; subst e; exact hx ha⟩

/-- THE DIVISION IS EXACT. -/
theorem raw_dvd (h : Bar A m pv M d) (h0 : i0 < m) (hi : i0 ∉ rowsOf pv) (hp : M i0 c ≠ 0) (x : Nat) (hx : x < m) (j : Nat) (hx0 : x ≠ i0) : d ∣ raw M i0 c x j := by
  have hdet := step_det (c := c) h h0 hi
  have hin : ∀ y ∈ rowsOf (pv ++ [(i0, c)]), y < m := fun y hy => by
    rw [rows_snoc] at hy
    rcases List.mem_append.1 hy with hy | hy
    · obtain ⟨q, hq, rfl⟩ := List.mem_map.1 hy
      exact h.lt q hq
    · simp at hy; omega
  have hK : ∀ y ∈ rowsOf (pv ++ [(i0, c)]), d * M i0 c * A y j = S (pv ++ [(i0, c)]) fun q => newY M d i0 c j q * A y q.2 := fun y hy => by
    rw [raw_rel' h hi y (hin y hy) j, if_pos hy, Int.zero_add]
  by_cases hxr : x ∈ rowsOf pv
  · obtain ⟨q0, hq0, rfl⟩ := List.mem_map.1 hxr
    obtain ⟨pre, post, hpp⟩ := List.append_of_mem hq0
    have h1 := cramer_at (A := A) (pre := pre) (post := post ++ [(i0, c)]) (q0 := q0) (e := d * M i0 c) (y := newY M d i0 c j) (j := j) (R := rowsOf (pv ++ [(i0, c)])) (fun y hy => by
      rw [hK y hy, hpp]; simp)
    have e1 : pre ++ q0 :: (post ++ [(i0, c)]) = pv ++ [(i0, c)] := by rw [hpp]; simp
    have e2 : newY M d i0 c j q0 = raw M i0 c q0.1 j := by unfold newY; rw [if_neg hx0]
    rw [e1, ← hdet, e2, Int.mul_comm d, Int.mul_assoc, Int.mul_comm (raw M i0 c q0.1 j)] at h1
    exact ⟨_, (Int.eq_of_mul_eq_mul_left hp h1).symm⟩
  · have hx' : x ∉ rowsOf (pv ++ [(i0, c)]) := by rw [rows_snoc]; simp [hxr, hx0]
    have h1 := cramer_out (A := A) (pv := pv ++ [(i0, c)]) (e := d * M i0 c) (z := raw M i0 c x j) (y := newY M d i0 c j) (i := x) (j := j) (R := rowsOf (pv ++ [(i0, c)])) (rowsOf_length _).symm hx' hK (by
      have := raw_rel' (c := c) h hi x hx j
      rwa [if_neg hx'] at this)
    rw [← hdet, Int.mul_comm d, Int.mul_assoc, Int.mul_comm (raw M i0 c x j)] at h1
    exact ⟨_, (Int.eq_of_mul_eq_mul_left hp h1).symm⟩

/-- THE STEP: the rows after the pivot. -/
theorem Bar.step (h : Bar A m pv M d) (h0 : i0 < m) (hi : i0 ∉ rowsOf pv) (hp : M i0 c ≠ 0) {M' : Nat → Nat → Int} (hM0 : ∀ j, M' i0 j = M i0 j) (hM : ∀ x, x < m → x ≠ i0 → ∀ j, d * M' x j = raw M i0 c x j) :
    Bar A m (pv ++ [(i0, c)]) M' (M i0 c) := by
  refine ⟨by rw [rows_snoc]; exact nodup_snoc h.nodup hi, fun q hq => ?_, hp, step_det h h0 hi, fun x hx j => ?_⟩
  · rcases List.mem_append.1 hq with hq | hq
    · exact h.lt q hq
    · simp at hq; rw [hq]; exact h0
  · refine Int.eq_of_mul_eq_mul_left h.ne ?_
    rw [← Int.mul_assoc, raw_rel' h hi x hx j, Int.mul_add, ← S_mul]
    congr 1
    · split
      · simp
      · rename_i hxr
        rw [hM x hx (fun e => hxr (by rw [rows_snoc, e]; simp)) j]
    · refine S_congr fun q hq => ?_
      unfold newY
      rcases List.mem_append.1 hq with hq | hq
      · have hne : q.1 ≠ i0 := fun he => hi (he ▸ List.mem_map.2 ⟨q, hq, rfl⟩)
        rw [if_neg hne, ← hM q.1 (h.lt q hq) hne j, Int.mul_assoc]
        congr 1
        exact Int.mul_comm _ _
      · simp at hq
        subst hq
        rw [if_pos rfl, hM0, Int.mul_assoc]
        congr 1
        exact Int.mul_comm _ _

/-! ### The pivots' own columns -/
theorem Bar.diag (h : Bar A m pv M d) {pre post : List (Nat × Nat)} {q0 : Nat × Nat} (hp : pv = pre ++ q0 :: post) : M q0.1 q0.2 = d := by
  rw [h.pivot hp, h.det, hp]
  simp [colsOf]
theorem Bar.off (h : Bar A m pv M d) {pre post : List (Nat × Nat)} {q0 q : Nat × Nat} (hp : pv = pre ++ q0 :: post) (hq : q ∈ pre ∨ q ∈ post) : M q0.1 q.2 = 0 := by
  rw [h.pivot hp]
  rcases hq with hq | hq
  · exact D_mem_left (mem_cols hq) _ _
  · exact D_mem_right (mem_cols hq) _ _
theorem Bar.zero (h : Bar A m pv M d) {i : Nat} (hm : i < m) (hi : i ∉ rowsOf pv) {q : Nat × Nat} (hq : q ∈ pv) : M i q.2 = 0 := by
  rw [h.other hm hi]
  exact D_mem_left (mem_cols hq) _ _
end
end Go.Proofs.Ytbclbcldplmppaa

/- The equations with their origins beside them; what elimination leaves; its numbers are small. Plain Lean. -/
namespace Go.Proofs.Ytbclbcldplmppaa

/-- The matrix: the lines, and a unit matrix beside them. -/
def augA (n : Nat) (lines : Nat → List Int) (x j : Nat) : Int := if j < n then getI (lines x) j else if j - n = x then 1 else 0

/-! ### Sums of absolute values -/
theorem S_set_le (n : Nat) (L : List Int) (a : Nat) (v : Int) : S (List.range n) (fun j => ((getI (L.set a v) j).natAbs : Int)) ≤ S (List.range n) (fun j => ((getI L j).natAbs : Int)) + (v.natAbs : Int) := by
  have h : ∀ (l : List Nat), l.Nodup → S l (fun j => ((getI (L.set a v) j).natAbs : Int)) ≤ S l (fun j => ((getI L j).natAbs : Int)) + (if a ∈ l then (v.natAbs : Int) else 0) := by
    intro l
    induction l with
    | nil => intro _; simp
    | cons y l ih =>
      intro hn
      rw [List.nodup_cons] at hn
      have := ih hn.2
      rw [S_cons, S_cons]
      by_cases e : y = a
      · subst e
        rw [if_neg hn.1] at this
        rw [if_pos (by simp)]
        have h1 : ((getI (L.set y v) y).natAbs : Int) ≤ (v.natAbs : Int) := by
          unfold getI
          by_cases hy : y < L.length
          · rw [List.getElem?_set_self hy]; simp
          · rw [List.getElem?_eq_none (by simp; omega)]; simp
        have h2 : (0 : Int) ≤ ((getI L y).natAbs : Int) := by omega
        omega
      · have h1 : getI (L.set a v) y = getI L y := by unfold getI; rw [List.getElem?_set_ne (fun h => e h.symm)]
        rw [h1]
        have h2 : (if a ∈ y :: l then (v.natAbs : Int) else 0) = if a ∈ l then (v.natAbs : Int) else 0 := by
          have : a ∈ y :: l ↔ a ∈ l := by
            constructor
            · intro hh; rcases List.mem_cons.1 hh with h | h
              · exact absurd h.symm e
              · exact h
            · intro h; exact List.mem_cons.2 (.inr h)
          simp [this]
        rw [h2]
        omega
  have := h (List.range n) List.nodup_range
  split at this <;> omega
theorem S_zeros (n m : Nat) : S (List.range n) (fun j => ((getI (List.replicate m 0) j).natAbs : Int)) = 0 :=
  S_zero fun j _ => by
    unfold getI
    by_cases h : j < m
    · rw [List.getElem?_replicate, if_pos h]; rfl
    · rw [List.getElem?_replicate, if_neg h]; rfl

theorem facS_small {x : Msh} {n : Nat} (h : validB x (n : Int) = true) : S (List.range n) (fun j => ((getI (facS x n) j).natAbs : Int)) ≤ 96 := by
  have hv : validP x n := of_decide_eq_true h
  have hk := nsS_kind hv.1
  have ht : teethS x.kind = true → (1 ≤ x.n ∧ x.n ≤ 24) ∧ (1 ≤ x.m ∧ x.m ≤ 24) := fun e => by
    have := hv.2.2.2.2
    rwa [if_pos e] at this
  have h0 := S_zeros n n
  unfold facS
  split
  · rename_i h1
    have := ht (by simp [teethS, h1])
    have a1 := S_set_le n (List.replicate n 0) x.a.toNat x.n
    have a2 := S_set_le n ((List.replicate n 0).set x.a.toNat x.n) x.b.toNat x.m
    omega
  split
  · rename_i _ h1
    have := ht (by simp [teethS, h1])
    have a1 := S_set_le n (List.replicate n 0) x.a.toNat x.n
    have a2 := S_set_le n ((List.replicate n 0).set x.a.toNat x.n) x.b.toNat (-x.m)
    omega
  split
  · have a1 := S_set_le n (List.replicate n 0) x.a.toNat 1
    omega
  split
  · have a1 := S_set_le n (List.replicate n 0) x.a.toNat 1
    have a2 := S_set_le n ((List.replicate n 0).set x.a.toNat 1) x.b.toNat 1
    have a3 := S_set_le n (((List.replicate n 0).set x.a.toNat 1).set x.b.toNat 1) x.c.toNat (-2)
    omega
  split
  · rename_i h1
    have := ht (by simp [teethS, h1])
    have a1 := S_set_le n (List.replicate n 0) x.a.toNat x.n
    have a2 := S_set_le n ((List.replicate n 0).set x.a.toNat x.n) x.b.toNat x.m
    have a3 := S_set_le n (((List.replicate n 0).set x.a.toNat x.n).set x.b.toNat x.m) x.c.toNat (-(x.n + x.m))
    omega
  · have a1 := S_set_le n (List.replicate n 0) x.a.toNat 1
    have a2 := S_set_le n ((List.replicate n 0).set x.a.toNat 1) x.b.toNat (-1)
    omega

/-- A sum over some different indices is at most that over all. -/
theorem S_sub_le {f : Nat → Int} (hf : ∀ x, 0 ≤ f x) : ∀ (l l' : List Nat), l.Nodup → (∀ x ∈ l, x ∈ l') → S l f ≤ S l' f
  | [], l', _, _ => by
    have : ∀ l' : List Nat, 0 ≤ S l' f := fun l' => by
      induction l' with
      | nil => simp
      | cons y l' ih => rw [S_cons]; have := hf y; omega
    simpa using this l'
  | x :: l, l', hn, hs => by
    rw [List.nodup_cons] at hn
    obtain ⟨l1, l2, rfl⟩ := List.append_of_mem (hs x (by simp))
    have ih := S_sub_le hf l (l1 ++ l2) hn.2 fun y hy => by
      have := hs y (by simp [hy])
      simp only [List.mem_append, List.mem_cons] at this ⊢
      rcases this with h | h | h
      · exact .inl h
      · subst h; exact absurd hy hn.1
      · exact .inr h
    rw [S_append] at ih
    rw [S_cons, S_append, S_cons]
    omega

theorem aug_small {n : Nat} {lines : Nat → List Int} {x : Nat} (h : S (List.range n) (fun j => ((getI (lines x) j).natAbs : Int)) ≤ 96) (C : List Nat) (hC : C.Nodup) : S C (fun j => ((augA n lines x j).natAbs : Int)) ≤ 97 := by
  have h1 : ∀ C : List Nat, S C (fun j => ((augA n lines x j).natAbs : Int)) = S C (fun j => if j < n then ((getI (lines x) j).natAbs : Int) else 0) + S C (fun j => if j = n + x then (1 : Int) else 0) := fun C => by
    rw [← S_add]
    refine S_congr fun j _ => ?_
    unfold augA
    by_cases hj : j < n
    · rw [if_pos hj, if_pos hj, if_neg (by omega)]; omega
    · rw [if_neg hj, if_neg hj]
      by_cases e : j - n = x
      · rw [if_pos e, if_pos (by omega)]; rfl
      · rw [if_neg e, if_neg (by omega)]; rfl
  rw [h1]
  have h2 : S C (fun j => if j < n then ((getI (lines x) j).natAbs : Int) else 0) ≤ 96 := by
    have e := S_sub_le (f := fun j => if j < n then ((getI (lines x) j).natAbs : Int) else 0) (fun y => by split <;> omega) (C.filter (· < n)) (List.range n) (hC.filter _) (fun y hy => by simp at hy ⊢; exact hy.2)
    have e2 : S (List.range n) (fun j => if j < n then ((getI (lines x) j).natAbs : Int) else 0) = S (List.range n) (fun j => ((getI (lines x) j).natAbs : Int)) := S_congr fun j hj => if_pos (List.mem_range.1 hj)
    have e3 : ∀ C : List Nat, S (C.filter (· < n)) (fun j => if j < n then ((getI (lines x) j).natAbs : Int) else 0) = S C (fun j => if j < n then ((getI (lines x) j).natAbs : Int) else 0) := fun C => by
      induction C with
      | nil => rfl
      | cons y C ih =>
        rw [List.filter_cons]
        by_cases hy : y < n
        · rw [if_pos (by simpa using hy), S_cons, S_cons, ih]
        · rw [if_neg (by simpa using hy), S_cons, if_neg hy, ih]; omega
    rw [← e3]
    omega
  have h3 : S C (fun j => if j = n + x then (1 : Int) else 0) ≤ 1 := by
    have : ∀ C : List Nat, C.Nodup → S C (fun j => if j = n + x then (1 : Int) else 0) ≤ (if n + x ∈ C then 1 else 0) := fun C => by
      induction C with
      | nil => intro _; simp
      | cons y C ih =>
        intro hn
        rw [List.nodup_cons] at hn
        have := ih hn.2
        rw [S_cons]
        by_cases e : y = n + x
        · subst e
          rw [if_neg hn.1] at this
          rw [if_pos rfl, if_pos (by simp)]
          omega
        · rw [if_neg e]
          have h2 : (if n + x ∈ y :: C then (1 : Int) else 0) = if n + x ∈ C then 1 else 0 := by
            have : n + x ∈ y :: C ↔ n + x ∈ C := by
              constructor
              · intro hh; rcases List.mem_cons.1 hh with h | h
                · exact absurd h.symm e
                · exact h
              · intro h; exact List.mem_cons.2 (.inr h)
            simp [this]
          rw [h2]; omega
    have := this C hC
    split at this <;> omega
  omega

theorem D_small {A : Nat → Nat → Int} {m : Nat} (hA : ∀ x, x < m → ∀ C : List Nat, C.Nodup → S C (fun j => ((A x j).natAbs : Int)) ≤ 97) (C R : List Nat) (hC : C.Nodup) (hR : ∀ r ∈ R, r < m) (hl : C.length = R.length) (h9 : R.length ≤ 9) :
    (D (C.map (col A)) R).natAbs < 4611686018427387904 := by
  have h1 := (D_bound (C.map (col A)) R).resolve_right (by simpa using hl)
  have h2 : P' R (fun r => S (C.map (col A)) fun v => ((v r).natAbs : Int)) ≤ (97 : Int) ^ R.length := P_const fun r hr => ⟨S_abs_nonneg _ r, by
    rw [S_map]
    exact hA r (hR r hr) C hC⟩
  have h3 : (97 : Int) ^ R.length ≤ 97 ^ 9 := by
    have hn : 97 ^ R.length ≤ 97 ^ 9 := Nat.pow_le_pow_right (by decide) h9
    have hc : ∀ k : Nat, ((97 ^ k : Nat) : Int) = (97 : Int) ^ k := fun k => Int.natCast_pow 97 k
    rw [← hc, ← hc]
    exact Int.ofNat_le.2 hn
  have h4 : ((D (C.map (col A)) R).natAbs : Int) ≤ 97 ^ 9 := Int.le_trans h1 (Int.le_trans h2 h3)
  have h5 : (97 : Int) ^ 9 < 4611686018427387904 := by decide +kernel
  omega

/-! ### The state -/
def colsP (pv : List (Nat × Nat)) : List Nat := pv.map (·.2)
theorem colsOf_eq (A : Nat → Nat → Int) (pv : List (Nat × Nat)) : colsOf A pv = (colsP pv).map (col A) := by simp [colsOf, colsP]

/-- Bounds of what elimination leaves. -/
theorem Bar.small {A : Nat → Nat → Int} {m : Nat} {pv : List (Nat × Nat)} {M : Nat → Nat → Int} {d : Int} (h : Bar A m pv M d)
    (hA : ∀ x, x < m → ∀ C : List Nat, C.Nodup → S C (fun j => ((A x j).natAbs : Int)) ≤ 97) (hc : (colsP pv).Nodup) (h8 : pv.length ≤ 8) :
    d.natAbs < 4611686018427387904 ∧ ∀ x, x < m → ∀ j, (M x j).natAbs < 4611686018427387904 := by
  have hR : ∀ r ∈ rowsOf pv, r < m := fun r hr => by
    obtain ⟨q, hq, rfl⟩ := List.mem_map.1 hr
    exact h.lt q hq
  refine ⟨?_, fun x hx j => ?_⟩
  · rw [h.det, colsOf_eq]
    exact D_small hA _ _ hc hR (by simp [colsP, rowsOf]) (by rw [rowsOf_length]; omega)
  · by_cases hxr : x ∈ rowsOf pv
    · obtain ⟨q0, hq0, rfl⟩ := List.mem_map.1 hxr
      obtain ⟨pre, post, hpp⟩ := List.append_of_mem hq0
      rw [h.pivot hpp j]
      by_cases hj : j ∈ colsP pre ∨ j ∈ colsP post
      · have : D (colsOf A pre ++ col A j :: colsOf A post) (rowsOf pv) = 0 := by
          rcases hj with hj | hj
          · obtain ⟨q, hq, rfl⟩ := List.mem_map.1 hj
            exact D_mem_left (mem_cols hq) _ _
          · obtain ⟨q, hq, rfl⟩ := List.mem_map.1 hj
            exact D_mem_right (mem_cols hq) _ _
        rw [this]; decide
      · have e : colsOf A pre ++ col A j :: colsOf A post = (colsP pre ++ j :: colsP post).map (col A) := by simp [colsOf_eq]
        rw [e]
        refine D_small hA _ _ ?_ hR (by rw [hpp]; simp [colsP, rowsOf]) (by rw [rowsOf_length]; omega)
        have hc' : (colsP pre ++ q0.2 :: colsP post).Nodup := by rw [hpp] at hc; simpa [colsP] using hc
        rw [List.nodup_append] at hc' ⊢
        obtain ⟨n1, n2, n3⟩ := hc'
        rw [List.nodup_cons] at n2 ⊢
        refine ⟨n1, ⟨fun hm => hj (.inr hm), n2.2⟩, fun a ha b hb => ?_⟩
        rcases List.mem_cons.1 hb with rfl | hb
        · intro e; subst e; exact hj (.inl ha)
        · exact n3 a ha b (by simp [hb])
    · rw [h.other hx hxr j]
      by_cases hj : j ∈ colsP pv
      · obtain ⟨q, hq, rfl⟩ := List.mem_map.1 hj
        rw [D_mem_left (mem_cols hq)]; decide
      · have e : colsOf A pv ++ [col A j] = (colsP pv ++ [j]).map (col A) := by simp [colsOf_eq]
        rw [e]
        refine D_small hA _ _ (nodup_snoc hc hj) (fun r hr => ?_) (by simp [colsP, rowsOf]) (by simp [rowsOf]; omega)
        rcases List.mem_append.1 hr with hr | hr
        · exact hR r hr
        · simp at hr; omega
end Go.Proofs.Ytbclbcldplmppaa

/- The state of the elimination: rows in their order now, pivots, columns that are done. Plain Lean. -/
namespace Go.Proofs.Ytbclbcldplmppaa

structure SolSt (A : Nat → Nat → Int) (n m : Nat) (cols : List Nat) (σ : Nat → Nat) (pv : List (Nat × Nat)) (M : Nat → Nat → Int) (d : Int) : Prop where
  bar : Bar A m pv M d
  lt : ∀ k, k < m → σ k < m
  inj : ∀ i j, i < m → j < m → σ i = σ j → i = j
  row : rowsOf pv = (List.range pv.length).map σ
  le : pv.length ≤ m
  cnd : (colsP pv).Nodup
  cin : ∀ c ∈ colsP pv, c ∈ cols ∧ c < n
  zero : ∀ k, pv.length ≤ k → k < m → ∀ c ∈ cols, M (σ k) c = 0
  left : cols.Nodup → ∀ q ∈ pv, ∀ i j c : Nat, i < j → cols[j]? = some q.2 → cols[i]? = some c → M q.1 c = 0

theorem S_one (l : List Nat) : S l (fun _ => 1) = (l.length : Int) := by
  induction l with
  | nil => rfl
  | cons x l ih => rw [S_cons, ih]; simp; omega

/-- The rows behind a pivot at row i0, column c. -/
def newM (M : Nat → Nat → Int) (d : Int) (i0 c x j : Nat) : Int := if x = i0 then M i0 j else raw M i0 c x j / d
def swapF (σ : Nat → Nat) (a b k : Nat) : Nat := if k = a then σ b else if k = b then σ a else σ k

section
variable {A : Nat → Nat → Int} {n m : Nat} {cols : List Nat} {σ : Nat → Nat} {pv : List (Nat × Nat)} {M : Nat → Nat → Int} {d : Int}
theorem SolSt.start (A : Nat → Nat → Int) (n m : Nat) : SolSt A n m [] (fun k => k) [] A 1 :=
  ⟨Bar.start A m, fun _ h => h, fun _ _ _ _ h => h, by simp [rowsOf], by simp, by simp [colsP], fun c hc => by simp [colsP] at hc, fun _ _ _ c hc => by simp at hc, fun _ q hq => by simp at hq⟩
theorem SolSt.le_n (h : SolSt A n m cols σ pv M d) : pv.length ≤ n := by
  have h1 := S_sub_le (f := fun _ => 1) (fun _ => by decide) (colsP pv) (List.range n) h.cnd fun c hc => List.mem_range.2 (h.cin c hc).2
  rw [S_one, S_one] at h1
  simp [colsP] at h1
  exact h1
theorem SolSt.notin (h : SolSt A n m cols σ pv M d) {k : Nat} (h1 : pv.length ≤ k) (h2 : k < m) : σ k ∉ rowsOf pv := fun hm => by
  rw [h.row] at hm
  obtain ⟨j, hj, e⟩ := List.mem_map.1 hm
  rw [List.mem_range] at hj
  have := h.inj j k (by omega) h2 e
  omega
/-- What holds of the columns so far, in a longer list. -/
theorem left_snoc {cols : List Nat} {c x i j y : Nat} (hn : (cols ++ [x]).Nodup) (hc : c ∈ cols) (hij : i < j) (hj : (cols ++ [x])[j]? = some c) (hi : (cols ++ [x])[i]? = some y) : cols.Nodup ∧ cols[j]? = some c ∧ cols[i]? = some y := by
  have h1 := List.nodup_append.1 hn
  have hjl : j < cols.length := by
    rcases Nat.lt_or_ge j cols.length with h | h
    · exact h
    · have hl : j < (cols ++ [x]).length := (List.getElem?_eq_some_iff.1 hj).1
      have : j = cols.length := by simp at hl; omega
      subst this
      rw [List.getElem?_append_right (Nat.le_refl _)] at hj
      simp at hj
      subst hj
      exact absurd rfl (h1.2.2 x hc x (by simp))
  refine ⟨h1.1, ?_, ?_⟩
  · rwa [List.getElem?_append_left hjl] at hj
  · rwa [List.getElem?_append_left (by omega)] at hi
theorem SolSt.skip (h : SolSt A n m cols σ pv M d) {c : Nat} (h0 : ∀ k, pv.length ≤ k → k < m → M (σ k) c = 0) : SolSt A n m (cols ++ [c]) σ pv M d :=
  ⟨h.bar, h.lt, h.inj, h.row, h.le, h.cnd, fun x hx => ⟨List.mem_append.2 (.inl (h.cin x hx).1), (h.cin x hx).2⟩, fun k h1 h2 x hx => by
    rcases List.mem_append.1 hx with hx | hx
    · exact h.zero k h1 h2 x hx
    · simp at hx; subst hx; exact h0 k h1 h2, fun hn q hq i j y hij hj hi => by
    obtain ⟨e1, e2, e3⟩ := left_snoc hn (h.cin q.2 (List.mem_map.2 ⟨q, hq, rfl⟩)).1 hij hj hi
    exact h.left e1 q hq i j y hij e2 e3⟩

/-- The new rows' law: the division is exact. -/
theorem SolSt.newM_mul (h : SolSt A n m cols σ pv M d) {i c : Nat} (h1 : pv.length ≤ i) (h2 : i < m) (hp : M (σ i) c ≠ 0) {x : Nat} (hx : x < m) (hne : x ≠ σ i) (j : Nat) : d * newM M d (σ i) c x j = raw M (σ i) c x j := by
  unfold newM
  rw [if_neg hne]
  exact Int.mul_ediv_cancel' (raw_dvd h.bar (h.lt i h2) (h.notin h1 h2) hp x hx j hne)

theorem SolSt.pivot (h : SolSt A n m cols σ pv M d) {i c : Nat} (h1 : pv.length ≤ i) (h2 : i < m) (hc : c < n) (hp : M (σ i) c ≠ 0) :
    SolSt A n m (cols ++ [c]) (swapF σ pv.length i) (pv ++ [(σ i, c)]) (newM M d (σ i) c) (M (σ i) c) := by
  have hlt : ∀ k, k < m → ∃ k', k' < m ∧ swapF σ pv.length i k = σ k' ∧ (pv.length < k → pv.length ≤ k' ∧ k' ≠ i) ∧ (k < pv.length → k' = k) ∧ (k = pv.length → k' = i) := fun k hk => by
    unfold swapF
    by_cases e1 : k = pv.length
    · exact ⟨i, h2, by rw [if_pos e1], fun _ => by omega, fun _ => by omega, fun _ => rfl⟩
    · by_cases e2 : k = i
      · exact ⟨pv.length, by omega, by rw [if_neg e1, if_pos e2], fun _ => by omega, fun _ => by omega, fun _ => by omega⟩
      · exact ⟨k, hk, by rw [if_neg e1, if_neg e2], fun _ => by omega, fun _ => rfl, fun _ => by omega⟩
  have hcn : c ∉ colsP pv := fun hm => by
    obtain ⟨q, hq, rfl⟩ := List.mem_map.1 hm
    exact hp (h.bar.zero (h.lt i h2) (h.notin h1 h2) hq)
  refine ⟨h.bar.step (h.lt i h2) (h.notin h1 h2) hp (fun j => by unfold newM; rw [if_pos rfl]) (fun x hx hne j => h.newM_mul h1 h2 hp hx hne j), fun k hk => ?_, fun a b ha hb e => ?_, ?_, ?_, ?_, fun x hx => ?_, fun k hk1 hk2 x hx => ?_, fun hn q hq i' j y hij hj hi => ?_⟩
  · obtain ⟨k', hk', e, _⟩ := hlt k hk
    rw [e]; exact h.lt k' hk'
  · unfold swapF at e
    have hs : ∀ y z, y < m → z < m → σ y = σ z → y = z := h.inj
    have hpm : pv.length < m := by omega
    by_cases a1 : a = pv.length <;> by_cases b1 : b = pv.length <;> by_cases a2 : a = i <;> by_cases b2 : b = i <;> simp only [a1, b1, a2, b2, if_true, if_false] at e <;> (try omega)
    all_goals
      first
        | (have := hs _ _ (by omega) (by omega) e; omega)
        | (split at e <;> (try split at e) <;> (have := hs _ _ (by omega) (by omega) e; omega))
  · rw [rows_snoc, h.row, List.length_append, List.length_singleton, List.range_succ, List.map_append]
    congr 1
    · refine List.map_congr_left fun k hk => ?_
      rw [List.mem_range] at hk
      unfold swapF
      rw [if_neg (by omega), if_neg (by omega)]
    · simp [swapF]
  · simp; omega
  · have : colsP (pv ++ [(σ i, c)]) = colsP pv ++ [c] := by simp [colsP]
    rw [this]
    exact nodup_snoc h.cnd hcn
  · have e : colsP (pv ++ [(σ i, c)]) = colsP pv ++ [c] := by simp [colsP]
    rw [e] at hx
    rcases List.mem_append.1 hx with hx | hx
    · exact ⟨List.mem_append.2 (.inl (h.cin x hx).1), (h.cin x hx).2⟩
    · simp at hx; subst hx; exact ⟨by simp, hc⟩
  · simp only [List.length_append, List.length_singleton] at hk1
    obtain ⟨k', hk', e, hge, _⟩ := hlt k hk2
    obtain ⟨g1, g2⟩ := hge (by omega)
    rw [e]
    have hne : σ k' ≠ σ i := fun e' => g2 (h.inj k' i hk' h2 e')
    refine (Int.mul_eq_zero.1 (?_ : d * newM M d (σ i) c (σ k') x = 0)).resolve_left h.bar.ne
    rw [h.newM_mul h1 h2 hp (h.lt k' hk') hne]
    unfold raw
    rcases List.mem_append.1 hx with hx | hx
    · rw [h.zero k' g1 hk' x hx, h.zero i h1 h2 x hx]; simp
    · simp at hx; subst hx; rw [Int.mul_comm]; omega
  · have hz : ∀ y, y ∈ cols → M (σ i) y = 0 := fun y hy => h.zero i h1 h2 y hy
    rcases List.mem_append.1 hq with hq | hq
    · obtain ⟨e1, e2, e3⟩ := left_snoc hn (h.cin q.2 (List.mem_map.2 ⟨q, hq, rfl⟩)).1 hij hj hi
      have hq1 : q.1 ∈ rowsOf pv := List.mem_map.2 ⟨q, hq, rfl⟩
      have hne : q.1 ≠ σ i := fun e => h.notin h1 h2 (e ▸ hq1)
      refine (Int.mul_eq_zero.1 (?_ : d * newM M d (σ i) c q.1 y = 0)).resolve_left h.bar.ne
      rw [h.newM_mul h1 h2 hp (h.bar.lt q hq) hne]
      unfold raw
      rw [h.left e1 q hq i' j y hij e2 e3, hz y (List.mem_of_getElem? e3)]
      simp
    · simp only [List.mem_singleton] at hq
      subst hq
      unfold newM
      rw [if_pos rfl]
      refine hz y ?_
      have hlj : j < (cols ++ [c]).length := (List.getElem?_eq_some_iff.1 hj).1
      rw [List.getElem?_append_left (by simp at hlj; omega)] at hi
      exact List.mem_of_getElem? hi
end
end Go.Proofs.Ytbclbcldplmppaa

/- Rows of equations in memory, as functions of their places; structs beside them. -/
namespace Go.Proofs.Ytbclbcldplmppaa
open Go.RowKit

def rowCells (n m c : Nat) (g h : Nat → Nat) : List Value := ((List.range c).map fun k => [sl (g k) n, sl (h k) m]).flatten
theorem rowCells_len (n m c : Nat) (g h : Nat → Nat) : (rowCells n m c g h).length = c * 2 := by
  unfold rowCells
  rw [flatten_len 2 _ (by simp)]
  simp
theorem rowCells_succ (n m c : Nat) (g h : Nat → Nat) : rowCells n m (c + 1) g h = rowCells n m c g h ++ [sl (g c) n, sl (h c) m] := by simp [rowCells, List.range_succ]
theorem rowCells_congr {n m c : Nat} {g h g' h' : Nat → Nat} (hg : ∀ k, k < c → g k = g' k) (hh : ∀ k, k < c → h k = h' k) : rowCells n m c g h = rowCells n m c g' h' := by
  unfold rowCells
  congr 1
  exact List.map_congr_left fun k hk => by rw [hg k (List.mem_range.1 hk), hh k (List.mem_range.1 hk)]
theorem rowCells_get (n m c : Nat) (g h : Nat → Nat) {k : Nat} (hk : k < c) : (rowCells n m c g h)[k * 2]? = some (sl (g k) n) ∧ (rowCells n m c g h)[k * 2 + 1]? = some (sl (h k) m) := by
  have h0 := flatten_get 2 ((List.range c).map fun k => [sl (g k) n, sl (h k) m]) (by simp) k 0 (by omega) (by simpa using hk)
  have h1 := flatten_get 2 ((List.range c).map fun k => [sl (g k) n, sl (h k) m]) (by simp) k 1 (by omega) (by simpa using hk)
  refine ⟨?_, ?_⟩
  · unfold rowCells; rw [show k * 2 = k * 2 + 0 by omega, h0]; simp
  · unfold rowCells; rw [h1]; simp

/-- c rows, each of a line of n numbers and one of m, all in blocks of their own. -/
structure MF (b w : World) (v : Value) (n m c : Nat) (g h : Nat → Nat) (L B : Nat → List Int) : Prop where
  own : Own b w 117 2 v c (rowCells n m c g h)
  gl : ∀ k, k < c → NewInts b w (g k) (L k) ∧ (L k).length = n
  hb : ∀ k, k < c → NewInts b w (h k) (B k) ∧ (B k).length = m
  gg : ∀ i j, i < c → j < c → g i = g j → i = j
  hh : ∀ i j, i < c → j < c → h i = h j → i = j
  gh : ∀ i j, i < c → j < c → g i ≠ h j

section
variable {b w w' : World} {v : Value} {n m c : Nat} {g h : Nat → Nat} {L B : Nat → List Int}
theorem MF.ext (hm : MF b w v n m c g h L B) : Ext b w := hm.own.ext
theorem MF.later (hm : MF b w v n m c g h L B) (he : Ext w w') : MF b w' v n m c g h L B :=
  ⟨hm.own.later he, fun k hk => ⟨(hm.gl k hk).1.later he, (hm.gl k hk).2⟩, fun k hk => ⟨(hm.hb k hk).1.later he, (hm.hb k hk).2⟩, hm.gg, hm.hh, hm.gh⟩
theorem MF.start (he : Ext b w) (n m : Nat) (g h : Nat → Nat) (L B : Nat → List Int) : MF b w (.slice none 0 0) n m 0 g h L B :=
  ⟨Own.nil' he _ _, fun k hk => by omega, fun k hk => by omega, fun i j hi => by omega, fun i j hi => by omega, fun i j hi => by omega⟩
theorem MF.apart_of {k : Nat} {xs : List Int} (hm : MF b w v n m c g h L B) (hk : NewInts b w k xs) : v.ownBlock ≠ some k := fun e => by
  rcases hm.own.2.2 with ⟨rfl, _⟩ | ⟨g', cap, cur, rfl, _, hh, _⟩
  · cases e
  · injection e with e
    simp only at e
    subst e
    have := hk.2.2
    rw [hh] at this
    injection this with this
    injection this with _ ht
    exact absurd ht (by decide)

/-- One row more. -/
theorem MF.append {w1 w2 : World} {v' : Value} {g0 h0 : Nat} {l bl : List Int} (hm : MF b w v n m c g h L B) (he : Ext w w1) (hg : NewInts w w1 g0 l) (hh : NewInts w w1 h0 bl) (hne : g0 ≠ h0) (hl : l.length = n) (hb : bl.length = m)
    (ho : Own b w2 117 2 v' (c + 1) (rowCells n m c g h ++ [sl g0 n, sl h0 m])) (hgr : w1.grownBy w2 v.ownBlock) (hLc : L c = l) (hBc : B c = bl) :
    MF b w2 v' n m (c + 1) (fun k => if k = c then g0 else g k) (fun k => if k = c then h0 else h k) L B := by
  have hbw : Ext b w := hm.own.ext
  have keep : ∀ k, k < w1.heap.size → v.ownBlock ≠ some k → w2.heap[k]? = w1.heap[k]? := fun k hk hv => hgr.block k hk (fun e => hv e.symm)
  have hv1 : ∀ k, w.heap.size ≤ k → v.ownBlock ≠ some k := fun k hk e => by
    have := (hm.own.2.lt k e).2
    omega
  have old : ∀ {k : Nat} {xs : List Int}, NewInts b w k xs → NewInts b w2 k xs := fun {k xs} hk =>
    ⟨ho.ext, hk.2.1, by rw [keep _ (Nat.lt_of_lt_of_le hk.lt he.le) (hm.apart_of hk)]; exact he.heap hk.2.2⟩
  have new : ∀ {k : Nat} {xs : List Int}, NewInts w w1 k xs → NewInts b w2 k xs := fun {k xs} hk =>
    ⟨ho.ext, Nat.le_trans hbw.le hk.2.1, by rw [keep _ hk.lt (hv1 _ hk.2.1)]; exact hk.2.2⟩
  have lt : ∀ {k : Nat} {xs : List Int}, NewInts b w k xs → k < w.heap.size := fun hk => hk.lt
  refine ⟨?_, fun k hk => ?_, fun k hk => ?_, fun i j hi hj e => ?_, fun i j hi hj e => ?_, fun i j hi hj e => ?_⟩
  · rw [rowCells_succ, if_pos rfl, if_pos rfl]
    have : rowCells n m c (fun k => if k = c then g0 else g k) (fun k => if k = c then h0 else h k) = rowCells n m c g h := rowCells_congr (fun k hk => by rw [if_neg (by omega)]) (fun k hk => by rw [if_neg (by omega)])
    rw [this]; exact ho
  · by_cases e : k = c
    · subst e; rw [if_pos rfl, hLc]; exact ⟨new hg, hl⟩
    · rw [if_neg e]; exact ⟨old (hm.gl k (by omega)).1, (hm.gl k (by omega)).2⟩
  · by_cases e : k = c
    · subst e; rw [if_pos rfl, hBc]; exact ⟨new hh, hb⟩
    · rw [if_neg e]; exact ⟨old (hm.hb k (by omega)).1, (hm.hb k (by omega)).2⟩
  · by_cases e1 : i = c <;> by_cases e2 : j = c <;> simp only [e1, e2, if_true, if_false] at e ⊢
    · have h1 := lt (hm.gl j (by omega)).1; have h2 := hg.2.1; omega
    · have h1 := lt (hm.gl i (by omega)).1; have h2 := hg.2.1; omega
    · exact hm.gg i j (by omega) (by omega) e
  · by_cases e1 : i = c <;> by_cases e2 : j = c <;> simp only [e1, e2, if_true, if_false] at e ⊢
    · have h1 := lt (hm.hb j (by omega)).1; have h2 := hh.2.1; omega
    · have h1 := lt (hm.hb i (by omega)).1; have h2 := hh.2.1; omega
    · exact hm.hh i j (by omega) (by omega) e
  · by_cases e1 : i = c <;> by_cases e2 : j = c <;> simp only [e1, e2, if_true, if_false] at e
    · exact hne e
    · have h1 := lt (hm.hb j (by omega)).1; have h2 := hg.2.1; omega
    · have h1 := lt (hm.gl i (by omega)).1; have h2 := hh.2.1; omega
    · exact hm.gh i j (by omega) (by omega) e

/-- A number of row k's line is stored. -/
theorem MF.storeL (hm : MF b w v n m c g h L B) {k : Nat} (hk : k < c) (hn : n ≤ 1000000) (hmm : m ≤ 1000000) (j : Nat) (x : Int) :
    MF b (w.setCell ⟨g k, j, none⟩ (vint x)) v n m c g h (fun i => if i = k then (L k).set j x else L i) B := by
  have hlk := hm.gl k hk
  refine ⟨hm.own.other hlk.1.2.1 (hm.apart_of hlk.1) _, fun i hi => ?_, fun i hi => ?_, hm.gg, hm.hh, hm.gh⟩
  · by_cases e : i = k
    · subst e; rw [if_pos rfl]
      exact ⟨hlk.1.store (by rw [hlk.2]; unfold maxLen; omega) j x, by simp [hlk.2]⟩
    · rw [if_neg e]
      have hi' := hm.gl i hi
      exact ⟨hi'.1.other (p := ⟨g k, j, none⟩) (by rw [hi'.2]; unfold maxLen; omega) hlk.1.2.1 (fun e' => e (hm.gg i k hi hk e'.symm)) _, hi'.2⟩
  · have hi' := hm.hb i hi
    exact ⟨hi'.1.other (p := ⟨g k, j, none⟩) (by rw [hi'.2]; unfold maxLen; omega) hlk.1.2.1 (fun e' => hm.gh k i hk hi e') _, hi'.2⟩
/-- .. of its other line. -/
theorem MF.storeB (hm : MF b w v n m c g h L B) {k : Nat} (hk : k < c) (hn : n ≤ 1000000) (hmm : m ≤ 1000000) (j : Nat) (x : Int) :
    MF b (w.setCell ⟨h k, j, none⟩ (vint x)) v n m c g h L (fun i => if i = k then (B k).set j x else B i) := by
  have hlk := hm.hb k hk
  refine ⟨hm.own.other hlk.1.2.1 (hm.apart_of hlk.1) _, fun i hi => ?_, fun i hi => ?_, hm.gg, hm.hh, hm.gh⟩
  · have hi' := hm.gl i hi
    exact ⟨hi'.1.other (p := ⟨h k, j, none⟩) (by rw [hi'.2]; unfold maxLen; omega) hlk.1.2.1 (fun e' => hm.gh i k hi hk e'.symm) _, hi'.2⟩
  · by_cases e : i = k
    · subst e; rw [if_pos rfl]
      exact ⟨hlk.1.store (by rw [hlk.2]; unfold maxLen; omega) j x, by simp [hlk.2]⟩
    · rw [if_neg e]
      have hi' := hm.hb i hi
      exact ⟨hi'.1.other (p := ⟨h k, j, none⟩) (by rw [hi'.2]; unfold maxLen; omega) hlk.1.2.1 (fun e' => e (hm.hh i k hi hk e'.symm)) _, hi'.2⟩
/-- A store in a block that is none of these. -/
theorem MF.other (hm : MF b w v n m c g h L B) (hn : n ≤ 1000000) (hmm : m ≤ 1000000) {p : Addr} (hp : b.heap.size ≤ p.block) (hv : v.ownBlock ≠ some p.block) (h1 : ∀ k, k < c → p.block ≠ g k) (h2 : ∀ k, k < c → p.block ≠ h k) (u : Value) :
    MF b (w.setCell p u) v n m c g h L B :=
  ⟨hm.own.other hp hv u, fun k hk => ⟨(hm.gl k hk).1.other (by rw [(hm.gl k hk).2]; unfold maxLen; omega) hp (h1 k hk) u, (hm.gl k hk).2⟩,
    fun k hk => ⟨(hm.hb k hk).1.other (by rw [(hm.hb k hk).2]; unfold maxLen; omega) hp (h2 k hk) u, (hm.hb k hk).2⟩, hm.gg, hm.hh, hm.gh⟩
theorem MF.congr (hm : MF b w v n m c g h L B) {L' B' : Nat → List Int} (hL : ∀ k, k < c → L k = L' k) (hB : ∀ k, k < c → B k = B' k) : MF b w v n m c g h L' B' :=
  ⟨hm.own, fun k hk => by rw [← hL k hk]; exact hm.gl k hk, fun k hk => by rw [← hB k hk]; exact hm.hb k hk, hm.gg, hm.hh, hm.gh⟩
end

/-- A struct in a block of its own. -/
structure Bx (w : World) (k : Nat) (xs : List Value) : Prop where
  cell : ∀ j, j < xs.length → w.cell? ⟨k, j, none⟩ = xs[j]?
  free : ∀ j, w.frozen? ⟨k, j, none⟩ = false
  lt : k < w.heap.size
section
variable {w w' : World} {k : Nat} {xs : List Value}
theorem Bx.later (h : Bx w k xs) (he : Ext w w') : Bx w' k xs :=
  ⟨fun j hj => by have := h.cell j hj; rw [List.getElem?_eq_getElem hj] at this ⊢; exact he.cell this, fun j => (he.frozen h.lt).trans (h.free j), Nat.lt_of_lt_of_le h.lt he.le⟩
theorem Bx.other (h : Bx w k xs) {p : Addr} (hp : p.block ≠ k) (u : Value) : Bx (w.setCell p u) k xs :=
  ⟨fun j hj => by rw [World.cell?_setCell_other _ _ _ _ (fun e => hp (by rw [e]))]; exact h.cell j hj, fun j => by rw [World.frozen?_setCell]; exact h.free j, by simp; exact h.lt⟩
theorem Bx.grown (h : Bx w k xs) {row : Option Nat} (hg : w.grownBy w' row) (hr : row ≠ some k) : Bx w' k xs :=
  ⟨fun j hj => by rw [hg.cell_far ⟨k, j, none⟩ h.lt (fun e => hr e.symm)]; exact h.cell j hj, fun j => (hg.frozen_far ⟨k, j, none⟩ h.lt (fun e => hr e.symm)).trans (h.free j), Nat.lt_of_lt_of_le h.lt hg.size⟩
theorem Bx.set (h : Bx w k xs) {j : Nat} (hj : j < xs.length) (u : Value) : Bx (w.setCell ⟨k, j, none⟩ u) k (xs.set j u) := by
  refine ⟨fun i hi => ?_, fun i => by rw [World.frozen?_setCell]; exact h.free i, by simp; exact h.lt⟩
  simp only [List.length_set] at hi
  by_cases e : j = i
  · subst e
    have := h.cell j hj
    rw [List.getElem?_eq_getElem hj] at this
    rw [World.cell?_setCell_same _ _ _ this, List.getElem?_set_self hj]
  · rw [World.cell?_setCell_other _ _ _ _ (by simp), List.getElem?_set_ne e]
    exact h.cell i hi
theorem Bx.of_heap {cs : Array Value} {t : TypeId} (h : w.heap[k]? = some (.cells cs t)) : Bx w k cs.toList :=
  ⟨fun j hj => by rw [cell_heap h]; simp, fun j => frozen_heap h j, (Array.getElem?_eq_some_iff.1 h).1⟩
end
end Go.Proofs.Ytbclbcldplmppaa

/- Rows exchanged in memory. No program in sight but the table of types. -/
namespace Go.Proofs.Ytbclbcldplmppaa
open Go.RowKit

theorem rowCells_swap (n m c : Nat) (g h : Nat → Nat) {a b : Nat} (ha : a < c) (hb : b < c) :
    ((((rowCells n m c g h).set (a * 2) (sl (g b) n)).set (a * 2 + 1) (sl (h b) m)).set (b * 2) (sl (g a) n)).set (b * 2 + 1) (sl (h a) m) = rowCells n m c (swapF g a b) (swapF h a b) := by
  refine List.ext_getElem? fun i => ?_
  by_cases hi : i < c * 2
  · obtain ⟨k, hk⟩ : ∃ k, k = i / 2 := ⟨_, rfl⟩
    have hkc : k < c := by omega
    obtain ⟨g0, g1⟩ := rowCells_get n m c g h hkc
    obtain ⟨s0, s1⟩ := rowCells_get n m c (swapF g a b) (swapF h a b) hkc
    have hl := rowCells_len n m c g h
    rcases (by omega : i = k * 2 ∨ i = k * 2 + 1) with rfl | rfl
    · rw [s0, List.getElem?_set_ne (by omega)]
      by_cases e1 : k = b
      · subst e1
        rw [List.getElem?_set_self (by simp [hl]; omega)]
        unfold swapF
        by_cases e2 : k = a
        · subst e2; simp
        · rw [if_neg e2, if_pos rfl]
      · rw [List.getElem?_set_ne (by omega), List.getElem?_set_ne (by omega)]
        by_cases e2 : k = a
        · subst e2
          rw [List.getElem?_set_self (by omega)]
          unfold swapF; rw [if_pos rfl]
        · rw [List.getElem?_set_ne (by omega), g0]
          unfold swapF; rw [if_neg e2, if_neg e1]
    · rw [s1]
      by_cases e1 : k = b
      · subst e1
        rw [List.getElem?_set_self (by simp [hl]; omega)]
        unfold swapF
        by_cases e2 : k = a
        · subst e2; simp
        · rw [if_neg e2, if_pos rfl]
      · rw [List.getElem?_set_ne (by omega), List.getElem?_set_ne (by omega)]
        by_cases e2 : k = a
        · subst e2
          rw [List.getElem?_set_self (by simp [hl]; omega)]
          unfold swapF; rw [if_pos rfl]
        · rw [List.getElem?_set_ne (by omega), List.getElem?_set_ne (by omega), g1]
          unfold swapF; rw [if_neg e2, if_neg e1]
  · rw [List.getElem?_eq_none (by simp [rowCells_len]; omega), List.getElem?_eq_none (by rw [rowCells_len]; omega)]

theorem swapF_lt {σ : Nat → Nat} {a b c k : Nat} (ha : a < c) (hb : b < c) (hk : k < c) : ∃ k', k' < c ∧ swapF σ a b k = σ k' := by
  unfold swapF
  split
  · exact ⟨b, hb, rfl⟩
  · split
    · exact ⟨a, ha, rfl⟩
    · exact ⟨k, hk, rfl⟩
theorem swapF_inj {σ : Nat → Nat} {a b c : Nat} (ha : a < c) (hb : b < c) (h : ∀ i j, i < c → j < c → σ i = σ j → i = j) : ∀ i j, i < c → j < c → swapF σ a b i = swapF σ a b j → i = j := by
  intro i j hi hj e
  unfold swapF at e
  by_cases a1 : i = a <;> by_cases b1 : j = a <;> by_cases a2 : i = b <;> by_cases b2 : j = b <;> simp only [a1, b1, a2, b2, if_true, if_false] at e <;> (try omega)
  all_goals
    first
      | (have := h _ _ (by omega) (by omega) e; omega)
      | (split at e <;> (try split at e) <;> (have := h _ _ (by omega) (by omega) e; omega))

theorem MF.swap {b0 w : World} {gv cv n m c : Nat} {g h : Nat → Nat} {F G : Nat → List Int} {σ : Nat → Nat} (hm : MF b0 w (.slice (some ⟨gv, 0, none⟩) c cv) n m c g h (fun k => F (σ k)) (fun k => G (σ k))) {a b : Nat} (ha : a < c) (hb : b < c) (hn : n ≤ 1000000) (hmm : m ≤ 1000000) :
    MF b0 ((((w.setCell ⟨gv, a * 2, none⟩ (sl (g b) n)).setCell ⟨gv, a * 2 + 1, none⟩ (sl (h b) m)).setCell ⟨gv, b * 2, none⟩ (sl (g a) n)).setCell ⟨gv, b * 2 + 1, none⟩ (sl (h a) m)) (.slice (some ⟨gv, 0, none⟩) c cv) n m c (swapF g a b) (swapF h a b) (fun k => F (swapF σ a b k)) (fun k => G (swapF σ a b k)) := by
  have hge := hm.own.ge
  have hgv : ∀ k, k < c → gv ≠ g k := fun k hk e => hm.apart_of (hm.gl k hk).1 (by simp [Value.ownBlock, e])
  have hhv : ∀ k, k < c → gv ≠ h k := fun k hk e => hm.apart_of (hm.hb k hk).1 (by simp [Value.ownBlock, e])
  have keep : ∀ {k : Nat} {xs : List Int} {W : World} (j : Nat) (u : Value), NewInts b0 W k xs → xs.length ≤ maxLen → gv ≠ k → NewInts b0 (W.setCell ⟨gv, j, none⟩ u) k xs := fun {k xs W} j u h1 h2 h3 => h1.other (p := ⟨gv, j, none⟩) h2 hge h3 u
  have g1 : ∀ k, k < c → NewInts b0 ((((w.setCell ⟨gv, a * 2, none⟩ (sl (g b) n)).setCell ⟨gv, a * 2 + 1, none⟩ (sl (h b) m)).setCell ⟨gv, b * 2, none⟩ (sl (g a) n)).setCell ⟨gv, b * 2 + 1, none⟩ (sl (h a) m)) (g k) (F (σ k)) ∧ (F (σ k)).length = n := fun k hk => by
    obtain ⟨h1, h2⟩ := hm.gl k hk
    have hl : (F (σ k)).length ≤ maxLen := by rw [h2]; unfold maxLen; omega
    exact ⟨keep _ _ (keep _ _ (keep _ _ (keep _ _ h1 hl (hgv k hk)) hl (hgv k hk)) hl (hgv k hk)) hl (hgv k hk), h2⟩
  have h1 : ∀ k, k < c → NewInts b0 ((((w.setCell ⟨gv, a * 2, none⟩ (sl (g b) n)).setCell ⟨gv, a * 2 + 1, none⟩ (sl (h b) m)).setCell ⟨gv, b * 2, none⟩ (sl (g a) n)).setCell ⟨gv, b * 2 + 1, none⟩ (sl (h a) m)) (h k) (G (σ k)) ∧ (G (σ k)).length = m := fun k hk => by
    obtain ⟨h1, h2⟩ := hm.hb k hk
    have hl : (G (σ k)).length ≤ maxLen := by rw [h2]; unfold maxLen; omega
    exact ⟨keep _ _ (keep _ _ (keep _ _ (keep _ _ h1 hl (hhv k hk)) hl (hhv k hk)) hl (hhv k hk)) hl (hhv k hk), h2⟩
  have both : ∀ k, k < c → ∃ k', k' < c ∧ swapF g a b k = g k' ∧ swapF h a b k = h k' ∧ swapF σ a b k = σ k' := fun k hk => by
    unfold swapF
    by_cases e1 : k = a
    · exact ⟨b, hb, by rw [if_pos e1], by rw [if_pos e1], by rw [if_pos e1]⟩
    · by_cases e2 : k = b
      · exact ⟨a, ha, by rw [if_neg e1, if_pos e2], by rw [if_neg e1, if_pos e2], by rw [if_neg e1, if_pos e2]⟩
      · exact ⟨k, hk, by rw [if_neg e1, if_neg e2], by rw [if_neg e1, if_neg e2], by rw [if_neg e1, if_neg e2]⟩
  refine ⟨?_, fun k hk => ?_, fun k hk => ?_, swapF_inj ha hb hm.gg, swapF_inj ha hb hm.hh, fun i j hi hj => ?_⟩
  · rw [← rowCells_swap n m c g h ha hb]
    exact (((hm.own.store _ _).store _ _).store _ _).store _ _
  · obtain ⟨k', hk', e1, _, e3⟩ := both k hk
    rw [e1, e3]; exact g1 k' hk'
  · obtain ⟨k', hk', _, e2, e3⟩ := both k hk
    rw [e2, e3]; exact h1 k' hk'
  · obtain ⟨i', hi', e1, _, _⟩ := both i hi
    obtain ⟨j', hj', _, e2, _⟩ := both j hj
    rw [e1, e2]; exact hm.gh i' j' hi' hj'
end Go.Proofs.Ytbclbcldplmppaa

/- Rows of numbers in own memory, as a function of row and column (the reference's elimination). -/
namespace Go.Proofs.Ytbclbcldplmppaa
open Go.RowKit

def rowI (f : Nat → Int) (n : Nat) : List Int := (List.range n).map f
@[simp] theorem rowI_length (f : Nat → Int) (n : Nat) : (rowI f n).length = n := by simp [rowI]
theorem rowI_get (f : Nat → Int) {n j : Nat} (h : j < n) : (rowI f n)[j]? = some (f j) := by simp [rowI, h]
theorem rowI_congr {f g : Nat → Int} {n : Nat} (h : ∀ j, j < n → f j = g j) : rowI f n = rowI g n := List.map_congr_left fun j hj => h j (List.mem_range.1 hj)
theorem rowI_set (f : Nat → Int) (n j : Nat) (x : Int) : (rowI f n).set j x = rowI (fun i => if i = j then x else f i) n := by
  apply List.ext_getElem?
  intro i
  rw [List.getElem?_set]
  by_cases e : j = i
  · subst e
    by_cases hj : j < n
    · rw [if_pos rfl, if_pos (by simpa using hj), rowI_get _ hj, if_pos rfl]
    · rw [if_pos rfl, if_neg (by simpa using hj)]
      symm; simp [rowI]; omega
  · rw [if_neg e]
    by_cases hi : i < n
    · rw [rowI_get _ hi, rowI_get _ hi, if_neg (fun h => e h.symm)]
    · rw [List.getElem?_eq_none (by simpa using hi), List.getElem?_eq_none (by simpa using hi)]
theorem rowI_succ (f : Nat → Int) (n : Nat) : rowI f (n + 1) = rowI f n ++ [f n] := by simp [rowI, List.range_succ]

def rsl (g c : Nat → Nat) (n k : Nat) : Value := .slice (some ⟨g k, 0, none⟩) n (c k)
def rsls (g c : Nat → Nat) (n a : Nat) : List Value := (List.range a).map (rsl g c n)
@[simp] theorem rsls_length (g c : Nat → Nat) (n a : Nat) : (rsls g c n a).length = a := by simp [rsls]
theorem rsls_get (g c : Nat → Nat) (n : Nat) {a k : Nat} (h : k < a) : (rsls g c n a)[k]? = some (rsl g c n k) := by simp [rsls, h]

/-- a rows of n numbers in own memory, each in a block of its own. -/
structure RM (b w : World) (v : Value) (n a : Nat) (g c : Nat → Nat) (M : Nat → Nat → Int) : Prop where
  own : Own b w 22 1 v a (rsls g c n a)
  rl : ∀ k, k < a → Own b w 3 1 (rsl g c n k) n ((rowI (M k) n).map vint)
  gg : ∀ i j, i < a → j < a → g i = g j → i = j

section
variable {b w w' : World} {v : Value} {n a : Nat} {g c : Nat → Nat} {M : Nat → Nat → Int}
theorem RM.ext (h : RM b w v n a g c M) : Ext b w := h.own.ext
theorem RM.later (h : RM b w v n a g c M) (he : Ext w w') : RM b w' v n a g c M := ⟨h.own.later he, fun k hk => (h.rl k hk).later he, h.gg⟩
theorem RM.start (he : Ext b w) (n : Nat) (g c : Nat → Nat) (M : Nat → Nat → Int) : RM b w (.slice none 0 0) n 0 g c M := ⟨Own.nil' he _ _, fun k hk => by omega, fun i j hi => by omega⟩
theorem Own.blk {b w : World} {e : TypeId} {s : Nat} {A k c : Nat} {xs : List Value} (h : Own b w e s (.slice (some ⟨A, 0, none⟩) k c) k xs) : ∃ cs, w.heap[A]? = some (.cells cs e) := by
  rcases h.2.2 with ⟨e, _⟩ | ⟨g', cap, cur, e, _, hh, _⟩
  · cases e
  · injection e with e1 e2 e3
    injection e1 with e1
    injection e1 with e1 _ _
    subst e1
    exact ⟨cur, hh⟩
theorem Own.blk_lt {b w : World} {e : TypeId} {s : Nat} {A k c : Nat} {xs : List Value} (h : Own b w e s (.slice (some ⟨A, 0, none⟩) k c) k xs) : A < w.heap.size := by
  obtain ⟨cs, hh⟩ := h.blk
  exact (Array.getElem?_eq_some_iff.1 hh).1
theorem RM.apart_of {A k cc : Nat} {xs : List Value} {b' : World} (h : RM b w v n a g c M) (hk : Own b' w 3 1 (.slice (some ⟨A, 0, none⟩) k cc) k xs) : v.ownBlock ≠ some A := fun e => by
  rcases h.own.2.2 with ⟨rfl, _⟩ | ⟨g', cap, cur, rfl, _, hh, _⟩
  · cases e
  · injection e with e
    simp only at e
    subst e
    obtain ⟨cs, hb⟩ := hk.blk
    rw [hh] at hb
    injection hb with hb
    injection hb with _ ht
    exact absurd ht (by decide)

theorem RM.apart (h : RM b w v n a g c M) {k : Nat} (hk : k < a) : v.ownBlock ≠ some (g k) := h.apart_of (h.rl k hk)
theorem RM.lt (h : RM b w v n a g c M) {k : Nat} (hk : k < a) : g k < w.heap.size := (h.rl k hk).blk_lt
theorem RM.ge (h : RM b w v n a g c M) {k : Nat} (hk : k < a) : b.heap.size ≤ g k := (h.rl k hk).ge

/-- One row more, built since w1. -/
theorem RM.append {w1 w2 w3 : World} {v' : Value} {g0 c0 : Nat} {f : Nat → Int} (h : RM b w v n a g c M) (hr : Own w w1 3 1 (.slice (some ⟨g0, 0, none⟩) n c0) n ((rowI f n).map vint)) (he : Ext w1 w2)
    (ho : Own b w3 22 1 v' (a + 1) (rsls g c n a ++ [.slice (some ⟨g0, 0, none⟩) n c0])) (hgr : w2.grownBy w3 v.ownBlock) (hM : ∀ j, j < n → M a j = f j) :
    RM b w3 v' n (a + 1) (fun k => if k = a then g0 else g k) (fun k => if k = a then c0 else c k) M := by
  have h1 := h.later hr.ext
  have h2 := h1.later he
  have hr2 := hr.later he
  have keep : ∀ {A k cc : Nat} {xs : List Value} {b' : World}, Own b w2 3 1 (.slice (some ⟨A, 0, none⟩) k cc) k xs → Own b w3 3 1 (.slice (some ⟨A, 0, none⟩) k cc) k xs := fun {A k cc xs _} hk => by
    refine ⟨ho.ext, hk.2.1, ?_⟩
    rcases hk.2.2 with e | ⟨g', cap, cur, e, hb, hh, r⟩
    · exact .inl e
    · refine .inr ⟨g', cap, cur, e, hb, ?_, r⟩
      injection e with e1 e2 e3
      injection e1 with e1
      injection e1 with e1 _ _
      subst e1
      rw [hgr.block A hk.blk_lt (fun e => h2.apart_of hk e.symm)]
      exact hh
  refine ⟨?_, fun k hk => ?_, fun i j hi hj e => ?_⟩
  · have : rsls (fun k => if k = a then g0 else g k) (fun k => if k = a then c0 else c k) n (a + 1) = rsls g c n a ++ [.slice (some ⟨g0, 0, none⟩) n c0] := by
      unfold rsls
      rw [List.range_succ, List.map_append]
      congr 1
      · refine List.map_congr_left fun k hk => ?_
        have : k ≠ a := by have := List.mem_range.1 hk; omega
        simp only [rsl, if_neg this]
      · simp [rsl]
    rw [this]; exact ho
  · by_cases e : k = a
    · subst e
      have hr3 := keep (b' := b) (hr2.since h.ext)
      rw [rowI_congr hM]
      simpa only [rsl, if_true] using hr3
    · have := keep (b' := b) (h2.rl k (by omega))
      simpa only [rsl, if_neg e] using this
  · have hg := hr.ge
    by_cases e1 : i = a <;> by_cases e2 : j = a <;> simp only [e1, e2, if_true, if_false] at e ⊢
    · have := h.lt (k := j) (by omega); omega
    · have := h.lt (k := i) (by omega); omega
    · exact h.gg i j (by omega) (by omega) e

/-- A number is stored. -/
theorem RM.store (h : RM b w v n a g c M) {k : Nat} (hk : k < a) (j : Nat) (x : Int) : RM b (w.setCell ⟨g k, j, none⟩ (vint x)) v n a g c (fun i => if i = k then fun l => if l = j then x else M k l else M i) := by
  refine ⟨h.own.other (p := ⟨g k, j, none⟩) (h.ge hk) (h.apart hk) _, fun i hi => ?_, h.gg⟩
  by_cases e : i = k
  · subst e
    rw [if_pos rfl]
    have := (h.rl i hi).store j (vint x)
    rw [← List.map_set, rowI_set] at this
    exact this
  · rw [if_neg e]
    exact (h.rl i hi).other (p := ⟨g k, j, none⟩) (h.ge hk) (by simp only [rsl, Value.ownBlock, ne_eq, Option.some.injEq]; exact fun e' => e (h.gg i k hi hk e')) _
theorem RM.congr {M' : Nat → Nat → Int} (h : RM b w v n a g c M) (hM : ∀ k, k < a → ∀ j, j < n → M k j = M' k j) : RM b w v n a g c M' :=
  ⟨h.own, fun k hk => by rw [← rowI_congr (hM k hk)]; exact h.rl k hk, h.gg⟩
theorem RM.cell (h : RM b w v n a g c M) {k j : Nat} (hk : k < a) (hj : j < n) : w.cell? ⟨g k, j, none⟩ = some (vint (M k j)) := by
  have := (h.rl k hk).cell (j := j) (by simpa using hj)
  rw [this]
  simp [rowI_get _ hj]
theorem RM.free (h : RM b w v n a g c M) {k : Nat} (hk : k < a) (j : Nat) : w.frozen? ⟨g k, j, none⟩ = false := (h.rl k hk).free j
theorem RM.row {gv cv : Nat} (h : RM b w (.slice (some ⟨gv, 0, none⟩) a cv) n a g c M) {k : Nat} (hk : k < a) : w.cell? ⟨gv, k, none⟩ = some (rsl g c n k) := by
  rw [h.own.cell (by simpa using hk), rsls_get _ _ _ hk]

def swapM (M : Nat → Nat → Int) (a b k : Nat) : Nat → Int := if k = a then M b else if k = b then M a else M k
/-- Two rows exchanged. -/
theorem RM.swap {gv cv : Nat} (h : RM b w (.slice (some ⟨gv, 0, none⟩) a cv) n a g c M) {x y : Nat} (hx : x < a) (hy : y < a) :
    RM b ((w.setCell ⟨gv, x, none⟩ (rsl g c n y)).setCell ⟨gv, y, none⟩ (rsl g c n x)) (.slice (some ⟨gv, 0, none⟩) a cv) n a (swapF g x y) (swapF c x y) (swapM M x y) := by
  have hge := h.own.ge
  have both : ∀ k, k < a → ∃ k', k' < a ∧ swapF g x y k = g k' ∧ swapF c x y k = c k' ∧ swapM M x y k = M k' := fun k hk => by
    unfold swapF swapM
    by_cases e1 : k = x
    · exact ⟨y, hy, by rw [if_pos e1], by rw [if_pos e1], by rw [if_pos e1]⟩
    · by_cases e2 : k = y
      · exact ⟨x, hx, by rw [if_neg e1, if_pos e2], by rw [if_neg e1, if_pos e2], by rw [if_neg e1, if_pos e2]⟩
      · exact ⟨k, hk, by rw [if_neg e1, if_neg e2], by rw [if_neg e1, if_neg e2], by rw [if_neg e1, if_neg e2]⟩
  refine ⟨?_, fun k hk => ?_, swapF_inj hx hy h.gg⟩
  · have := (h.own.store x (rsl g c n y)).store y (rsl g c n x)
    have e : (((rsls g c n a).set x (rsl g c n y)).set y (rsl g c n x)) = rsls (swapF g x y) (swapF c x y) n a := by
      apply List.ext_getElem?
      intro i
      rw [List.getElem?_set, List.getElem?_set]
      by_cases hi : i < a
      · rw [rsls_get (swapF g x y) (swapF c x y) n hi]
        by_cases e1 : y = i
        · subst e1
          rw [if_pos rfl, if_pos (by simpa using hi)]
          by_cases e2 : y = x
          · subst e2; simp [rsl, swapF]
          · simp [rsl, swapF, e2]
        · rw [if_neg e1]
          by_cases e2 : x = i
          · subst e2
            rw [if_pos rfl, if_pos (by simpa using hi)]
            simp [rsl, swapF]
          · rw [if_neg e2, rsls_get g c n hi]
            have e1' : ¬ i = y := fun h => e1 h.symm
            have e2' : ¬ i = x := fun h => e2 h.symm
            simp [rsl, swapF, e1', e2']
      · rw [List.getElem?_eq_none (l := rsls (swapF g x y) (swapF c x y) n a) (by simpa using hi), if_neg (show ¬ y = i from fun e => hi (e ▸ hy)), if_neg (show ¬ x = i from fun e => hi (e ▸ hx))]
        exact List.getElem?_eq_none (by simpa using hi)
    rw [← e]; exact this
  · obtain ⟨k', hk', e1, e2, e3⟩ := both k hk
    unfold rsl
    rw [e1, e2, e3]
    have h1 := h.rl k' hk'
    have hne : (rsl g c n k').ownBlock ≠ some gv := by
      have := h.apart hk'
      simp only [rsl, Value.ownBlock, ne_eq, Option.some.injEq] at this ⊢
      exact fun e => this e.symm
    exact (h1.other (p := ⟨gv, x, none⟩) hge hne _).other (p := ⟨gv, y, none⟩) hge hne _
end
end Go.Proofs.Ytbclbcldplmppaa

/- solve: its loops' bodies. -/
namespace Go.Proofs.Ytbclbcldplmppaa
def blockOf (n : Nat) : Code → Option Code
  | .block k c => if k = n then some c else blockOf n c
  | .seq a b => match blockOf n a with
    | some c => some c
    | none => blockOf n b
  | .cond _ a b => match blockOf n a with
    | some c => some c
    | none => blockOf n b
  | .loop c => blockOf n c
  | .scope c => blockOf n c
  | _ => none
def loopBody : Code → Code
  | .loop c => c
  | _ => .skip
noncomputable def loop65_8 : Code := ((Try.f65.body.bind (blockOf 8)).map loopBody).getD .skip
noncomputable def loop65_10 : Code := ((Try.f65.body.bind (blockOf 10)).map loopBody).getD .skip
noncomputable def loop65_6 : Code := ((Try.f65.body.bind (blockOf 6)).map loopBody).getD .skip
end Go.Proofs.Ytbclbcldplmppaa

/- The reference's numbers modulo a prime. -/
namespace Go.Proofs.Ytbclbcldplmppaa
open Go.RowKit

theorem rest_eq (n p : Int) (hp : 0 < p) : (n.tmod p + p).tmod p = n % p := by
  have h1 := Int.emod_nonneg n (show p ≠ 0 by omega)
  have h2 := Int.emod_lt_of_pos n hp
  have h3 : n.tmod p + p = n % p + p ∨ n.tmod p + p = n % p := by
    rw [Int.tmod_eq_emod]
    split
    · left; omega
    · right
      have : (p.natAbs : Int) = p := by omega
      rw [this]; omega
  rcases h3 with e | e
  · rw [e, Int.tmod_eq_emod_of_nonneg (by omega), Int.add_emod_right]
    exact Int.emod_eq_of_lt h1 h2
  · rw [e, Int.tmod_eq_emod_of_nonneg h1]
    exact Int.emod_eq_of_lt h1 h2
theorem tmod_small (n p : Int) (hp : 0 < p) : -p < n.tmod p ∧ n.tmod p < p := by
  have h1 := Int.emod_nonneg n (show p ≠ 0 by omega)
  have h2 := Int.emod_lt_of_pos n hp
  rw [Int.tmod_eq_emod]
  split
  · omega
  · have : (p.natAbs : Int) = p := by omega
    rw [this]
    rename_i h
    have : n % p ≠ 0 := fun e => h (.inr (Int.dvd_of_emod_eq_zero e))
    omega

set_option maxRecDepth 100000 in
theorem rest_any (n p : Int) (w : World) (hp : 0 < p) (hp2 : p ≤ 2147483647) :
    Calls Try.prog 110 #[.int .i64 n, .int .i64 p] w fun e w' => e = .returned (.int .i64 (n % p)) ∧ w = w' := by
  have h1 := tmod_small n p hp
  have h2 := rest_eq n p hp
  have h3 := tmod_small (n.tmod p + p) p hp
  have e0 : ¬ (p = 0) := by omega
  have e1 : IntKind.i64.wrap (n.tmod p) = n.tmod p := by rw [IntKind.wrap_i64]; omega
  have e2 : IntKind.i64.wrap (n.tmod p + p) = n.tmod p + p := by rw [IntKind.wrap_i64]; omega
  have e3 : IntKind.i64.wrap ((n.tmod p + p).tmod p) = n % p := by rw [IntKind.wrap_i64]; omega
  go_enter Try.func110, Try.ntmps110
  go_wp2
  go_ret
  exact ⟨rfl, rfl⟩
end Go.Proofs.Ytbclbcldplmppaa

/- rankOf: the loops that clear a column. -/
namespace Go.Proofs.Ytbclbcldplmppaa
open Go.RowKit

noncomputable def loop97_10 : Code := ((Try.f97.body.bind (blockOf 10)).map loopBody).getD .skip
noncomputable def loop97_8 : Code := ((Try.f97.body.bind (blockOf 8)).map loopBody).getD .skip

/-- Row q has its first j numbers from N. -/
def mixN (N : Nat → Int) (M : Nat → Nat → Int) (q j x i : Nat) : Int := if x = q ∧ i < j then N i else M x i
theorem mixN_zero (N : Nat → Int) (M : Nat → Nat → Int) (q x i : Nat) : mixN N M q 0 x i = M x i := by simp [mixN]
theorem mixN_step (N : Nat → Int) (M : Nat → Nat → Int) (q j : Nat) : (fun i => if i = q then fun l => if l = j then N j else mixN N M q j q l else mixN N M q j i) = mixN N M q (j + 1) := by
  funext i l
  by_cases e : i = q
  · subst e
    simp only [if_true, mixN, true_and]
    by_cases e2 : l = j
    · subst e2; simp
    · rw [if_neg e2]
      by_cases h : l < j
      · rw [if_pos h, if_pos (by omega)]
      · rw [if_neg h, if_neg (by omega)]
  · simp [mixN, e]


set_option maxRecDepth 1000000 in
set_option maxHeartbeats 4000000 in
theorem rkL {u0 u3 u4 u5 u6 u8 u9 u10 u12 u13 u14 u18 u19 u20 u21 u22 u23 u24 u25 u26 u27 u28 u29 u30 u31 u32 u33 u34 u35 u36 u37 u38 u39 u40 u41 u42 u43 u44 u45 u46 u47 u48 u49 u50 u51 u52 u53 u54 u55 u56 u57 u58 u59 u60 u61 u62 u63 u64 u65 u66 u67 u68 u69 u70 u71 u72 u73 u74 u75 u76 u77 u78 u79 u80 u81 u82 u83 u84 u85 u86 u87 u88 u89 u90 u91 u92 u93 u94 u95 u96 u97 u98 u99 u100 u101 u102 u103 u104 u105 u106 u107 u108 u109 u110 u111 u112 u113 u114 u115 u116 u117 u118 u119 u120 u121 u122 u123 u124 u125 u126 u127 u128 u129 u130 u131 u132 u133 u134 u135 u136 u137 u138 u139 u140 u141 u142 u143 u144 u145 u146 u147 : Value} {b w0 : World} {n a r q gv cv pp : Nat} {g c : Nat → Nat} {N : Nat → Int} {M : Nat → Nat → Int} {t : Int} {Q : Exit → Act → World → Prop}
    (hq : q < a) (hr : r < a) (hne : r ≠ q) (hpp : 2 < pp) (hpp2 : pp ≤ 2147483647) (ht0 : 0 ≤ t) (ht : t < pp) (hM : ∀ x, x < a → ∀ j, j < n → 0 ≤ M x j ∧ M x j < pp)
    (hN : ∀ j, j < n → N j = (M q j - t * M r j % pp) % pp) (hrm : RM b w0 (.slice (some ⟨gv, 0, none⟩) a cv) n a g c (mixN N M q 0)) (_ha : a ≤ 1000000) (hn : n ≤ 1000000)
    (hexit : ∀ (x17 x113 x114 x115 x116 x117 x118 x119 x120 x121 x122 x123 x124 x125 x126 x127 x128 x129 x130 x131 x132 x133 x134 x135 x136 x137 x138 x139 x140 x141 x142 x143 x144 : Value) (w' : World), RM b w' (.slice (some ⟨gv, 0, none⟩) a cv) n a g c (mixN N M q n) → Q (.exit 10) ⟨(u0 :: (.int .i64 (n : Int)) :: (.int .i64 (pp : Int)) :: u3 :: u4 :: u5 :: u6 :: (.slice (some ⟨gv, 0, none⟩) a cv) :: u8 :: u9 :: u10 :: (.int .i64 (r : Int)) :: u12 :: u13 :: u14 :: (.int .i64 (q : Int)) :: (.int .i64 t) :: (x17) :: u18 :: u19 :: u20 :: u21 :: u22 :: u23 :: u24 :: u25 :: u26 :: u27 :: u28 :: u29 :: u30 :: u31 :: u32 :: u33 :: u34 :: u35 :: u36 :: u37 :: u38 :: u39 :: u40 :: u41 :: u42 :: u43 :: u44 :: u45 :: u46 :: u47 :: u48 :: u49 :: u50 :: u51 :: u52 :: u53 :: u54 :: u55 :: u56 :: u57 :: u58 :: u59 :: u60 :: u61 :: u62 :: u63 :: u64 :: u65 :: u66 :: u67 :: u68 :: u69 :: u70 :: u71 :: u72 :: u73 :: u74 :: u75 :: u76 :: u77 :: u78 :: u79 :: u80 :: u81 :: u82 :: u83 :: u84 :: u85 :: u86 :: u87 :: u88 :: u89 :: u90 :: u91 :: u92 :: u93 :: u94 :: u95 :: u96 :: u97 :: u98 :: u99 :: u100 :: u101 :: u102 :: u103 :: u104 :: u105 :: u106 :: u107 :: u108 :: u109 :: u110 :: u111 :: u112 :: (x113) :: (x114) :: (x115) :: (x116) :: (x117) :: (x118) :: (x119) :: (x120) :: (x121) :: (x122) :: (x123) :: (x124) :: (x125) :: (x126) :: (x127) :: (x128) :: (x129) :: (x130) :: (x131) :: (x132) :: (x133) :: (x134) :: (x135) :: (x136) :: (x137) :: (x138) :: (x139) :: (x140) :: (x141) :: (x142) :: (x143) :: (x144) :: u145 :: u146 :: u147 :: []).toArray, []⟩ w') :
    Code.wp Try.prog (Code.loop loop97_10) Q ⟨(u0 :: (.int .i64 (n : Int)) :: (.int .i64 (pp : Int)) :: u3 :: u4 :: u5 :: u6 :: (.slice (some ⟨gv, 0, none⟩) a cv) :: u8 :: u9 :: u10 :: (.int .i64 (r : Int)) :: u12 :: u13 :: u14 :: (.int .i64 (q : Int)) :: (.int .i64 t) :: (.int .i64 0) :: u18 :: u19 :: u20 :: u21 :: u22 :: u23 :: u24 :: u25 :: u26 :: u27 :: u28 :: u29 :: u30 :: u31 :: u32 :: u33 :: u34 :: u35 :: u36 :: u37 :: u38 :: u39 :: u40 :: u41 :: u42 :: u43 :: u44 :: u45 :: u46 :: u47 :: u48 :: u49 :: u50 :: u51 :: u52 :: u53 :: u54 :: u55 :: u56 :: u57 :: u58 :: u59 :: u60 :: u61 :: u62 :: u63 :: u64 :: u65 :: u66 :: u67 :: u68 :: u69 :: u70 :: u71 :: u72 :: u73 :: u74 :: u75 :: u76 :: u77 :: u78 :: u79 :: u80 :: u81 :: u82 :: u83 :: u84 :: u85 :: u86 :: u87 :: u88 :: u89 :: u90 :: u91 :: u92 :: u93 :: u94 :: u95 :: u96 :: u97 :: u98 :: u99 :: u100 :: u101 :: u102 :: u103 :: u104 :: u105 :: u106 :: u107 :: u108 :: u109 :: u110 :: u111 :: u112 :: u113 :: u114 :: u115 :: u116 :: u117 :: u118 :: u119 :: u120 :: u121 :: u122 :: u123 :: u124 :: u125 :: u126 :: u127 :: u128 :: u129 :: u130 :: u131 :: u132 :: u133 :: u134 :: u135 :: u136 :: u137 :: u138 :: u139 :: u140 :: u141 :: u142 :: u143 :: u144 :: u145 :: u146 :: u147 :: []).toArray, []⟩ w0 := by
  have Hexit := Lib.hid hexit
  have HM := Lib.hid hM
  have HN := Lib.hid hN
  clear hexit hM hN
  conv => arg 2; arg 1; whnf
  go_loopw [17] (fun i wr => ∃ j : Nat, j ≤ n ∧ i = .int .i64 j ∧ RM b wr (.slice (some ⟨gv, 0, none⟩) a cv) n a g c (mixN N M q j)) (fun i _ => n - (intOf i).toNat)
  case atStart => exact ⟨0, by omega, rfl, hrm⟩
  case round =>
    clear hrm
    obtain ⟨j, hj, rfl, hrm⟩ := hrel
    by_cases hjn : j < n
    · obtain ⟨bq1, bq2⟩ := HM.out q hq j hjn
      obtain ⟨br1, br2⟩ := HM.out r hr j hjn
      have hNj := HN.out j hjn
      have HNj := Lib.hid hNj
      clear hNj
      have e0 : 0 ≤ t * M r j := Int.mul_nonneg ht0 br1
      have e1 : t * M r j ≤ 2147483647 * 2147483647 := Int.mul_le_mul (by omega) (by omega) br1 (by omega)
      have hu1 := Int.emod_nonneg (t * M r j) (show (pp : Int) ≠ 0 by omega)
      have hu2 := Int.emod_lt_of_pos (t * M r j) (show (0 : Int) < pp by omega)
      have m1 : IntKind.i64.wrap (t * M r j) = t * M r j := by rw [IntKind.wrap_i64]; omega
      have m2 : (t * M r j).tmod (pp : Int) = t * M r j % pp := Int.tmod_eq_emod_of_nonneg e0
      have hpp0 : ¬ ((pp : Int) = 0) := by omega
      have m3 : IntKind.i64.wrap (t * M r j % pp) = t * M r j % pp := by rw [IntKind.wrap_i64]; omega
      have m4 : IntKind.i64.wrap (M q j - t * M r j % pp) = M q j - t * M r j % pp := by rw [IntKind.wrap_i64]; omega
      clear e0 e1
      have cq : ∀ w', Ext wr w' → w'.cell? ⟨gv, q, none⟩ = some (.slice (some ⟨g q, 0, none⟩) n (c q)) := fun w' he => he.cell (hrm.row hq)
      have cr : ∀ w', Ext wr w' → w'.cell? ⟨gv, r, none⟩ = some (.slice (some ⟨g r, 0, none⟩) n (c r)) := fun w' he => he.cell (hrm.row hr)
      have dq : ∀ w', Ext wr w' → w'.cell? ⟨g q, j, none⟩ = some (.int .i64 (M q j)) := fun w' he => he.cell (by
        have := hrm.cell hq hjn
        rw [this]; simp [mixN])
      have dr : ∀ w', Ext wr w' → w'.cell? ⟨g r, j, none⟩ = some (.int .i64 (M r j)) := fun w' he => he.cell (by
        have := hrm.cell hr hjn
        rw [this]; simp [mixN, hne])
      have hji : (j : Int) < (n : Int) := by omega
      have hqi : (q : Int) < (a : Int) := by omega
      have hri : (r : Int) < (a : Int) := by omega
      have hfq := hrm.free hq j
      have hqlt := hrm.lt hq
      have cc := fun (w' : World) => rest_any (M q j - t * M r j % pp) pp w' (by omega) (by omega)
      have Cc := Lib.hid cc
      clear cc
      go_wp2
      refine wp_region_calm 26 (fun _ _ v _ => v = .int .i64 (N j)) (fun _ _ _ _ _ _ h => h) (by kernel_rfl) (by kernel_rfl) ?_
      simp only [List.take_succ_cons, List.take_zero, List.drop_succ_cons, List.drop_zero]
      refine calm_quiet calm_mono_final 25 (by kernel_rfl) ?_
      simp only [List.take_succ_cons, List.take_zero, List.drop_succ_cons, List.drop_zero]
      repeat (go_big_quiet_step (fail))
      refine wpQuiet_nil ?_
      refine calm_call calm_mono_final 110 #[.int .i64 (M q j - t * M r j % pp), .int .i64 pp] rfl (fun w => ?_) (fun w he _ => ?_) ?_
      · go_simp
      · exact (Cc.out w).mono fun e w'' ⟨he', hx⟩ => ⟨_, he', by rw [hx]; exact Ext.refl _, by rw [HNj.out]⟩
      intro v1 _ _ hv1
      have hv1' : v1 = .int .i64 (N j) := hv1
      subst hv1'
      clear hv1
      simp only [Act.put, List.setIfInBounds_toArray, List.set_cons_succ, List.set_cons_zero]
      refine calm_nil fun w3 he3 hF => ?_
      clear hF
      have dq3 := dq w3 he3
      have hf3 : w3.frozen? ⟨g q, j, none⟩ = false := (he3.frozen hqlt).trans hfq
      have hrm3 := (hrm.later he3).store hq j (N j)
      rw [mixN_step] at hrm3
      clear cq cr dq dr hfq Cc hrm
      go_wp2
      go_roundw
      case rel => exact ⟨j + 1, by omega, by go_num, hrm3⟩
      case measure => simp [intOf]; omega
    · obtain rfl : j = n := by omega
      have hx := Hexit.out
      go_wp2
      exact hrm
end Go.Proofs.Ytbclbcldplmppaa

/- rankOf: the loop over the rows. -/
namespace Go.Proofs.Ytbclbcldplmppaa
open Go.RowKit

/-- The rows behind r, before q, cleared in a column. -/
def elM (M : Nat → Nat → Int) (r cl : Nat) (β : Int) (pp q x j : Nat) : Int := if r < x ∧ x < q then (M x j - M x cl * β % pp * M r j % pp) % pp else M x j
theorem elM_bd {M : Nat → Nat → Int} {r cl : Nat} {β : Int} {pp q x j : Nat} (hpp : 2 < pp) (h : 0 ≤ M x j ∧ M x j < pp) : 0 ≤ elM M r cl β pp q x j ∧ elM M r cl β pp q x j < pp := by
  unfold elM
  split
  · exact ⟨Int.emod_nonneg _ (by omega), Int.emod_lt_of_pos _ (by omega)⟩
  · exact h

set_option maxRecDepth 1000000 in
set_option maxHeartbeats 4000000 in
theorem rkR {u0 u3 u4 u5 u6 u8 u9 u10 u13 u16 u17 u18 u19 u20 u21 u22 u23 u24 u25 u26 u27 u28 u29 u30 u31 u32 u33 u34 u35 u36 u37 u38 u39 u40 u41 u42 u43 u44 u45 u46 u47 u48 u49 u50 u51 u52 u53 u54 u55 u56 u57 u58 u59 u60 u61 u62 u63 u64 u65 u66 u67 u68 u69 u70 u71 u72 u73 u74 u75 u76 u77 u78 u79 u80 u81 u82 u83 u84 u85 u86 u87 u88 u89 u90 u91 u92 u93 u94 u95 u96 u97 u98 u99 u100 u101 u102 u103 u104 u105 u106 u107 u108 u109 u110 u111 u112 u113 u114 u115 u116 u117 u118 u119 u120 u121 u122 u123 u124 u125 u126 u127 u128 u129 u130 u131 u132 u133 u134 u135 u136 u137 u138 u139 u140 u141 u142 u143 u144 u145 u146 u147 : Value} {b w0 : World} {n a r cl gv cv pp : Nat} {g c : Nat → Nat} {M : Nat → Nat → Int} {β : Int} {Q : Exit → Act → World → Prop}
    (hr : r < a) (hcl : cl < n) (hpp : 2 < pp) (hpp2 : pp ≤ 2147483647) (hβ0 : 0 ≤ β) (hβ : β < pp) (hM : ∀ x, x < a → ∀ j, j < n → 0 ≤ M x j ∧ M x j < pp)
    (hrm : RM b w0 (.slice (some ⟨gv, 0, none⟩) a cv) n a g c M) (ha : a ≤ 1000000) (hn : n ≤ 1000000)
    (hexit : ∀ (x15 x16 x17 x96 x97 x98 x99 x100 x101 x102 x103 x104 x105 x106 x107 x108 x109 x110 x111 x112 x113 x114 x115 x116 x117 x118 x119 x120 x121 x122 x123 x124 x125 x126 x127 x128 x129 x130 x131 x132 x133 x134 x135 x136 x137 x138 x139 x140 x141 x142 x143 x144 : Value) (w' : World), RM b w' (.slice (some ⟨gv, 0, none⟩) a cv) n a g c (elM M r cl β pp a) → Q (.exit 8) ⟨(u0 :: (.int .i64 (n : Int)) :: (.int .i64 (pp : Int)) :: u3 :: u4 :: u5 :: u6 :: (.slice (some ⟨gv, 0, none⟩) a cv) :: u8 :: u9 :: u10 :: (.int .i64 (r : Int)) :: (.int .i64 (cl : Int)) :: u13 :: (.int .i64 β) :: (x15) :: (x16) :: (x17) :: u18 :: u19 :: u20 :: u21 :: u22 :: u23 :: u24 :: u25 :: u26 :: u27 :: u28 :: u29 :: u30 :: u31 :: u32 :: u33 :: u34 :: u35 :: u36 :: u37 :: u38 :: u39 :: u40 :: u41 :: u42 :: u43 :: u44 :: u45 :: u46 :: u47 :: u48 :: u49 :: u50 :: u51 :: u52 :: u53 :: u54 :: u55 :: u56 :: u57 :: u58 :: u59 :: u60 :: u61 :: u62 :: u63 :: u64 :: u65 :: u66 :: u67 :: u68 :: u69 :: u70 :: u71 :: u72 :: u73 :: u74 :: u75 :: u76 :: u77 :: u78 :: u79 :: u80 :: u81 :: u82 :: u83 :: u84 :: u85 :: u86 :: u87 :: u88 :: u89 :: u90 :: u91 :: u92 :: u93 :: u94 :: u95 :: (x96) :: (x97) :: (x98) :: (x99) :: (x100) :: (x101) :: (x102) :: (x103) :: (x104) :: (x105) :: (x106) :: (x107) :: (x108) :: (x109) :: (x110) :: (x111) :: (x112) :: (x113) :: (x114) :: (x115) :: (x116) :: (x117) :: (x118) :: (x119) :: (x120) :: (x121) :: (x122) :: (x123) :: (x124) :: (x125) :: (x126) :: (x127) :: (x128) :: (x129) :: (x130) :: (x131) :: (x132) :: (x133) :: (x134) :: (x135) :: (x136) :: (x137) :: (x138) :: (x139) :: (x140) :: (x141) :: (x142) :: (x143) :: (x144) :: u145 :: u146 :: u147 :: []).toArray, []⟩ w') :
    Code.wp Try.prog (Code.loop loop97_8) Q ⟨(u0 :: (.int .i64 (n : Int)) :: (.int .i64 (pp : Int)) :: u3 :: u4 :: u5 :: u6 :: (.slice (some ⟨gv, 0, none⟩) a cv) :: u8 :: u9 :: u10 :: (.int .i64 (r : Int)) :: (.int .i64 (cl : Int)) :: u13 :: (.int .i64 β) :: (.int .i64 ((r + 1 : Nat) : Int)) :: u16 :: u17 :: u18 :: u19 :: u20 :: u21 :: u22 :: u23 :: u24 :: u25 :: u26 :: u27 :: u28 :: u29 :: u30 :: u31 :: u32 :: u33 :: u34 :: u35 :: u36 :: u37 :: u38 :: u39 :: u40 :: u41 :: u42 :: u43 :: u44 :: u45 :: u46 :: u47 :: u48 :: u49 :: u50 :: u51 :: u52 :: u53 :: u54 :: u55 :: u56 :: u57 :: u58 :: u59 :: u60 :: u61 :: u62 :: u63 :: u64 :: u65 :: u66 :: u67 :: u68 :: u69 :: u70 :: u71 :: u72 :: u73 :: u74 :: u75 :: u76 :: u77 :: u78 :: u79 :: u80 :: u81 :: u82 :: u83 :: u84 :: u85 :: u86 :: u87 :: u88 :: u89 :: u90 :: u91 :: u92 :: u93 :: u94 :: u95 :: u96 :: u97 :: u98 :: u99 :: u100 :: u101 :: u102 :: u103 :: u104 :: u105 :: u106 :: u107 :: u108 :: u109 :: u110 :: u111 :: u112 :: u113 :: u114 :: u115 :: u116 :: u117 :: u118 :: u119 :: u120 :: u121 :: u122 :: u123 :: u124 :: u125 :: u126 :: u127 :: u128 :: u129 :: u130 :: u131 :: u132 :: u133 :: u134 :: u135 :: u136 :: u137 :: u138 :: u139 :: u140 :: u141 :: u142 :: u143 :: u144 :: u145 :: u146 :: u147 :: []).toArray, []⟩ w0 := by
  have Hexit := Lib.hid hexit
  have HM := Lib.hid hM
  clear hexit hM
  conv => arg 2; arg 1; whnf
  go_loopw [15] (fun i wr => ∃ q : Nat, r + 1 ≤ q ∧ q ≤ a ∧ i = .int .i64 q ∧ RM b wr (.slice (some ⟨gv, 0, none⟩) a cv) n a g c (elM M r cl β pp q)) (fun i _ => a - (intOf i).toNat)
  case atStart => exact ⟨r + 1, by omega, by omega, rfl, hrm.congr fun x _ j _ => by unfold elM; rw [if_neg (by omega)]⟩
  case round =>
    clear hrm
    obtain ⟨wq, rfl⟩ : ∃ wq : World, wq = wr := ⟨_, rfl⟩
    obtain ⟨q, hq0, hq, rfl, hrm⟩ := hrel
    by_cases hqa : q < a
    · obtain ⟨bq1, bq2⟩ := HM.out q hqa cl hcl
      have e0 : 0 ≤ M q cl * β := Int.mul_nonneg bq1 hβ0
      have e1 : M q cl * β ≤ 2147483647 * 2147483647 := Int.mul_le_mul (by omega) (by omega) hβ0 (by omega)
      have hu1 := Int.emod_nonneg (M q cl * β) (show (pp : Int) ≠ 0 by omega)
      have hu2 := Int.emod_lt_of_pos (M q cl * β) (show (0 : Int) < pp by omega)
      have m1 : IntKind.i64.wrap (M q cl * β) = M q cl * β := by rw [IntKind.wrap_i64]; omega
      have m2 : (M q cl * β).tmod (pp : Int) = M q cl * β % pp := Int.tmod_eq_emod_of_nonneg e0
      have hpp0 : ¬ ((pp : Int) = 0) := by omega
      have m3 : IntKind.i64.wrap (M q cl * β % pp) = M q cl * β % pp := by rw [IntKind.wrap_i64]; omega
      clear e0 e1
      have cq : wq.cell? ⟨gv, q, none⟩ = some (.slice (some ⟨g q, 0, none⟩) n (c q)) := hrm.row hqa
      have dq : wq.cell? ⟨g q, cl, none⟩ = some (.int .i64 (M q cl)) := by
        rw [hrm.cell hqa hcl]; simp [elM]
      have hcli : (cl : Int) < (n : Int) := by omega
      have hqi : (q : Int) < (a : Int) := by omega
      go_wp2
      clear cq dq m1 m2 m3
      have hrq : r ≠ q := by omega
      have hbd : ∀ x, x < a → ∀ j, j < n → 0 ≤ elM M r cl β pp q x j ∧ elM M r cl β pp q x j < pp := fun x hx j hj => elM_bd hpp (HM.out x hx j hj)
      refine rkL (b := b) (n := n) (a := a) (r := r) (q := q) (gv := gv) (cv := cv) (pp := pp) (g := g) (c := c) (N := fun j => (elM M r cl β pp q q j - M q cl * β % pp * elM M r cl β pp q r j % pp) % pp) (M := elM M r cl β pp q) (t := M q cl * β % pp)
        hqa hr hrq hpp hpp2 hu1 hu2 hbd (fun _ _ => rfl) (hrm.congr fun x _ j _ => (mixN_zero _ _ _ _ _).symm) ha hn ?_
      intro x17 x113 x114 x115 x116 x117 x118 x119 x120 x121 x122 x123 x124 x125 x126 x127 x128 x129 x130 x131 x132 x133 x134 x135 x136 x137 x138 x139 x140 x141 x142 x143 x144 w8 hrm8
      have hrm9 := hrm8.congr (M' := elM M r cl β pp (q + 1)) fun x hx j hj => by
        unfold mixN elM
        by_cases e : x = q
        · subst e
          rw [if_pos ⟨rfl, hj⟩]
          simp only [Nat.lt_irrefl, and_false, false_and, if_false]
          rw [if_pos (by omega)]
        · rw [if_neg (by omega)]
          by_cases e2 : r < x ∧ x < q
          · rw [if_pos e2, if_pos (by omega)]
          · rw [if_neg e2, if_neg (by omega)]
      go_wp2
      go_roundw
      case rel => exact ⟨q + 1, by omega, by omega, by go_num, hrm9⟩
      case measure => simp [intOf]; omega
    · obtain rfl : q = a := by omega
      have hx := Hexit.out
      go_wp2
      exact hrm
end Go.Proofs.Ytbclbcldplmppaa

/- The rank of a list of rows, over the whole numbers and modulo three primes. Plain Lean. -/
namespace Go.Proofs.Ytbclbcldplmppaa

structure RankIs (A : List (Nat → Int)) (n k : Nat) : Prop where
  ex : ∃ V R, (∀ v ∈ V, v ∈ A) ∧ V.length = k ∧ R.length = k ∧ (∀ r ∈ R, r < n) ∧ D V R ≠ 0
  no : ∀ V R, (∀ v ∈ V, v ∈ A) → k < V.length → (∀ r ∈ R, r < n) → D V R = 0

theorem RankIs.unique {A : List (Nat → Int)} {n k l : Nat} (h : RankIs A n k) (h' : RankIs A n l) : k = l := by
  rcases Nat.lt_trichotomy k l with hl | hl | hl
  · obtain ⟨V, R, h1, h2, _, h4, h5⟩ := h'.ex
    exact absurd (h.no V R h1 (by omega) h4) h5
  · exact hl
  · obtain ⟨V, R, h1, h2, _, h4, h5⟩ := h.ex
    exact absurd (h'.no V R h1 (by omega) h4) h5

/-- A family of vectors, and what it spans modulo m, at the first n indices. -/
def InSpan (m : Int) (n cnt : Nat) (Y : Nat → Nat → Int) (v : Nat → Int) : Prop := ∃ c : Nat → Int, ∀ j, j < n → m ∣ v j - S (List.range cnt) fun k => c k * Y k j

section
variable {m : Int} {n cnt : Nat} {Y : Nat → Nat → Int}
theorem S_single {l : List Nat} (hn : l.Nodup) {x : Nat} (hx : x ∈ l) (f : Nat → Int) : (S l fun k => if k = x then f k else 0) = f x := by
  induction l with
  | nil => cases hx
  | cons y l ih =>
    rw [List.nodup_cons] at hn
    rw [S_cons]
    by_cases h : y = x
    · subst h
      rw [if_pos rfl, S_zero fun z hz => if_neg (fun (e : z = y) => hn.1 (e ▸ hz)), Int.add_zero]
    · rw [if_neg h, ih hn.2 (by rcases List.mem_cons.1 hx with e | e; exact absurd e.symm h; exact e), Int.zero_add]
theorem InSpan.mem {k : Nat} (hk : k < cnt) : InSpan m n cnt Y (Y k) := ⟨fun x => if x = k then 1 else 0, fun j _ => by
  have : (S (List.range cnt) fun x => (if x = k then 1 else 0) * Y x j) = Y k j := by
    rw [← S_single List.nodup_range (List.mem_range.2 hk) (fun x => Y x j)]
    exact S_congr fun x _ => by split <;> simp
  rw [this, Int.sub_self]; exact Int.dvd_zero _⟩
theorem InSpan.congr {v u : Nat → Int} (h : InSpan m n cnt Y v) (he : ∀ j, j < n → m ∣ u j - v j) : InSpan m n cnt Y u := by
  obtain ⟨c, hc⟩ := h
  refine ⟨c, fun j hj => ?_⟩
  have := Int.dvd_add (he j hj) (hc j hj)
  rwa [show u j - v j + (v j - S (List.range cnt) fun k => c k * Y k j) = u j - S (List.range cnt) fun k => c k * Y k j by omega] at this
theorem InSpan.comb {v u : Nat → Int} (h : InSpan m n cnt Y v) (h' : InSpan m n cnt Y u) (a b : Int) : InSpan m n cnt Y (fun j => a * v j + b * u j) := by
  obtain ⟨c, hc⟩ := h
  obtain ⟨e, he⟩ := h'
  refine ⟨fun k => a * c k + b * e k, fun j hj => ?_⟩
  have h1 : S (List.range cnt) (fun k => (a * c k + b * e k) * Y k j) = a * S (List.range cnt) (fun k => c k * Y k j) + b * S (List.range cnt) (fun k => e k * Y k j) := by
    rw [← S_mul, ← S_mul, ← S_add]
    exact S_congr fun k _ => by rw [Int.add_mul, Int.mul_assoc, Int.mul_assoc]
  rw [h1]
  have h2 := Int.dvd_add (Int.dvd_trans (hc j hj) (Int.dvd_mul_left a _)) (Int.dvd_trans (he j hj) (Int.dvd_mul_left b _))
  rw [Int.mul_sub, Int.mul_sub] at h2
  rwa [show a * v j - a * S (List.range cnt) (fun k => c k * Y k j) + (b * u j - b * S (List.range cnt) fun k => e k * Y k j) = a * v j + b * u j - (a * S (List.range cnt) (fun k => c k * Y k j) + b * S (List.range cnt) fun k => e k * Y k j) by omega] at h2
theorem InSpan.zero : InSpan m n cnt Y (fun _ => 0) := ⟨fun _ => 0, fun j _ => by rw [S_zero fun _ _ => Int.zero_mul _, Int.sub_self]; exact Int.dvd_zero _⟩
theorem InSpan.sum {α : Type} {u : α → Nat → Int} (c : α → Int) : ∀ (l : List α), (∀ x ∈ l, InSpan m n cnt Y (u x)) → InSpan m n cnt Y (fun j => S l fun x => c x * u x j)
  | [], _ => InSpan.zero
  | x :: l, h => by
    have h1 := InSpan.comb (h x (by simp)) (InSpan.sum c l fun y hy => h y (by simp [hy])) (c x) 1
    refine h1.congr fun j _ => ?_
    simp only [S_cons, Int.one_mul, Int.sub_self]
    exact Int.dvd_zero _
/-- What a family spans is spanned by whatever spans the family. -/
theorem InSpan.trans {cnt' : Nat} {Y' : Nat → Nat → Int} {v : Nat → Int} (h : InSpan m n cnt Y v) (hY : ∀ k, k < cnt → InSpan m n cnt' Y' (Y k)) : InSpan m n cnt' Y' v := by
  obtain ⟨c, hc⟩ := h
  exact (InSpan.sum (u := Y) c (List.range cnt) fun k hk => hY k (List.mem_range.1 hk)).congr hc
end

/-- A family as a list. -/
def fam (cnt : Nat) (Y : Nat → Nat → Int) : List (Nat → Int) := (List.range cnt).map Y
theorem fam_length (cnt : Nat) (Y : Nat → Nat → Int) : (fam cnt Y).length = cnt := by simp [fam]
theorem fam_get (cnt : Nat) (Y : Nat → Nat → Int) (k : Nat) (h : k < cnt) : (fam cnt Y).getD k (fun _ => 0) = Y k := by simp [fam, List.getD, h]
theorem fam_mem {cnt : Nat} {Y : Nat → Nat → Int} {v : Nat → Int} : v ∈ fam cnt Y ↔ ∃ k, k < cnt ∧ Y k = v := by simp [fam]
theorem S_fam (cnt : Nat) (Y : Nat → Nat → Int) (c : Nat → Int) (j : Nat) : (S (List.range (fam cnt Y).length) fun k => c k * (fam cnt Y).getD k (fun _ => 0) j) = S (List.range cnt) fun k => c k * Y k j := by
  rw [fam_length]
  exact S_congr fun k hk => by rw [fam_get cnt Y k (List.mem_range.1 hk)]

theorem D_span_fam {m : Int} (hm : PrimeLike m) {n cnt : Nat} {Y : Nat → Nat → Int} (X : List (Nat → Int)) (R : List Nat) (hR : ∀ r ∈ R, r < n) (hX : ∀ x ∈ X, ∃ d : Int, ¬ m ∣ d ∧ InSpan m n cnt Y (fun j => d * x j)) (hl : cnt < X.length) : m ∣ D X R := by
  refine D_span_mod hm (fam cnt Y) X R (fun x hx => ?_) (by rw [fam_length]; exact hl)
  obtain ⟨d, hd, c, hc⟩ := hX x hx
  exact ⟨d, hd, c, fun r hr => by rw [S_fam]; exact hc r (hR r hr)⟩
theorem D_combo_fam {m : Int} (hm : PrimeLike m) (h1 : ¬ m ∣ 1) {n cnt : Nat} {Y : Nat → Nat → Int} (X : List (Nat → Int)) (R : List Nat) (hR : ∀ r ∈ R, r < n) (hX : ∀ x ∈ X, InSpan m n cnt Y x)
    (h : ¬ m ∣ D X R) : ∃ V : List (Nat → Int), (∀ v ∈ V, v ∈ fam cnt Y) ∧ V.length = X.length ∧ ¬ m ∣ D V R := by
  rcases Classical.em (∃ V : List (Nat → Int), (∀ v ∈ V, v ∈ fam cnt Y) ∧ V.length = X.length ∧ ¬ m ∣ D V R) with hh | hh
  · exact hh
  · refine absurd ?_ h
    have := D_combo_mod hm (fam cnt Y) X [] R (fun x hx => ?_) (by simp) (fun V hV hl => ?_)
    · simpa using this
    · obtain ⟨c, hc⟩ := hX x hx
      exact ⟨1, h1, c, fun r hr => by rw [S_fam, Int.one_mul]; exact hc r (hR r hr)⟩
    · rcases Classical.em (m ∣ D V R) with h2 | h2
      · exact h2
      · exact absurd ⟨V, hV, by simpa using hl, h2⟩ hh

theorem zero_not_one : ¬ (0 : Int) ∣ 1 := by rw [Int.zero_dvd]; decide

/-- A basis: k vectors with a determinant that is not 0, in the rows' span, each row (times a number) in theirs. -/
theorem rank_basis {n a k : Nat} {A Y : Nat → Nat → Int} (R : List Nat) (hR : ∀ r ∈ R, r < n) (hRl : R.length = k) (hD : D (fam k Y) R ≠ 0) (hY : ∀ i, i < k → InSpan 0 n a A (Y i)) {d : Int} (hd : d ≠ 0)
    (hA : ∀ x, x < a → InSpan 0 n k Y (fun j => d * A x j)) : RankIs (fam a A) n k := by
  constructor
  · obtain ⟨V, h1, h2, h3⟩ := D_combo_fam primeLike_zero zero_not_one (n := n) (cnt := a) (Y := A) (fam k Y) R hR (fun x hx => by
      obtain ⟨i, hi, rfl⟩ := fam_mem.1 hx
      exact hY i hi) (by rw [Int.zero_dvd]; exact hD)
    rw [fam_length] at h2
    rw [Int.zero_dvd] at h3
    exact ⟨V, R, h1, h2, hRl, hR, h3⟩
  · intro V R' hV hl hR'
    have := D_span_fam primeLike_zero (n := n) (cnt := k) (Y := Y) V R' hR' (fun x hx => by
      obtain ⟨i, hi, rfl⟩ := fam_mem.1 (hV x hx)
      exact ⟨d, by rw [Int.zero_dvd]; exact hd, hA i hi⟩) hl
    rwa [Int.zero_dvd] at this

/-- A rank is at most the number of columns. -/
theorem RankIs.le {A : List (Nat → Int)} {n k : Nat} (h : RankIs A n k) : k ≤ n := by
  rcases Nat.lt_or_ge n k with hl | hl
  · obtain ⟨V, R, h1, h2, _, h4, h5⟩ := h.ex
    have := D_span_fam primeLike_zero (n := n) (cnt := n) (Y := fun i j => if j = i then 1 else 0) V R h4 (fun x _ => ⟨1, by rw [Int.zero_dvd]; decide, fun i => x i, fun j hj => by
      have e : (S (List.range n) fun k => x k * if j = k then 1 else 0) = x j := by
        rw [← S_single List.nodup_range (List.mem_range.2 hj) x]
        exact S_congr fun k _ => by
          by_cases e : k = j
          · subst e; simp
          · rw [if_neg (fun e' => e e'.symm), if_neg e, Int.mul_zero]
      show (0 : Int) ∣ 1 * x j - _
      rw [e, Int.one_mul, Int.sub_self]; exact Int.dvd_zero _⟩) (by omega)
    rw [Int.zero_dvd] at this
    exact absurd this h5
  · exact hl

/-! ### Elimination modulo p -/

/-- The state: rows M (cnt of them) that span what the rows A span; the pivots' columns; all columns up to 'done' are 0 behind the pivots. -/
structure Ech (p : Int) (n a : Nat) (A M : Nat → Nat → Int) (piv : List Nat) (done : Nat) : Prop where
  fwd : ∀ x, x < a → InSpan p n a A (M x)
  bwd : ∀ x, x < a → InSpan p n a M (A x)
  le : piv.length ≤ a
  tri : ∀ l (hl : l < piv.length), piv[l] < n ∧ ¬ p ∣ M l piv[l] ∧ ∀ x, l < x → x < a → p ∣ M x piv[l]
  zero : ∀ x, piv.length ≤ x → x < a → ∀ j, j < done → p ∣ M x j

section
variable {p : Int} {n a done : Nat} {A M M' : Nat → Nat → Int} {piv : List Nat}
theorem Ech.init (h : ∀ x, x < a → ∀ j, j < n → p ∣ M x j - A x j) : Ech p n a A M [] 0 :=
  ⟨fun x hx => (InSpan.mem hx).congr (h x hx), fun x hx => (InSpan.mem hx).congr fun j hj => by have := h x hx j hj; rw [← Int.dvd_neg] at this; rwa [Int.neg_sub] at this, by simp, fun l hl => by simp at hl, fun x _ _ j hj => by omega⟩
theorem Ech.skip (h : Ech p n a A M piv done) (h0 : ∀ x, piv.length ≤ x → x < a → p ∣ M x done) : Ech p n a A M piv (done + 1) :=
  ⟨h.fwd, h.bwd, h.le, h.tri, fun x h1 h2 j hj => by
    by_cases e : j = done
    · subst e; exact h0 x h1 h2
    · exact h.zero x h1 h2 j (by omega)⟩
/-- Rows behind the pivots exchanged. -/
theorem Ech.swap (h : Ech p n a A M piv done) {r s : Nat} (hr : piv.length ≤ r) (hr2 : r < a) (hs : piv.length ≤ s) (hs2 : s < a) (h1 : M' r = M s) (h2 : M' s = M r) (h3 : ∀ x, x ≠ r → x ≠ s → M' x = M x) : Ech p n a A M' piv done := by
  have key : ∀ x, x < a → ∃ y, y < a ∧ M' x = M y ∧ (piv.length ≤ x → piv.length ≤ y) ∧ (x < piv.length → y = x) := fun x hx => by
    by_cases e1 : x = r
    · exact ⟨s, hs2, by rw [e1]; exact h1, fun _ => hs, fun h => by omega⟩
    · by_cases e2 : x = s
      · exact ⟨r, hr2, by rw [e2]; exact h2, fun _ => hr, fun h => by omega⟩
      · exact ⟨x, hx, h3 x e1 e2, fun h => h, fun _ => rfl⟩
  have yek : ∀ y, y < a → ∃ x, x < a ∧ M y = M' x := fun y hy => by
    by_cases e1 : y = r
    · exact ⟨s, hs2, by rw [e1]; exact h2.symm⟩
    · by_cases e2 : y = s
      · exact ⟨r, hr2, by rw [e2]; exact h1.symm⟩
      · exact ⟨y, hy, (h3 y e1 e2).symm⟩
  refine ⟨fun x hx => ?_, fun x hx => (h.bwd x hx).trans fun y hy => ?_, h.le, fun l hl => ?_, fun x hx1 hx2 j hj => ?_⟩
  · obtain ⟨y, hy, e, _⟩ := key x hx
    rw [e]; exact h.fwd y hy
  · obtain ⟨x', hx', e⟩ := yek y hy
    rw [e]; exact InSpan.mem hx'
  · obtain ⟨t1, t2, t3⟩ := h.tri l hl
    have hl' : M' l = M l := h3 l (by omega) (by omega)
    refine ⟨t1, by rw [hl']; exact t2, fun x hx1 hx2 => ?_⟩
    obtain ⟨y, hy, e, hge, hlt⟩ := key x hx2
    rw [e]
    refine t3 y ?_ hy
    by_cases hxl : x < piv.length
    · rw [hlt hxl]; exact hx1
    · have := hge (by omega); omega
  · obtain ⟨y, hy, e, hge, _⟩ := key x hx2
    rw [e]; exact h.zero y (hge hx1) hy j hj
/-- A pivot in the row behind the pivots: the rows behind it lose their entries in its column. -/
theorem Ech.pivot (h : Ech p n a A M piv done) (hr : piv.length < a) (hd : done < n) (hp : ¬ p ∣ M piv.length done) (h1 : ∀ x, x ≤ piv.length → M' x = M x)
    (h2 : ∀ x, piv.length < x → x < a → (∃ t : Int, ∀ j, j < n → p ∣ M' x j - (M x j - t * M piv.length j)) ∧ p ∣ M' x done) : Ech p n a A M' (piv ++ [done]) (done + 1) := by
  have e0 : M' piv.length = M piv.length := h1 _ (Nat.le_refl _)
  refine ⟨fun x hx => ?_, fun x hx => (h.bwd x hx).trans fun y hy => ?_, by simp; omega, fun l hl => ?_, fun x hx1 hx2 j hj => ?_⟩
  · by_cases hx' : x ≤ piv.length
    · rw [h1 x hx']; exact h.fwd x hx
    · obtain ⟨⟨t, ht⟩, _⟩ := h2 x (by omega) hx
      refine ((h.fwd x hx).comb (h.fwd piv.length hr) 1 (-t)).congr fun j hj => ?_
      have := ht j hj
      rwa [show (1 : Int) * M x j + -t * M piv.length j = M x j - t * M piv.length j by rw [Int.one_mul, Int.neg_mul]; omega]
  · by_cases hy' : y ≤ piv.length
    · rw [← h1 y hy']; exact InSpan.mem hy
    · obtain ⟨⟨t, ht⟩, _⟩ := h2 y (by omega) hy
      refine ((InSpan.mem (Y := M') hy).comb (InSpan.mem (Y := M') hr) 1 t).congr fun j hj => ?_
      have := ht j hj
      rw [← Int.dvd_neg] at this
      rwa [e0, show -(M' y j - (M y j - t * M piv.length j)) = M y j - (1 * M' y j + t * M piv.length j) by rw [Int.one_mul]; omega] at *
  · by_cases hl' : l < piv.length
    · obtain ⟨t1, t2, t3⟩ := h.tri l hl'
      rw [List.getElem_append_left hl']
      refine ⟨t1, by rw [h1 l (by omega)]; exact t2, fun x hx1 hx2 => ?_⟩
      by_cases hx' : x ≤ piv.length
      · rw [h1 x hx']; exact t3 x hx1 hx2
      · obtain ⟨⟨t, ht⟩, _⟩ := h2 x (by omega) hx2
        have d1 := ht _ t1
        have d2 := t3 x hx1 hx2
        have d3 := Int.dvd_trans (t3 piv.length hl' hr) (Int.dvd_mul_left t _)
        have := Int.dvd_add d1 (Int.dvd_sub d2 d3)
        rwa [Int.sub_add_cancel] at this
    · have hl2 : l = piv.length := by simp at hl; omega
      subst hl2
      simp only [List.getElem_concat_length]
      exact ⟨hd, by rw [e0]; exact hp, fun x hx1 hx2 => (h2 x hx1 hx2).2⟩
  · simp only [List.length_append, List.length_singleton] at hx1
    by_cases e : j = done
    · subst e; exact (h2 x (by omega) hx2).2
    · obtain ⟨⟨t, ht⟩, _⟩ := h2 x (by omega) hx2
      by_cases hjn : j < n
      · have d1 := ht j hjn
        have d2 := h.zero x (by omega) hx2 j (by omega)
        have d3 := Int.dvd_trans (h.zero piv.length (Nat.le_refl _) hr j (by omega)) (Int.dvd_mul_left t _)
        have := Int.dvd_add d1 (Int.dvd_sub d2 d3)
        rwa [Int.sub_add_cancel] at this
      · omega

/-- The triangle's determinant is not 0. -/
theorem tri_ne (hm : PrimeLike p) (h1 : ¬ p ∣ 1) : ∀ (l : List Nat) (k : Nat) (M : Nat → Nat → Int), (∀ i (hi : i < l.length), ¬ p ∣ M (k + i) l[i] ∧ ∀ x, i < x → x < l.length → p ∣ M (k + x) l[i]) →
    ¬ p ∣ D ((List.range l.length).map fun i => M (k + i)) l
  | [], _, _, _ => by simpa [D] using h1
  | c :: l, k, M, h => by
    -- make the column exactly 0 below
    have hz : p ∣ D ((List.range (c :: l).length).map fun i => M (k + i)) (c :: l) - D ((List.range (c :: l).length).map fun i => fun j => if 0 < i ∧ j = c then 0 else M (k + i) j) (c :: l) := by
      refine D_dvd _ _ _ (by simp) fun i h1 h2 r hr => ?_
      simp only [List.getElem_map, List.getElem_range]
      by_cases e : 0 < i ∧ r = c
      · rw [if_pos e, Int.sub_zero, e.2]
        exact (h 0 (by simp)).2 i e.1 (by simpa using h1)
      · rw [if_neg e, Int.sub_self]; exact Int.dvd_zero _
    have hsplit : (List.range (c :: l).length).map (fun i => fun j => if 0 < i ∧ j = c then 0 else M (k + i) j) = (fun j => M k j) :: (List.range l.length).map (fun i => fun j => if j = c then 0 else M (k + 1 + i) j) := by
      rw [List.length_cons, List.range_succ_eq_map, List.map_cons, List.map_map]
      congr 1
      refine List.map_congr_left fun i _ => ?_
      funext j
      simp [show k + (i + 1) = k + 1 + i by omega]
    rw [hsplit, D_tri _ _ c l (by simp) (fun u hu => by
      obtain ⟨i, _, rfl⟩ := List.mem_map.1 hu
      simp)] at hz
    have ih := tri_ne hm h1 l (k + 1) (fun x j => if j = c then 0 else M x j)
    -- on the rest: either its columns differ from c, or ..
    intro hdvd
    have h2 : p ∣ M k c * D ((List.range l.length).map fun i => fun j => if j = c then 0 else M (k + 1 + i) j) l := by
      have := Int.dvd_sub hdvd hz
      rwa [show ∀ x y : Int, x - (x - y) = y from fun x y => by omega] at this
    rcases hm _ _ h2 with h3 | h3
    · exact (h 0 (by simp)).1 (by simpa using h3)
    · refine ih (fun i hi => ⟨?_, fun x hx1 hx2 => ?_⟩) h3
      · have := (h (i + 1) (by simpa using hi))
        have hne : l[i] ≠ c := fun e => this.1 (by
          have := (h 0 (by simp)).2 (i + 1) (by omega) (by simpa using hi)
          simpa [e] using this)
        rw [if_neg hne]
        have := this.1
        simpa [show k + (i + 1) = k + 1 + i by omega] using this
      · split
        · exact Int.dvd_zero _
        · have := (h (i + 1) (by simpa using hi)).2 (x + 1) (by omega) (by simpa using hx2)
          simpa [show k + (x + 1) = k + 1 + x by omega] using this

theorem Ech.rank_le (h : Ech p n a A M piv done) (hm : PrimeLike p) (h1 : ¬ p ∣ 1) {k : Nat} (hk : RankIs (fam a A) n k) : piv.length ≤ k := by
  rcases Nat.lt_or_ge k piv.length with hl | hl
  · have hne := tri_ne hm h1 piv 0 M (fun i hi => by
      obtain ⟨t1, t2, t3⟩ := h.tri i hi
      have := h.le
      exact ⟨by simpa using t2, fun x hx1 hx2 => by simpa using t3 x hx1 (by omega)⟩)
    have hR : ∀ r ∈ piv, r < n := fun r hr => by
      obtain ⟨i, hi, rfl⟩ := List.getElem_of_mem hr
      exact (h.tri i hi).1
    obtain ⟨V, v1, v2, v3⟩ := D_combo_fam hm h1 (n := n) (cnt := a) (Y := A) _ piv hR (fun x hx => by
      obtain ⟨i, hi, rfl⟩ := List.mem_map.1 hx
      have := h.le
      exact h.fwd (0 + i) (by simp at hi; omega)) hne
    rw [hk.no V piv v1 (by rw [v2]; simp; exact hl) hR] at v3
    exact absurd (Int.dvd_zero p) v3
  · exact hl
theorem Ech.rank_ge (h : Ech p n a A M piv n) (hm : PrimeLike p) (h1 : ¬ p ∣ 1) {V : List (Nat → Int)} {R : List Nat} (hV : ∀ v ∈ V, v ∈ fam a A) (hR : ∀ r ∈ R, r < n) (hne : ¬ p ∣ D V R) : V.length ≤ piv.length := by
  rcases Nat.lt_or_ge piv.length V.length with hl | hl
  · refine absurd ?_ hne
    refine D_span_fam hm (n := n) (cnt := piv.length) (Y := M) V R hR (fun x hx => ?_) hl
    obtain ⟨i, hi, rfl⟩ := fam_mem.1 (hV x hx)
    refine ⟨1, h1, ?_⟩
    have h2 : InSpan p n piv.length M (A i) := (h.bwd i hi).trans fun y hy => by
      by_cases hy' : y < piv.length
      · exact InSpan.mem hy'
      · exact InSpan.zero.congr fun j hj => by rw [Int.sub_zero]; exact h.zero y (by omega) hy j hj
    exact h2.congr fun j _ => by rw [Int.one_mul, Int.sub_self]; exact Int.dvd_zero _
  · exact hl
end

/-- Three primes are enough for determinants of at most 8 rows with entries up to 48. -/
theorem three {V : List (Nat → Int)} {R : List Nat} (hl : V.length = R.length) (h8 : V.length ≤ 8) (hb : ∀ v ∈ V, ∀ r ∈ R, (v r).natAbs ≤ 48) (hne : D V R ≠ 0) : ¬ (p1 : Int) ∣ D V R ∨ ¬ (p2 : Int) ∣ D V R ∨ ¬ (p3 : Int) ∣ D V R := by
  rcases Classical.em (¬ (p1 : Int) ∣ D V R ∨ ¬ (p2 : Int) ∣ D V R ∨ ¬ (p3 : Int) ∣ D V R) with h | h
  · exact h
  · exfalso
    have h1 : p1 ∣ (D V R).natAbs := Int.ofNat_dvd_left.1 (Classical.byContradiction fun hh => h (.inl hh))
    have h2 : p2 ∣ (D V R).natAbs := Int.ofNat_dvd_left.1 (Classical.byContradiction fun hh => h (.inr (.inl hh)))
    have h3 : p3 ∣ (D V R).natAbs := Int.ofNat_dvd_left.1 (Classical.byContradiction fun hh => h (.inr (.inr hh)))
    have c12 : Nat.Coprime p1 p2 := by decide +kernel
    have c123 : Nat.Coprime (p1 * p2) p3 := by decide +kernel
    have h4 := c123.mul_dvd_of_dvd_of_dvd (c12.mul_dvd_of_dvd_of_dvd h1 h2) h3
    have h5 := Nat.le_of_dvd (Nat.pos_of_ne_zero (by simpa using hne)) h4
    have h6 := (D_bound V R).resolve_right (by simpa using hl)
    have h7 : P' R (fun r => S V fun v => ((v r).natAbs : Int)) ≤ (384 : Int) ^ R.length := P_const fun r hr => ⟨S_abs_nonneg V r, by
      have : ∀ W : List (Nat → Int), (∀ v ∈ W, v ∈ V) → (S W fun v => ((v r).natAbs : Int)) ≤ 48 * (W.length : Int) := fun W hW => by
        induction W with
        | nil => simp
        | cons v W ih =>
          have := hb v (hW v (by simp)) r hr
          have := ih fun u hu => hW u (by simp [hu])
          simp only [S_cons, List.length_cons]
          omega
      have := this V fun v hv => hv
      omega⟩
    have h8' : (384 : Int) ^ R.length ≤ 384 ^ 8 := by
      have : R.length ≤ 8 := by omega
      have hn : 384 ^ R.length ≤ 384 ^ 8 := Nat.pow_le_pow_right (by decide) this
      have hc : ∀ k : Nat, ((384 ^ k : Nat) : Int) = (384 : Int) ^ k := fun k => Int.natCast_pow 384 k
      rw [← hc, ← hc]
      exact Int.ofNat_le.2 hn
    have h9 : ((D V R).natAbs : Int) ≤ 384 ^ 8 := Int.le_trans h6 (Int.le_trans h7 h8')
    have h10 : (p1 * p2 * p3 : Nat) > 384 ^ 8 := by decide +kernel
    have h11 : ((p1 * p2 * p3 : Nat) : Int) ≤ 384 ^ 8 := Int.le_trans (Int.ofNat_le.2 h5) h9
    have hc : ((384 ^ 8 : Nat) : Int) = (384 : Int) ^ 8 := Int.natCast_pow 384 8
    rw [← hc] at h11
    exact absurd (Int.ofNat_le.1 h11) (Nat.not_le.2 h10)
end Go.Proofs.Ytbclbcldplmppaa

/- rankOf: what its elimination keeps; lines to be read. -/
namespace Go.Proofs.Ytbclbcldplmppaa
open Go.RowKit

theorem clear_eq {pp y β m : Int} (h : β * y % pp = 1) : m * β % pp * y % pp = m % pp := by
  rw [Int.mul_emod, Int.emod_emod, ← Int.mul_emod, Int.mul_assoc, Int.mul_emod, h, Int.mul_one, Int.emod_emod]
theorem dvd_sub_emod (a p : Int) : p ∣ a - a % p := ⟨a / p, by have := Int.emod_add_mul_ediv a p; omega⟩
theorem dvd_emod_sub (a p : Int) : p ∣ a % p - a := by
  have := dvd_sub_emod a p
  rw [← Int.dvd_neg] at this
  rwa [Int.neg_sub] at this
theorem dvd_emod_of {a p : Int} (h : p ∣ a) : p ∣ a % p := by rw [Int.emod_eq_zero_of_dvd h]; exact Int.dvd_zero _

/-- A column cleared: the elimination goes on. -/
theorem Ech.cleared {pp n a cl : Nat} {A M : Nat → Nat → Int} {piv : List Nat} {k : Nat} {β : Int} (h : Ech (pp : Int) n a A M piv cl) (hk0 : piv.length ≤ k) (hk : k < a) (hcl : cl < n) (hne : ¬ (pp : Int) ∣ M k cl) (hβ : M k cl * β % pp = 1) :
    Ech (pp : Int) n a A (elM (swapM M piv.length k) piv.length cl β pp a) (piv ++ [cl]) (cl + 1) := by
  have hr : piv.length < a := by omega
  have h1 := h.swap (M' := swapM M piv.length k) (r := piv.length) (s := k) (Nat.le_refl _) hr hk0 hk (by unfold swapM; rw [if_pos rfl]) (by
    unfold swapM
    by_cases e : k = piv.length
    · rw [if_pos e, e]
    · rw [if_neg e, if_pos rfl]) (fun x h1 h2 => by unfold swapM; rw [if_neg h1, if_neg h2])
  have e0 : swapM M piv.length k piv.length = M k := by unfold swapM; rw [if_pos rfl]
  generalize swapM M piv.length k = M1 at *
  rw [← e0] at hne hβ
  refine h1.pivot hr hcl hne (fun x hx => ?_) (fun x hx1 hx2 => ⟨⟨M1 x cl * β % pp, fun j hj => ?_⟩, ?_⟩)
  · funext j; unfold elM; rw [if_neg (by omega)]
  · unfold elM
    rw [if_pos ⟨hx1, hx2⟩]
    have d1 := dvd_emod_sub (M1 x j - M1 x cl * β % pp * M1 piv.length j % pp) pp
    have d2 := dvd_sub_emod (M1 x cl * β % pp * M1 piv.length j) pp
    have := Int.dvd_add d1 d2
    refine (show ∀ u v : Int, (pp : Int) ∣ u → u = v → (pp : Int) ∣ v from fun u v h e => e ▸ h) _ _ this ?_
    omega
  · unfold elM
    rw [if_pos ⟨hx1, hx2⟩]
    refine dvd_emod_of ?_
    rw [clear_eq (by rw [Int.mul_comm]; exact hβ)]
    exact dvd_sub_emod _ _

/-- Lines to be read. -/
def LRow (w : World) (A : Option Addr) (n a : Nat) (L : Nat → Nat → Int) : Prop := ∀ k, k < a → ∃ ad B c, A = some ad ∧ (∀ w', Ext w w' → w'.cell? (ad.add k) = some (.slice B n c)) ∧
  ∀ j, j < n → ∃ bd, B = some bd ∧ ∀ w', Ext w w' → w'.cell? (bd.add j) = some (.int .i64 (L k j))
theorem LRow.ext {w w' : World} {A : Option Addr} {n a : Nat} {L : Nat → Nat → Int} (h : LRow w A n a L) (he : Ext w w') : LRow w' A n a L := fun k hk => by
  obtain ⟨ad, B, c, h1, h2, h3⟩ := h k hk
  exact ⟨ad, B, c, h1, fun w2 h => h2 w2 (he.trans h), fun j hj => let ⟨bd, e1, e2⟩ := h3 j hj; ⟨bd, e1, fun w2 h => e2 w2 (he.trans h)⟩⟩

theorem natOf {x : Int} {p : Nat} (h : 0 ≤ x ∧ x < p) : ∃ y : Nat, x = y ∧ y < p := ⟨x.toNat, by omega, by omega⟩
theorem pinv_ok {y pp : Nat} (hp : IsPrime pp) (h2 : 2 < pp) (hy : y < pp) (hne : ((y : Int)) ≠ 0) : ¬ (pp : Int) ∣ (y : Int) ∧ (y : Int) * (pinv y pp : Int) % (pp : Int) = 1 := by
  have hd : ¬ pp ∣ y := fun h => by have := Nat.le_of_dvd (by omega) h; omega
  refine ⟨fun h => hd (Int.ofNat_dvd.1 h), ?_⟩
  have := pinv_mul hp h2 hd
  rw [← Int.natCast_mul, ← Int.natCast_emod, this]
  rfl
end Go.Proofs.Ytbclbcldplmppaa

/- rankOf: the walk. -/
namespace Go.Proofs.Ytbclbcldplmppaa
open Go.RowKit

def RankRes (w : World) (pp n a : Nat) (L : Nat → Nat → Int) (e : Ending) (w' : World) : Prop := ∃ piv M, e = .returned (.int .i64 (List.length piv : Int)) ∧ Ext w w' ∧ Ech (pp : Int) n a L M piv n

set_option maxRecDepth 100000 in
set_option maxHeartbeats 8000000 in
theorem rankOf_any (A : Option Addr) (cp n a pp : Nat) (L : Nat → Nat → Int) (w : World) (hA : LRow w A n a L) (hn0 : 0 < n) (hn : n ≤ 1000) (ha : a ≤ 1000) (hP : IsPrime pp) (hpp : 2 < pp) (hpp2 : pp ≤ 2147483647) :
    Calls Try.prog 97 #[.slice A a cp, .int .i64 n, .int .i64 pp] w (RankRes w pp n a L) := by
  have HA := Lib.hid hA
  have HP := Lib.hid hP
  clear hA hP
  go_enter Try.func97, Try.ntmps97
  go_wp2
  go_loopw [8, 7] (fun i v wr => ∃ k : Nat, k ≤ a ∧ i = .int .i64 k ∧ ∃ g c, RM w wr v n k g c (fun x j => L x j % pp)) (fun i _ _ => a - (intOf i).toNat)
  case atStart => exact ⟨0, by omega, rfl, fun _ => 0, fun _ => 0, RM.start (by simp) _ _ _ _⟩
  case round =>
    obtain ⟨wo, rfl⟩ : ∃ wo : World, wo = wr := ⟨_, rfl⟩
    obtain ⟨k, hk, rfl, g, c, hrm⟩ := hrel
    by_cases hlt : k < a
    · obtain ⟨ad, B, cB, rfl, q0, q1⟩ := HA.out k hlt
      have Q1 := Lib.hid q1
      clear q1
      have q0 : ∀ w', Ext wo w' → _ := fun w' he => q0 w' (hrm.ext.trans he)
      have Q0 := Lib.hid q0
      clear q0
      have hka : (k : Int) < (a : Int) := by omega
      go_wp2
      go_loopw [10, 9] (fun i v wr => ∃ j : Nat, j ≤ n ∧ i = .int .i64 j ∧ Own wo wr 3 1 v j ((rowI (fun j => L k j % pp) j).map vint)) (fun i _ _ => n - (intOf i).toNat)
      case atStart => exact ⟨0, by omega, rfl, Own.nil' (by simp) _ _⟩
      case round =>
        obtain ⟨j, hj, rfl, hown⟩ := hrel
        obtain ⟨Av, cv, hv⟩ := hown.form
        subst hv
        by_cases hjn : j < n
        · obtain ⟨bd, rfl, q1⟩ := Q1.out j hjn
          have q1 := q1 wr (hrm.ext.trans hown.ext)
          have q0 := Q0.out wr hown.ext
          have hr := fun w' => rest_any (L k j) pp w' (by omega) (by omega)
          have Hr := Lib.hid hr
          clear hr
          have hjni : (j : Int) < (n : Int) := by omega
          go_wp2_with (first
            | (go_at_call 110; refine (Hr.out _).mono ?_; rintro e w1 ⟨rfl, rfl⟩)
            | (refine own_append_int rfl _ _ rfl _ j ((rowI (fun j => L k j % pp) j).map vint) rfl hown _ rfl (by omega) ?_; intro v' w' ho))
          go_roundw
          case rel =>
            refine ⟨j + 1, by omega, by go_num, ?_⟩
            rw [rowI_succ, List.map_append]
            exact ho
          case measure => simp [intOf]; omega
        · obtain rfl : j = n := by omega
          obtain ⟨g0, c0, hv, hg0, _⟩ := hown.at_ hn0
          injection hv with hv1 _ hv2
          subst hv1 hv2
          have hrow := row_alloc wr #[.slice (some ⟨g0, 0, none⟩) j cv] 22
          obtain ⟨Al, cl, hv⟩ := hrm.own.form
          subst hv
          have hl1 := (hrm.own.later hown.ext).alloc (.cells #[.slice (some ⟨g0, 0, none⟩) j cv] 22)
          go_wp2_with (first
            | (refine own_append_at (w1 := w) slice_elem rfl _ _ 106 rfl Try.underlying106 _ k (rsls g c j k) rfl hl1 _ 1 1 _ rfl rfl hrow (by intro u hu; simp at hu; subst hu; rfl) (by omega) (by unfold maxLen; omega) ?_; intro v' w' ho hgr _))
          go_roundw
          case rel => exact ⟨k + 1, by omega, by go_num, _, _, hrm.append hown (by simp) ho hgr (fun _ _ => rfl)⟩
          case measure => simp [intOf]; omega
    · obtain rfl : a = k := by omega
      clear HA hlt hk
      go_wp2
      go_loopw [12, 11] (fun cl rk wr => ∃ t : Nat, t ≤ n ∧ cl = .int .i64 t ∧ ∃ g c M piv, rk = .int .i64 (List.length piv : Int) ∧ RM w wr u7 n a g c M ∧ Ech (pp : Int) n a L M piv t ∧ ∀ x, x < a → ∀ j, j < n → 0 ≤ M x j ∧ M x j < pp) (fun cl _ _ => n - (intOf cl).toNat)
      case atStart => exact ⟨0, by omega, rfl, g, c, _, [], rfl, hrm, Ech.init fun x hx j hj => dvd_emod_sub _ _, fun x hx j hj => ⟨Int.emod_nonneg _ (by omega), Int.emod_lt_of_pos _ (by omega)⟩⟩
      case round =>
        clear hrm
        clear wo g c
        obtain ⟨wo, rfl⟩ : ∃ wo : World, wo = wr := ⟨_, rfl⟩
        obtain ⟨t, ht, rfl, g, c, M, piv, rfl, hrm, hech, hbd⟩ := hrel
        obtain ⟨Av, cv, hv⟩ := hrm.own.form
        subst hv
        by_cases htn : t < n
        · have hple := hech.le
          obtain ⟨r, hr⟩ : ∃ r, r = piv.length := ⟨_, rfl⟩
          rw [← hr] at hple ⊢
          have Hr := Lib.hid hr
          have Hech := Lib.hid hech
          have Hbd := Lib.hid hbd
          clear hr hech hbd
          have htni : (t : Int) < (n : Int) := by omega
          go_wp2
          go_loop [13] (fun i => ∃ k : Nat, r ≤ k ∧ k ≤ a ∧ i = .int .i64 k ∧ ∀ j, r ≤ j → j < k → M j t = 0) (fun i => a - (intOf i).toNat)
          case atStart => exact ⟨r, by omega, hple, rfl, fun j h1 h2 => by omega⟩
          case round =>
            obtain ⟨k, hk1, hk2, rfl, hz⟩ := hrel
            have Hz := Lib.hid hz
            clear hz
            by_cases hka : k < a
            · obtain ⟨gv, cv', hv, hgv⟩ := hrm.own.at_ (by omega)
              simp only [Value.slice.injEq, true_and] at hv
              obtain ⟨rfl, rfl⟩ := hv
              have ck : wo.cell? ⟨gv, k, none⟩ = some (.slice (some ⟨g k, 0, none⟩) n (c k)) := hrm.row hka
              have dk : wo.cell? ⟨g k, t, none⟩ = some (.int .i64 (M k t)) := hrm.cell hka htn
              have hki : (k : Int) < (a : Int) := by omega
              by_cases hp : M k t = 0
              · rw [hp] at dk
                have Hp := Lib.hid hp
                clear hp
                go_wp2
                go_round
                case rel => exact ⟨k + 1, by omega, by omega, by go_num, fun j h1 h2 => by
                  by_cases e : j = k
                  · subst e; exact Hp.out
                  · exact Hz.out j h1 (by omega)⟩
                case measure => simp [intOf]; omega
              · obtain ⟨y, hy, hyp⟩ := natOf (Hbd.out k hka t htn)
                rw [hy] at hp dk
                obtain ⟨hnd, hinv⟩ := pinv_ok HP.out hpp hyp hp
                have hpb : ((y : Int) == 0) = false := by simpa using hp
                have hkne : ((k : Int) == (a : Int)) = false := by simp; omega
                have hra : r < a := by omega
                have hri : (r : Int) < (a : Int) := by omega
                have cr : wo.cell? ⟨gv, r, none⟩ = some (.slice (some ⟨g r, 0, none⟩) n (c r)) := hrm.row hra
                have hfz : ∀ j, wo.frozen? ⟨gv, j, none⟩ = false := fun j => hrm.own.free j
                have Hy := Lib.hid hy
                have Hnd := Lib.hid hnd
                have Hinv := Lib.hid hinv
                clear hy hnd hinv
                obtain ⟨z1, s1⟩ : ∃ z, (wo.setCell ⟨gv, r, none⟩ (.slice (some ⟨g k, 0, none⟩) n (c k))).cell? ⟨gv, k, none⟩ = some z := by
                  by_cases e : r = k
                  · subst e; exact ⟨_, World.cell?_setCell_same _ _ _ cr⟩
                  · exact ⟨_, by rw [World.cell?_setCell_other _ _ _ _ (by simp)]; exact ck⟩
                go_wp2
                go_region
                have hrmS := (hrm.swap hra hka).later (Ext.refl _).drew
                unfold rsl at hrmS
                generalize ((wo.setCell ⟨gv, r, none⟩ (.slice (some ⟨g k, 0, none⟩) n (c k))).setCell ⟨gv, k, none⟩ (.slice (some ⟨g r, 0, none⟩) n (c r))).drew = ws at hrmS ⊢
                clear s1 z1 ck dk cr hfz hpb hkne hki hrm
                generalize swapF g r k = g' at hrmS
                generalize swapF c r k = c' at hrmS
                have e0 : swapM M r k r = M k := by unfold swapM; rw [if_pos rfl]
                have hbd1 : ∀ x, x < a → ∀ j, j < n → 0 ≤ swapM M r k x j ∧ swapM M r k x j < pp := fun x hx j hj => by
                  unfold swapM
                  split
                  · exact Hbd.out k hka j hj
                  · split
                    · exact Hbd.out r hra j hj
                    · exact Hbd.out x hx j hj
                have cr : ws.cell? ⟨gv, r, none⟩ = some (.slice (some ⟨g' r, 0, none⟩) n (c' r)) := hrmS.row hra
                have dr : ws.cell? ⟨g' r, t, none⟩ = some (.int .i64 (y : Int)) := by
                  have := hrmS.cell hra htn
                  rw [e0, Hy.out] at this; exact this
                have Hbd1 := Lib.hid hbd1
                have E0 := Lib.hid e0
                clear hbd1 e0
                have hiv := fun (w' : World) => inverse_any y pp w' hyp hpp hpp2
                have Hiv := Lib.hid hiv
                clear hiv
                go_wp2_with (go_at_call 111; refine (Hiv.out _).mono ?_; rintro e w1 ⟨rfl, rfl⟩)
                clear cr dr
                refine rkR (b := w) (n := n) (a := a) (r := r) (cl := t) (gv := gv) (cv := cv) (pp := pp) (g := g') (c := c') (M := swapM M r k) (β := (pinv y pp : Int))
                  hra htn hpp hpp2 (by omega) (by have := pinv_lt (a := y) hpp; omega) Hbd1.out hrmS (by omega) (by omega) ?_
                intro x15 x16 x17 x96 x97 x98 x99 x100 x101 x102 x103 x104 x105 x106 x107 x108 x109 x110 x111 x112 x113 x114 x115 x116 x117 x118 x119 x120 x121 x122 x123 x124 x125 x126 x127 x128 x129 x130 x131 x132 x133 x134 x135 x136 x137 x138 x139 x140 x141 x142 x143 x144 wz hrmz
                go_wp2
                go_roundw
                case rel =>
                  have hech := Hech.out.cleared (k := k) (β := (pinv y pp : Int)) (by rw [← Hr.out]; exact hk1) hka htn (by rw [Hy.out]; exact Hnd.out) (by rw [Hy.out]; exact Hinv.out)
                  rw [← Hr.out] at hech
                  exact ⟨t + 1, by omega, by go_num, _, _, _, _, by rw [List.length_append, ← Hr.out]; rfl, hrmz, hech, fun x hx j hj => elM_bd hpp (Hbd1.out x hx j hj)⟩
                case measure => simp [intOf]; omega
            · obtain rfl : k = a := by omega
              go_wp2
              go_roundw
              case rel =>
                exact ⟨t + 1, by omega, by go_num, g, c, M, piv, by rw [← Hr.out], hrm, Hech.out.skip fun x h1 h2 => by rw [Hz.out x (by rw [Hr.out]; exact h1) h2]; exact Int.dvd_zero _, Hbd.out⟩
              case measure => simp [intOf]; omega
        · obtain rfl : n = t := by omega
          go_wp2
          go_ret
          exact ⟨piv, M, rfl, hrm.ext, hech⟩
end Go.Proofs.Ytbclbcldplmppaa
