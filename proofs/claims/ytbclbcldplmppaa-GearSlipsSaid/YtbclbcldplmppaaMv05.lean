/- The state of the elimination: rows in their order now, pivots, columns that are done. Plain Lean. -/
import Derived.Maps.OwnSet
import Derived.Lib.Hide
import Derived.Lib.Mul64
import Derived.Laws.Bits64b
import Derived.WalkLawsBesides
import Derived.Shelf.Spec.BitsCarry
import Derived.Test.YtbclbcldplmppaaProg
import Derived.Test.YtbclbcldplmppaaMv04
namespace Go.Proofs.Ytbclbcldplmppaa

structure SolSt (A : Nat → Nat → Int) (n m : Nat) (cols : List Nat) (σ : Nat → Nat) (pv : List (Nat × Nat)) (M : Nat → Nat → Int) (d : Int) : Prop where
  bar : Bar A m pv M d
  lt : ∀ k, k < m → σ k < m
  inj : ∀ i j, i < m → j < m → σ i = σ j → i = j
  row : rowsOf pv = (List.range pv.length).map σ
  le : pv.length ≤ m
  cnd : (colsP pv).Nodup
  cin : ∀ c ∈ colsP pv, c ∈ cols ∧ c < n
  zero : ∀ k, pv.length ≤ k → k < m → ∀ c ∈ cols, M (σ k) c = 0
  left : cols.Nodup → ∀ q ∈ pv, ∀ i j c : Nat, i < j → cols[j]? = some q.2 → cols[i]? = some c → M q.1 c = 0

theorem S_one (l : List Nat) : S l (fun _ => 1) = (l.length : Int) := by
  induction l with
  | nil => rfl
  | cons x l ih => rw [S_cons, ih]; simp; omega

/-- The rows behind a pivot at row i0, column c. -/
def newM (M : Nat → Nat → Int) (d : Int) (i0 c x j : Nat) : Int := if x = i0 then M i0 j else raw M i0 c x j / d
def swapF (σ : Nat → Nat) (a b k : Nat) : Nat := if k = a then σ b else if k = b then σ a else σ k

section
variable {A : Nat → Nat → Int} {n m : Nat} {cols : List Nat} {σ : Nat → Nat} {pv : List (Nat × Nat)} {M : Nat → Nat → Int} {d : Int}
theorem SolSt.start (A : Nat → Nat → Int) (n m : Nat) : SolSt A n m [] (fun k => k) [] A 1 :=
  ⟨Bar.start A m, fun _ h => h, fun _ _ _ _ h => h, by simp [rowsOf], by simp, by simp [colsP], fun c hc => by simp [colsP] at hc, fun _ _ _ c hc => by simp at hc, fun _ q hq => by simp at hq⟩
theorem SolSt.le_n (h : SolSt A n m cols σ pv M d) : pv.length ≤ n := by
  have h1 := S_sub_le (f := fun _ => 1) (fun _ => by decide) (colsP pv) (List.range n) h.cnd fun c hc => List.mem_range.2 (h.cin c hc).2
  rw [S_one, S_one] at h1
  simp [colsP] at h1
  exact h1
theorem SolSt.notin (h : SolSt A n m cols σ pv M d) {k : Nat} (h1 : pv.length ≤ k) (h2 : k < m) : σ k ∉ rowsOf pv := fun hm => by
  rw [h.row] at hm
  obtain ⟨j, hj, e⟩ := List.mem_map.1 hm
  rw [List.mem_range] at hj
  have := h.inj j k (by omega) h2 e
  omega
/-- What holds of the columns so far, in a longer list. -/
theorem left_snoc {cols : List Nat} {c x i j y : Nat} (hn : (cols ++ [x]).Nodup) (hc : c ∈ cols) (hij : i < j) (hj : (cols ++ [x])[j]? = some c) (hi : (cols ++ [x])[i]? = some y) : cols.Nodup ∧ cols[j]? = some c ∧ cols[i]? = some y := by
  have h1 := List.nodup_append.1 hn
  have hjl : j < cols.length := by
    rcases Nat.lt_or_ge j cols.length with h | h
    · exact h
    · have hl : j < (cols ++ [x]).length := (List.getElem?_eq_some_iff.1 hj).1
      have : j = cols.length := by simp at hl; omega
      subst this
      rw [List.getElem?_append_right (Nat.le_refl _)] at hj
      simp at hj
      subst hj
      exact absurd rfl (h1.2.2 x hc x (by simp))
  refine ⟨h1.1, ?_, ?_⟩
  · rwa [List.getElem?_append_left hjl] at hj
  · rwa [List.getElem?_append_left (by omega)] at hi
theorem SolSt.skip (h : SolSt A n m cols σ pv M d) {c : Nat} (h0 : ∀ k, pv.length ≤ k → k < m → M (σ k) c = 0) : SolSt A n m (cols ++ [c]) σ pv M d :=
  ⟨h.bar, h.lt, h.inj, h.row, h.le, h.cnd, fun x hx => ⟨List.mem_append.2 (.inl (h.cin x hx).1), (h.cin x hx).2⟩, fun k h1 h2 x hx => by
    rcases List.mem_append.1 hx with hx | hx
    · exact h.zero k h1 h2 x hx
    · simp at hx; subst hx; exact h0 k h1 h2, fun hn q hq i j y hij hj hi => by
    obtain ⟨e1, e2, e3⟩ := left_snoc hn (h.cin q.2 (List.mem_map.2 ⟨q, hq, rfl⟩)).1 hij hj hi
    exact h.left e1 q hq i j y hij e2 e3⟩

/-- The new rows' law: the division is exact. -/
theorem SolSt.newM_mul (h : SolSt A n m cols σ pv M d) {i c : Nat} (h1 : pv.length ≤ i) (h2 : i < m) (hp : M (σ i) c ≠ 0) {x : Nat} (hx : x < m) (hne : x ≠ σ i) (j : Nat) : d * newM M d (σ i) c x j = raw M (σ i) c x j := by
  unfold newM
  rw [if_neg hne]
  exact Int.mul_ediv_cancel' (raw_dvd h.bar (h.lt i h2) (h.notin h1 h2) hp x hx j hne)

theorem SolSt.pivot (h : SolSt A n m cols σ pv M d) {i c : Nat} (h1 : pv.length ≤ i) (h2 : i < m) (hc : c < n) (hp : M (σ i) c ≠ 0) :
    SolSt A n m (cols ++ [c]) (swapF σ pv.length i) (pv ++ [(σ i, c)]) (newM M d (σ i) c) (M (σ i) c) := by
  have hlt : ∀ k, k < m → ∃ k', k' < m ∧ swapF σ pv.length i k = σ k' ∧ (pv.length < k → pv.length ≤ k' ∧ k' ≠ i) ∧ (k < pv.length → k' = k) ∧ (k = pv.length → k' = i) := fun k hk => by
    unfold swapF
    by_cases e1 : k = pv.length
    · exact ⟨i, h2, by rw [if_pos e1], fun _ => by omega, fun _ => by omega, fun _ => rfl⟩
    · by_cases e2 : k = i
      · exact ⟨pv.length, by omega, by rw [if_neg e1, if_pos e2], fun _ => by omega, fun _ => by omega, fun _ => by omega⟩
      · exact ⟨k, hk, by rw [if_neg e1, if_neg e2], fun _ => by omega, fun _ => rfl, fun _ => by omega⟩
  have hcn : c ∉ colsP pv := fun hm => by
    obtain ⟨q, hq, rfl⟩ := List.mem_map.1 hm
    exact hp (h.bar.zero (h.lt i h2) (h.notin h1 h2) hq)
  refine ⟨h.bar.step (h.lt i h2) (h.notin h1 h2) hp (fun j => by unfold newM; rw [if_pos rfl]) (fun x hx hne j => h.newM_mul h1 h2 hp hx hne j), fun k hk => ?_, fun a b ha hb e => ?_, ?_, ?_, ?_, fun x hx => ?_, fun k hk1 hk2 x hx => ?_, fun hn q hq i' j y hij hj hi => ?_⟩
  · obtain ⟨k', hk', e, _⟩ := hlt k hk
    rw [e]; exact h.lt k' hk'
  · unfold swapF at e
    have hs : ∀ y z, y < m → z < m → σ y = σ z → y = z := h.inj
    have hpm : pv.length < m := by omega
    by_cases a1 : a = pv.length <;> by_cases b1 : b = pv.length <;> by_cases a2 : a = i <;> by_cases b2 : b = i <;> simp only [a1, b1, a2, b2, if_true, if_false] at e <;> (try omega)
    all_goals
      first
        | (have := hs _ _ (by omega) (by omega) e; omega)
        | (split at e <;> (try split at e) <;> (have := hs _ _ (by omega) (by omega) e; omega))
  · rw [rows_snoc, h.row, List.length_append, List.length_singleton, List.range_succ, List.map_append]
    congr 1
    · refine List.map_congr_left fun k hk => ?_
      rw [List.mem_range] at hk
      unfold swapF
      rw [if_neg (by omega), if_neg (by omega)]
    · simp [swapF]
  · simp; omega
  · have : colsP (pv ++ [(σ i, c)]) = colsP pv ++ [c] := by simp [colsP]
    rw [this]
    exact nodup_snoc h.cnd hcn
  · have e : colsP (pv ++ [(σ i, c)]) = colsP pv ++ [c] := by simp [colsP]
    rw [e] at hx
    rcases List.mem_append.1 hx with hx | hx
    · exact ⟨List.mem_append.2 (.inl (h.cin x hx).1), (h.cin x hx).2⟩
    · simp at hx; subst hx; exact ⟨by simp, hc⟩
  · simp only [List.length_append, List.length_singleton] at hk1
    obtain ⟨k', hk', e, hge, _⟩ := hlt k hk2
    obtain ⟨g1, g2⟩ := hge (by omega)
    rw [e]
    have hne : σ k' ≠ σ i := fun e' => g2 (h.inj k' i hk' h2 e')
    refine (Int.mul_eq_zero.1 (?_ : d * newM M d (σ i) c (σ k') x = 0)).resolve_left h.bar.ne
    rw [h.newM_mul h1 h2 hp (h.lt k' hk') hne]
    unfold raw
    rcases List.mem_append.1 hx with hx | hx
    · rw [h.zero k' g1 hk' x hx, h.zero i h1 h2 x hx]; simp
    · simp at hx; subst hx; rw [Int.mul_comm]; omega
  · have hz : ∀ y, y ∈ cols → M (σ i) y = 0 := fun y hy => h.zero i h1 h2 y hy
    rcases List.mem_append.1 hq with hq | hq
    · obtain ⟨e1, e2, e3⟩ := left_snoc hn (h.cin q.2 (List.mem_map.2 ⟨q, hq, rfl⟩)).1 hij hj hi
      have hq1 : q.1 ∈ rowsOf pv := List.mem_map.2 ⟨q, hq, rfl⟩
      have hne : q.1 ≠ σ i := fun e => h.notin h1 h2 (e ▸ hq1)
      refine (Int.mul_eq_zero.1 (?_ : d * newM M d (σ i) c q.1 y = 0)).resolve_left h.bar.ne
      rw [h.newM_mul h1 h2 hp (h.bar.lt q hq) hne]
      unfold raw
      rw [h.left e1 q hq i' j y hij e2 e3, hz y (List.mem_of_getElem? e3)]
      simp
    · simp only [List.mem_singleton] at hq
      subst hq
      unfold newM
      rw [if_pos rfl]
      refine hz y ?_
      have hlj : j < (cols ++ [c]).length := (List.getElem?_eq_some_iff.1 hj).1
      rw [List.getElem?_append_left (by simp at hlj; omega)] at hi
      exact List.mem_of_getElem? hi
end
end Go.Proofs.Ytbclbcldplmppaa

/- Rows of equations in memory, as functions of their places; structs beside them. -/
namespace Go.Proofs.Ytbclbcldplmppaa
open Go.RowKit

def rowCells (n m c : Nat) (g h : Nat → Nat) : List Value := ((List.range c).map fun k => [sl (g k) n, sl (h k) m]).flatten
theorem rowCells_len (n m c : Nat) (g h : Nat → Nat) : (rowCells n m c g h).length = c * 2 := by
  unfold rowCells
  rw [flatten_len 2 _ (by simp)]
  simp
theorem rowCells_succ (n m c : Nat) (g h : Nat → Nat) : rowCells n m (c + 1) g h = rowCells n m c g h ++ [sl (g c) n, sl (h c) m] := by simp [rowCells, List.range_succ]
theorem rowCells_congr {n m c : Nat} {g h g' h' : Nat → Nat} (hg : ∀ k, k < c → g k = g' k) (hh : ∀ k, k < c → h k = h' k) : rowCells n m c g h = rowCells n m c g' h' := by
  unfold rowCells
  congr 1
  exact List.map_congr_left fun k hk => by rw [hg k (List.mem_range.1 hk), hh k (List.mem_range.1 hk)]
theorem rowCells_get (n m c : Nat) (g h : Nat → Nat) {k : Nat} (hk : k < c) : (rowCells n m c g h)[k * 2]? = some (sl (g k) n) ∧ (rowCells n m c g h)[k * 2 + 1]? = some (sl (h k) m) := by
  have h0 := flatten_get 2 ((List.range c).map fun k => [sl (g k) n, sl (h k) m]) (by simp) k 0 (by omega) (by simpa using hk)
  have h1 := flatten_get 2 ((List.range c).map fun k => [sl (g k) n, sl (h k) m]) (by simp) k 1 (by omega) (by simpa using hk)
  refine ⟨?_, ?_⟩
  · unfold rowCells; rw [show k * 2 = k * 2 + 0 by omega, h0]; simp
  · unfold rowCells; rw [h1]; simp

/-- c rows, each of a line of n numbers and one of m, all in blocks of their own. -/
structure MF (b w : World) (v : Value) (n m c : Nat) (g h : Nat → Nat) (L B : Nat → List Int) : Prop where
  own : Own b w 117 2 v c (rowCells n m c g h)
  gl : ∀ k, k < c → NewInts b w (g k) (L k) ∧ (L k).length = n
  hb : ∀ k, k < c → NewInts b w (h k) (B k) ∧ (B k).length = m
  gg : ∀ i j, i < c → j < c → g i = g j → i = j
  hh : ∀ i j, i < c → j < c → h i = h j → i = j
  gh : ∀ i j, i < c → j < c → g i ≠ h j

section
variable {b w w' : World} {v : Value} {n m c : Nat} {g h : Nat → Nat} {L B : Nat → List Int}
theorem MF.ext (hm : MF b w v n m c g h L B) : Ext b w := hm.own.ext
theorem MF.later (hm : MF b w v n m c g h L B) (he : Ext w w') : MF b w' v n m c g h L B :=
  ⟨hm.own.later he, fun k hk => ⟨(hm.gl k hk).1.later he, (hm.gl k hk).2⟩, fun k hk => ⟨(hm.hb k hk).1.later he, (hm.hb k hk).2⟩, hm.gg, hm.hh, hm.gh⟩
theorem MF.start (he : Ext b w) (n m : Nat) (g h : Nat → Nat) (L B : Nat → List Int) : MF b w (.slice none 0 0) n m 0 g h L B :=
  ⟨Own.nil' he _ _, fun k hk => by omega, fun k hk => by omega, fun i j hi => by omega, fun i j hi => by omega, fun i j hi => by omega⟩
theorem MF.apart_of {k : Nat} {xs : List Int} (hm : MF b w v n m c g h L B) (hk : NewInts b w k xs) : v.ownBlock ≠ some k := fun e => by
  rcases hm.own.2.2 with ⟨rfl, _⟩ | ⟨g', cap, cur, rfl, _, hh, _⟩
  · cases e
  · injection e with e
    simp only at e
    subst e
    have := hk.2.2
    rw [hh] at this
    injection this with this
    injection this with _ ht
    exact absurd ht (by decide)

/-- One row more. -/
theorem MF.append {w1 w2 : World} {v' : Value} {g0 h0 : Nat} {l bl : List Int} (hm : MF b w v n m c g h L B) (he : Ext w w1) (hg : NewInts w w1 g0 l) (hh : NewInts w w1 h0 bl) (hne : g0 ≠ h0) (hl : l.length = n) (hb : bl.length = m)
    (ho : Own b w2 117 2 v' (c + 1) (rowCells n m c g h ++ [sl g0 n, sl h0 m])) (hgr : w1.grownBy w2 v.ownBlock) (hLc : L c = l) (hBc : B c = bl) :
    MF b w2 v' n m (c + 1) (fun k => if k = c then g0 else g k) (fun k => if k = c then h0 else h k) L B := by
  have hbw : Ext b w := hm.own.ext
  have keep : ∀ k, k < w1.heap.size → v.ownBlock ≠ some k → w2.heap[k]? = w1.heap[k]? := fun k hk hv => hgr.block k hk (fun e => hv e.symm)
  have hv1 : ∀ k, w.heap.size ≤ k → v.ownBlock ≠ some k := fun k hk e => by
    have := (hm.own.2.lt k e).2
    omega
  have old : ∀ {k : Nat} {xs : List Int}, NewInts b w k xs → NewInts b w2 k xs := fun {k xs} hk =>
    ⟨ho.ext, hk.2.1, by rw [keep _ (Nat.lt_of_lt_of_le hk.lt he.le) (hm.apart_of hk)]; exact he.heap hk.2.2⟩
  have new : ∀ {k : Nat} {xs : List Int}, NewInts w w1 k xs → NewInts b w2 k xs := fun {k xs} hk =>
    ⟨ho.ext, Nat.le_trans hbw.le hk.2.1, by rw [keep _ hk.lt (hv1 _ hk.2.1)]; exact hk.2.2⟩
  have lt : ∀ {k : Nat} {xs : List Int}, NewInts b w k xs → k < w.heap.size := fun hk => hk.lt
  refine ⟨?_, fun k hk => ?_, fun k hk => ?_, fun i j hi hj e => ?_, fun i j hi hj e => ?_, fun i j hi hj e => ?_⟩
  · rw [rowCells_succ, if_pos rfl, if_pos rfl]
    have : rowCells n m c (fun k => if k = c then g0 else g k) (fun k => if k = c then h0 else h k) = rowCells n m c g h := rowCells_congr (fun k hk => by rw [if_neg (by omega)]) (fun k hk => by rw [if_neg (by omega)])
    rw [this]; exact ho
  · by_cases e : k = c
    · subst e; rw [if_pos rfl, hLc]; exact ⟨new hg, hl⟩
    · rw [if_neg e]; exact ⟨old (hm.gl k (by omega)).1, (hm.gl k (by omega)).2⟩
  · by_cases e : k = c
    · subst e; rw [if_pos rfl, hBc]; exact ⟨new hh, hb⟩
    · rw [if_neg e]; exact ⟨old (hm.hb k (by omega)).1, (hm.hb k (by omega)).2⟩
  · by_cases e1 : i = c <;> by_cases e2 : j = c <;> simp only [e1, e2, if_true, if_false] at e ⊢
    · have h1 := lt (hm.gl j (by omega)).1; have h2 := hg.2.1; omega
    · have h1 := lt (hm.gl i (by omega)).1; have h2 := hg.2.1; omega
    · exact hm.gg i j (by omega) (by omega) e
  · by_cases e1 : i = c <;> by_cases e2 : j = c <;> simp only [e1, e2, if_true, if_false] at e ⊢
    · have h1 := lt (hm.hb j (by omega)).1; have h2 := hh.2.1; omega
    · have h1 := lt (hm.hb i (by omega)).1; have h2 := hh.2.1; omega
    · exact hm.hh i j (by omega) (by omega) e
  · by_cases e1 : i = c <;> by_cases e2 : j = c <;> simp only [e1, e2, if_true, if_false] at e
    · exact hne e
    · have h1 := lt (hm.hb j (by omega)).1; have h2 := hg.2.1; omega
    · have h1 := lt (hm.gl i (by omega)).1; have h2 := hh.2.1; omega
    · exact hm.gh i j (by omega) (by omega) e

/-- A number of row k's line is stored. -/
theorem MF.storeL (hm : MF b w v n m c g h L B) {k : Nat} (hk : k < c) (hn : n ≤ 1000000) (hmm : m ≤ 1000000) (j : Nat) (x : Int) :
    MF b (w.setCell ⟨g k, j, none⟩ (vint x)) v n m c g h (fun i => if i = k then (L k).set j x else L i) B := by
  have hlk := hm.gl k hk
  refine ⟨hm.own.other hlk.1.2.1 (hm.apart_of hlk.1) _, fun i hi => ?_, fun i hi => ?_, hm.gg, hm.hh, hm.gh⟩
  · by_cases e : i = k
    · subst e; rw [if_pos rfl]
      exact ⟨hlk.1.store (by rw [hlk.2]; unfold maxLen; omega) j x, by simp [hlk.2]⟩
    · rw [if_neg e]
      have hi' := hm.gl i hi
      exact ⟨hi'.1.other (p := ⟨g k, j, none⟩) (by rw [hi'.2]; unfold maxLen; omega) hlk.1.2.1 (fun e' => e (hm.gg i k hi hk e'.symm)) _, hi'.2⟩
  · have hi' := hm.hb i hi
    exact ⟨hi'.1.other (p := ⟨g k, j, none⟩) (by rw [hi'.2]; unfold maxLen; omega) hlk.1.2.1 (fun e' => hm.gh k i hk hi e') _, hi'.2⟩
/-- .. of its other line. -/
theorem MF.storeB (hm : MF b w v n m c g h L B) {k : Nat} (hk : k < c) (hn : n ≤ 1000000) (hmm : m ≤ 1000000) (j : Nat) (x : Int) :
    MF b (w.setCell ⟨h k, j, none⟩ (vint x)) v n m c g h L (fun i => if i = k then (B k).set j x else B i) := by
  have hlk := hm.hb k hk
  refine ⟨hm.own.other hlk.1.2.1 (hm.apart_of hlk.1) _, fun i hi => ?_, fun i hi => ?_, hm.gg, hm.hh, hm.gh⟩
  · have hi' := hm.gl i hi
    exact ⟨hi'.1.other (p := ⟨h k, j, none⟩) (by rw [hi'.2]; unfold maxLen; omega) hlk.1.2.1 (fun e' => hm.gh i k hi hk e'.symm) _, hi'.2⟩
  · by_cases e : i = k
    · subst e; rw [if_pos rfl]
      exact ⟨hlk.1.store (by rw [hlk.2]; unfold maxLen; omega) j x, by simp [hlk.2]⟩
    · rw [if_neg e]
      have hi' := hm.hb i hi
      exact ⟨hi'.1.other (p := ⟨h k, j, none⟩) (by rw [hi'.2]; unfold maxLen; omega) hlk.1.2.1 (fun e' => e (hm.hh i k hi hk e'.symm)) _, hi'.2⟩
/-- A store in a block that is none of these. -/
theorem MF.other (hm : MF b w v n m c g h L B) (hn : n ≤ 1000000) (hmm : m ≤ 1000000) {p : Addr} (hp : b.heap.size ≤ p.block) (hv : v.ownBlock ≠ some p.block) (h1 : ∀ k, k < c → p.block ≠ g k) (h2 : ∀ k, k < c → p.block ≠ h k) (u : Value) :
    MF b (w.setCell p u) v n m c g h L B :=
  ⟨hm.own.other hp hv u, fun k hk => ⟨(hm.gl k hk).1.other (by rw [(hm.gl k hk).2]; unfold maxLen; omega) hp (h1 k hk) u, (hm.gl k hk).2⟩,
    fun k hk => ⟨(hm.hb k hk).1.other (by rw [(hm.hb k hk).2]; unfold maxLen; omega) hp (h2 k hk) u, (hm.hb k hk).2⟩, hm.gg, hm.hh, hm.gh⟩
theorem MF.congr (hm : MF b w v n m c g h L B) {L' B' : Nat → List Int} (hL : ∀ k, k < c → L k = L' k) (hB : ∀ k, k < c → B k = B' k) : MF b w v n m c g h L' B' :=
  ⟨hm.own, fun k hk => by rw [← hL k hk]; exact hm.gl k hk, fun k hk => by rw [← hB k hk]; exact hm.hb k hk, hm.gg, hm.hh, hm.gh⟩
end

/-- A struct in a block of its own. -/
structure Bx (w : World) (k : Nat) (xs : List Value) : Prop where
  cell : ∀ j, j < xs.length → w.cell? ⟨k, j, none⟩ = xs[j]?
  free : ∀ j, w.frozen? ⟨k, j, none⟩ = false
  lt : k < w.heap.size
section
variable {w w' : World} {k : Nat} {xs : List Value}
theorem Bx.later (h : Bx w k xs) (he : Ext w w') : Bx w' k xs :=
  ⟨fun j hj => by have := h.cell j hj; rw [List.getElem?_eq_getElem hj] at this ⊢; exact he.cell this, fun j => (he.frozen h.lt).trans (h.free j), Nat.lt_of_lt_of_le h.lt he.le⟩
theorem Bx.other (h : Bx w k xs) {p : Addr} (hp : p.block ≠ k) (u : Value) : Bx (w.setCell p u) k xs :=
  ⟨fun j hj => by rw [World.cell?_setCell_other _ _ _ _ (fun e => hp (by rw [e]))]; exact h.cell j hj, fun j => by rw [World.frozen?_setCell]; exact h.free j, by simp; exact h.lt⟩
theorem Bx.grown (h : Bx w k xs) {row : Option Nat} (hg : w.grownBy w' row) (hr : row ≠ some k) : Bx w' k xs :=
  ⟨fun j hj => by rw [hg.cell_far ⟨k, j, none⟩ h.lt (fun e => hr e.symm)]; exact h.cell j hj, fun j => (hg.frozen_far ⟨k, j, none⟩ h.lt (fun e => hr e.symm)).trans (h.free j), Nat.lt_of_lt_of_le h.lt hg.size⟩
theorem Bx.set (h : Bx w k xs) {j : Nat} (hj : j < xs.length) (u : Value) : Bx (w.setCell ⟨k, j, none⟩ u) k (xs.set j u) := by
  refine ⟨fun i hi => ?_, fun i => by rw [World.frozen?_setCell]; exact h.free i, by simp; exact h.lt⟩
  simp only [List.length_set] at hi
  by_cases e : j = i
  · subst e
    have := h.cell j hj
    rw [List.getElem?_eq_getElem hj] at this
    rw [World.cell?_setCell_same _ _ _ this, List.getElem?_set_self hj]
  · rw [World.cell?_setCell_other _ _ _ _ (by simp), List.getElem?_set_ne e]
    exact h.cell i hi
theorem Bx.of_heap {cs : Array Value} {t : TypeId} (h : w.heap[k]? = some (.cells cs t)) : Bx w k cs.toList :=
  ⟨fun j hj => by rw [cell_heap h]; simp, fun j => frozen_heap h j, (Array.getElem?_eq_some_iff.1 h).1⟩
end
end Go.Proofs.Ytbclbcldplmppaa

/- solve: the lists of a row's numbers, the map's law, a shaft's factor. -/
namespace Go.Proofs.Ytbclbcldplmppaa
open Go.RowKit

def lineOf (M : Nat → Nat → Int) (n x : Nat) : List Int := (List.range n).map fun j => M x j
def byOf (M : Nat → Nat → Int) (n m x : Nat) : List Int := (List.range m).map fun j => M x (n + j)
def mixL (N M : Nat → Nat → Int) (n x j : Nat) : List Int := (List.range n).map fun i => if i < j then N x i else M x i
def mixB (N M : Nat → Nat → Int) (n m x j : Nat) : List Int := (List.range m).map fun i => if i < j then N x (n + i) else M x (n + i)
section
variable {N M : Nat → Nat → Int} {n m x j : Nat}
theorem lineOf_length : (lineOf M n x).length = n := by simp [lineOf]
theorem byOf_length : (byOf M n m x).length = m := by simp [byOf]
theorem mixL_length : (mixL N M n x j).length = n := by simp [mixL]
theorem mixB_length : (mixB N M n m x j).length = m := by simp [mixB]
theorem getI_lineOf (h : j < n) : getI (lineOf M n x) j = M x j := by simp [getI, lineOf, h]
theorem getI_byOf (h : j < m) : getI (byOf M n m x) j = M x (n + j) := by simp [getI, byOf, h]
theorem getI_mixL (h : j < n) : getI (mixL N M n x j) j = M x j := by simp [getI, mixL, h]
theorem getI_mixB (h : j < m) : getI (mixB N M n m x j) j = M x (n + j) := by simp [getI, mixB, h]
theorem mixL_zero : mixL N M n x 0 = lineOf M n x := by simp [mixL, lineOf]
theorem mixB_zero : mixB N M n m x 0 = byOf M n m x := by simp [mixB, byOf]
theorem mixL_all : mixL N M n x n = lineOf N n x := List.map_congr_left fun _ hi => if_pos (List.mem_range.1 hi)
theorem mixB_all : mixB N M n m x m = byOf N n m x := List.map_congr_left fun _ hi => if_pos (List.mem_range.1 hi)
theorem mixL_set (_h : j < n) : (mixL N M n x j).set j (N x j) = mixL N M n x (j + 1) := by
  refine List.ext_getElem (by simp [mixL]) fun i h1 h2 => ?_
  simp only [mixL, List.length_map, List.length_range] at h2
  by_cases e : j = i
  · subst e; simp [mixL]
  · rw [List.getElem_set_ne e]
    simp only [mixL, List.getElem_map, List.getElem_range]
    by_cases e2 : i < j
    · rw [if_pos e2, if_pos (by omega)]
    · rw [if_neg e2, if_neg (by omega)]
theorem mixB_set (_h : j < m) : (mixB N M n m x j).set j (N x (n + j)) = mixB N M n m x (j + 1) := by
  refine List.ext_getElem (by simp [mixB]) fun i h1 h2 => ?_
  simp only [mixB, List.length_map, List.length_range] at h2
  by_cases e : j = i
  · subst e; simp [mixB]
  · rw [List.getElem_set_ne e]
    simp only [mixB, List.getElem_map, List.getElem_range]
    by_cases e2 : i < j
    · rw [if_pos e2, if_pos (by omega)]
    · rw [if_neg e2, if_neg (by omega)]
end

theorem wf_nat (x : Nat) (hx : x ≤ 1000) : (Lit.int .i64 (x : Int)).wf = true := by
  have h1 : IntKind.i64.min = -9223372036854775808 := by decide
  have h2 : IntKind.i64.max = 9223372036854775807 := by decide
  simp [Lit.wf, h1, h2]
  omega

/-- The map holds each pivot column's number. -/
structure MapIs (D : DataW Unit) (cs : List Nat) : Prop where
  tidy : Maps.Tidy D
  has : ∀ c : Nat, Maps.has D (.int .i64 (c : Int)) = decide (c ∈ cs)
  at_ : ∀ k (h : k < cs.length), ∀ z, D.atKey (.int .i64 (cs[k] : Int)) z = .lit (.int .i64 (k : Int))
  size : Maps.size D = cs.length
theorem MapIs.start : MapIs (.map []) [] := ⟨Maps.tidy_empty, fun c => by simp [Maps.has], fun k h => by simp at h, rfl⟩
theorem isKey_nat (c : Nat) : WideAt.IsKeyLit (.int .i64 (c : Int)) := by simp [WideAt.IsKeyLit]
theorem MapIs.put {D : DataW Unit} {cs : List Nat} (h : MapIs D cs) {c : Nat} (hc : c ∉ cs) : MapIs (D.put (.int .i64 (c : Int)) (.lit (.int .i64 (cs.length : Int)))) (cs ++ [c]) := by
  have hk := isKey_nat c
  have hne : ∀ c' : Nat, c' ≠ c → (Lit.int .i64 (c' : Int)) ≠ .int .i64 (c : Int) := fun c' e e' => by injection e' with _ e'; omega
  refine ⟨h.tidy.put hk _, fun c' => ?_, fun k hk' z => ?_, ?_⟩
  · by_cases e : c' = c
    · subst e; rw [Maps.has_put_same h.tidy.isMap hk]; simp
    · rw [Maps.has_put_other (hne c' e), h.has]; simp [e]
  · by_cases e : k < cs.length
    · have : (cs ++ [c])[k] = cs[k] := List.getElem_append_left e
      rw [this, Maps.atKey_put_other (hne _ (fun e' => hc (e' ▸ List.getElem_mem e)))]
      exact h.at_ k e z
    · have e2 : k = cs.length := by simp at hk'; omega
      subst e2
      simp only [List.getElem_concat_length]
      exact Maps.atKey_put_same h.tidy.isMap hk _ _
  · rw [Maps.size_put h.tidy, h.has, h.size]
    simp [hc]

theorem at_any (A : Option Addr) (c k : Nat) (xs : List Int) (w : World) (hA : Ints w A xs) (hk : k < xs.length) :
    Calls Try.prog 78 #[.slice A xs.length c, .int .i64 k] w fun e w' => e = .returned (.int .i64 (getI xs k)) ∧ w = w' := by
  obtain ⟨ad, rfl, hc⟩ := hA.at_ hk
  have hi : (k : Int) < (xs.length : Int) := by omega
  generalize xs.length = n at *
  generalize getI xs k = x at *
  go_enter Try.func78, Try.ntmps78
  go_wp2
  go_ret
  exact ⟨rfl, rfl⟩
end Go.Proofs.Ytbclbcldplmppaa

/- solve: what lies beside the rows. -/
namespace Go.Proofs.Ytbclbcldplmppaa
open Go.RowKit

/-- The rows that come in, to be read. -/
def RIn (w : World) (A : Option Addr) (n m : Nat) (L B : Nat → List Int) : Prop := ∀ k, k < m → ∃ ad A1 A2, A = some ad ∧
  (∀ w', Ext w w' → w'.cell? (ad.add (k * 2)) = some (.slice A1 n n)) ∧ (∀ w', Ext w w' → w'.cell? ⟨(ad.add (k * 2)).block, (ad.add (k * 2)).off + 1, none⟩ = some (.slice A2 m m)) ∧
  (∀ w', Ext w w' → Ints w' A1 (L k)) ∧ (∀ w', Ext w w' → Ints w' A2 (B k)) ∧ (L k).length = n ∧ (B k).length = m

abbrev MapI (w : World) (mb cnt : Nat) (D : DataW Unit) : Prop := w.ownsMap Try.prog 3 (plainElem Try.prog 3) mb cnt D

/-- What lies beside the rows: the result's place, the map, the struct. -/
structure Fr (w : World) (g4 mb g5 : Nat) (v ord : Value) (d : Int) (cnt : Nat) (D : DataW Unit) : Prop where
  b4 : Bx w g4 [.slice none 0 0, .map none, .slice none 0 0, .int .i64 0]
  b5 : Bx w g5 [v, .map (some mb), ord, .int .i64 d]
  mp : MapI w mb cnt D
  e4 : g4 < mb
  e5 : mb < g5
structure Sep (g5 : Nat) (v : Value) (c : Nat) (g h : Nat → Nat) : Prop where
  v : ∀ k, v.ownBlock = some k → g5 < k
  g : ∀ k, k < c → g5 < g k
  h : ∀ k, k < c → g5 < h k

theorem Fr.later {w w' : World} {g4 mb g5 : Nat} {v ord : Value} {d : Int} {cnt : Nat} {D : DataW Unit} (h : Fr w g4 mb g5 v ord d cnt D) (he : Ext w w') : Fr w' g4 mb g5 v ord d cnt D := by
  refine ⟨h.b4.later he, h.b5.later he, ?_, h.e4, h.e5⟩
  obtain ⟨es, clock, hb, r⟩ := h.mp
  exact ⟨es, clock, he.heap hb, r⟩
theorem Fr.grown {w w' : World} {g4 mb g5 : Nat} {v ord : Value} {d : Int} {cnt : Nat} {D : DataW Unit} (h : Fr w g4 mb g5 v ord d cnt D) {row : Option Nat} (hg : w.grownBy w' row) (hr : ∀ k, row = some k → g5 < k) : Fr w' g4 mb g5 v ord d cnt D := by
  have e4 := h.e4
  have e5 := h.e5
  refine ⟨h.b4.grown hg (fun e => by have := hr _ e; omega), h.b5.grown hg (fun e => by have := hr _ e; omega), ?_, h.e4, h.e5⟩
  exact h.mp.kept hg (fun e => by have := hr _ e.symm; omega)
/-- A store behind all of these. -/
theorem Fr.other {w : World} {g4 mb g5 : Nat} {v ord : Value} {d : Int} {cnt : Nat} {D : DataW Unit} (h : Fr w g4 mb g5 v ord d cnt D) {p : Addr} (hp : g5 < p.block) (u : Value) : Fr (w.setCell p u) g4 mb g5 v ord d cnt D := by
  have e4 := h.e4
  have e5 := h.e5
  exact ⟨h.b4.other (by omega) u, h.b5.other (by omega) u, h.mp.setCell (by omega) u, h.e4, h.e5⟩
theorem Fr.setRows {w : World} {g4 mb g5 : Nat} {v ord : Value} {d : Int} {cnt : Nat} {D : DataW Unit} (h : Fr w g4 mb g5 v ord d cnt D) (v' : Value) : Fr (w.setCell ⟨g5, 0, none⟩ v') g4 mb g5 v' ord d cnt D := by
  have e4 := h.e4
  have e5 := h.e5
  refine ⟨h.b4.other (p := ⟨g5, 0, none⟩) (by simp only; omega) _, ?_, h.mp.setCell (a := ⟨g5, 0, none⟩) (by simp only; omega) _, h.e4, h.e5⟩
  have := h.b5.set (j := 0) (by simp) v'
  simpa using this


theorem Fr.pivot {w w2 : World} {g4 mb g5 : Nat} {v ord : Value} {d : Int} {cnt cnt2 : Nat} {D D2 : DataW Unit} (h : Fr w g4 mb g5 v ord d cnt D) (hown : MapI w2 mb cnt2 D2) (hg : w.grownBy w2 (some mb)) (p : Int) :
    Fr (w2.setCell ⟨g5, 3, none⟩ (.int .i64 p)) g4 mb g5 v ord p cnt2 D2 := by
  have e4 := h.e4
  have e5 := h.e5
  refine ⟨(h.b4.grown hg (fun e => by have := Option.some.inj e; omega)).other (p := ⟨g5, 3, none⟩) (by first | omega | (simp only; omega)) _, ?_, hown.setCell (a := ⟨g5, 3, none⟩) (by first | omega | (simp only; omega)) _, h.e4, h.e5⟩
  have := (h.b5.grown hg (fun e => by have := Option.some.inj e; omega)).set (j := 3) (by simp) (.int .i64 p)
  simpa using this

/-- Another block turns. -/
theorem MF.grown {b w w' : World} {v : Value} {n m c : Nat} {g h : Nat → Nat} {L B : Nat → List Int} (hm : MF b w v n m c g h L B) {k : Nat} (hg : w.grownBy w' (some k)) (hk : b.heap.size ≤ k) (hv : v.ownBlock ≠ some k) (h1 : ∀ i, i < c → g i ≠ k) (h2 : ∀ i, i < c → h i ≠ k) :
    MF b w' v n m c g h L B := by
  have hx : Ext b w' := hm.ext.grown hg (fun j e => by have := Option.some.inj e; omega)
  have old : ∀ {j : Nat} {xs : List Int}, NewInts b w j xs → j ≠ k → NewInts b w' j xs := fun {j xs} hj hne => ⟨hx, hj.2.1, (hg.block j hj.lt (fun e => hne (Option.some.inj e))).trans hj.2.2⟩
  exact ⟨⟨hx, hm.own.2.kept hg (.inr hv)⟩, fun i hi => ⟨old (hm.gl i hi).1 (h1 i hi), (hm.gl i hi).2⟩, fun i hi => ⟨old (hm.hb i hi).1 (h2 i hi), (hm.hb i hi).2⟩, hm.gg, hm.hh, hm.gh⟩
end Go.Proofs.Ytbclbcldplmppaa

/- Rows exchanged in memory. No program in sight but the table of types. -/
namespace Go.Proofs.Ytbclbcldplmppaa
open Go.RowKit

theorem rowCells_swap (n m c : Nat) (g h : Nat → Nat) {a b : Nat} (ha : a < c) (hb : b < c) :
    ((((rowCells n m c g h).set (a * 2) (sl (g b) n)).set (a * 2 + 1) (sl (h b) m)).set (b * 2) (sl (g a) n)).set (b * 2 + 1) (sl (h a) m) = rowCells n m c (swapF g a b) (swapF h a b) := by
  refine List.ext_getElem? fun i => ?_
  by_cases hi : i < c * 2
  · obtain ⟨k, hk⟩ : ∃ k, k = i / 2 := ⟨_, rfl⟩
    have hkc : k < c := by omega
    obtain ⟨g0, g1⟩ := rowCells_get n m c g h hkc
    obtain ⟨s0, s1⟩ := rowCells_get n m c (swapF g a b) (swapF h a b) hkc
    have hl := rowCells_len n m c g h
    rcases (by omega : i = k * 2 ∨ i = k * 2 + 1) with rfl | rfl
    · rw [s0, List.getElem?_set_ne (by omega)]
      by_cases e1 : k = b
      · subst e1
        rw [List.getElem?_set_self (by simp [hl]; omega)]
        unfold swapF
        by_cases e2 : k = a
        · subst e2; simp
        · rw [if_neg e2, if_pos rfl]
      · rw [List.getElem?_set_ne (by omega), List.getElem?_set_ne (by omega)]
        by_cases e2 : k = a
        · subst e2
          rw [List.getElem?_set_self (by omega)]
          unfold swapF; rw [if_pos rfl]
        · rw [List.getElem?_set_ne (by omega), g0]
          unfold swapF; rw [if_neg e2, if_neg e1]
    · rw [s1]
      by_cases e1 : k = b
      · subst e1
        rw [List.getElem?_set_self (by simp [hl]; omega)]
        unfold swapF
        by_cases e2 : k = a
        · subst e2; simp
        · rw [if_neg e2, if_pos rfl]
      · rw [List.getElem?_set_ne (by omega), List.getElem?_set_ne (by omega)]
        by_cases e2 : k = a
        · subst e2
          rw [List.getElem?_set_self (by simp [hl]; omega)]
          unfold swapF; rw [if_pos rfl]
        · rw [List.getElem?_set_ne (by omega), List.getElem?_set_ne (by omega), g1]
          unfold swapF; rw [if_neg e2, if_neg e1]
  · rw [List.getElem?_eq_none (by simp [rowCells_len]; omega), List.getElem?_eq_none (by rw [rowCells_len]; omega)]

theorem swapF_lt {σ : Nat → Nat} {a b c k : Nat} (ha : a < c) (hb : b < c) (hk : k < c) : ∃ k', k' < c ∧ swapF σ a b k = σ k' := by
  unfold swapF
  split
  · exact ⟨b, hb, rfl⟩
  · split
    · exact ⟨a, ha, rfl⟩
    · exact ⟨k, hk, rfl⟩
theorem swapF_inj {σ : Nat → Nat} {a b c : Nat} (ha : a < c) (hb : b < c) (h : ∀ i j, i < c → j < c → σ i = σ j → i = j) : ∀ i j, i < c → j < c → swapF σ a b i = swapF σ a b j → i = j := by
  intro i j hi hj e
  unfold swapF at e
  by_cases a1 : i = a <;> by_cases b1 : j = a <;> by_cases a2 : i = b <;> by_cases b2 : j = b <;> simp only [a1, b1, a2, b2, if_true, if_false] at e <;> (try omega)
  all_goals
    first
      | (have := h _ _ (by omega) (by omega) e; omega)
      | (split at e <;> (try split at e) <;> (have := h _ _ (by omega) (by omega) e; omega))

theorem MF.swap {b0 w : World} {gv cv n m c : Nat} {g h : Nat → Nat} {F G : Nat → List Int} {σ : Nat → Nat} (hm : MF b0 w (.slice (some ⟨gv, 0, none⟩) c cv) n m c g h (fun k => F (σ k)) (fun k => G (σ k))) {a b : Nat} (ha : a < c) (hb : b < c) (hn : n ≤ 1000000) (hmm : m ≤ 1000000) :
    MF b0 ((((w.setCell ⟨gv, a * 2, none⟩ (sl (g b) n)).setCell ⟨gv, a * 2 + 1, none⟩ (sl (h b) m)).setCell ⟨gv, b * 2, none⟩ (sl (g a) n)).setCell ⟨gv, b * 2 + 1, none⟩ (sl (h a) m)) (.slice (some ⟨gv, 0, none⟩) c cv) n m c (swapF g a b) (swapF h a b) (fun k => F (swapF σ a b k)) (fun k => G (swapF σ a b k)) := by
  have hge := hm.own.ge
  have hgv : ∀ k, k < c → gv ≠ g k := fun k hk e => hm.apart_of (hm.gl k hk).1 (by simp [Value.ownBlock, e])
  have hhv : ∀ k, k < c → gv ≠ h k := fun k hk e => hm.apart_of (hm.hb k hk).1 (by simp [Value.ownBlock, e])
  have keep : ∀ {k : Nat} {xs : List Int} {W : World} (j : Nat) (u : Value), NewInts b0 W k xs → xs.length ≤ maxLen → gv ≠ k → NewInts b0 (W.setCell ⟨gv, j, none⟩ u) k xs := fun {k xs W} j u h1 h2 h3 => h1.other (p := ⟨gv, j, none⟩) h2 hge h3 u
  have g1 : ∀ k, k < c → NewInts b0 ((((w.setCell ⟨gv, a * 2, none⟩ (sl (g b) n)).setCell ⟨gv, a * 2 + 1, none⟩ (sl (h b) m)).setCell ⟨gv, b * 2, none⟩ (sl (g a) n)).setCell ⟨gv, b * 2 + 1, none⟩ (sl (h a) m)) (g k) (F (σ k)) ∧ (F (σ k)).length = n := fun k hk => by
    obtain ⟨h1, h2⟩ := hm.gl k hk
    have hl : (F (σ k)).length ≤ maxLen := by rw [h2]; unfold maxLen; omega
    exact ⟨keep _ _ (keep _ _ (keep _ _ (keep _ _ h1 hl (hgv k hk)) hl (hgv k hk)) hl (hgv k hk)) hl (hgv k hk), h2⟩
  have h1 : ∀ k, k < c → NewInts b0 ((((w.setCell ⟨gv, a * 2, none⟩ (sl (g b) n)).setCell ⟨gv, a * 2 + 1, none⟩ (sl (h b) m)).setCell ⟨gv, b * 2, none⟩ (sl (g a) n)).setCell ⟨gv, b * 2 + 1, none⟩ (sl (h a) m)) (h k) (G (σ k)) ∧ (G (σ k)).length = m := fun k hk => by
    obtain ⟨h1, h2⟩ := hm.hb k hk
    have hl : (G (σ k)).length ≤ maxLen := by rw [h2]; unfold maxLen; omega
    exact ⟨keep _ _ (keep _ _ (keep _ _ (keep _ _ h1 hl (hhv k hk)) hl (hhv k hk)) hl (hhv k hk)) hl (hhv k hk), h2⟩
  have both : ∀ k, k < c → ∃ k', k' < c ∧ swapF g a b k = g k' ∧ swapF h a b k = h k' ∧ swapF σ a b k = σ k' := fun k hk => by
    unfold swapF
    by_cases e1 : k = a
    · exact ⟨b, hb, by rw [if_pos e1], by rw [if_pos e1], by rw [if_pos e1]⟩
    · by_cases e2 : k = b
      · exact ⟨a, ha, by rw [if_neg e1, if_pos e2], by rw [if_neg e1, if_pos e2], by rw [if_neg e1, if_pos e2]⟩
      · exact ⟨k, hk, by rw [if_neg e1, if_neg e2], by rw [if_neg e1, if_neg e2], by rw [if_neg e1, if_neg e2]⟩
  refine ⟨?_, fun k hk => ?_, fun k hk => ?_, swapF_inj ha hb hm.gg, swapF_inj ha hb hm.hh, fun i j hi hj => ?_⟩
  · rw [← rowCells_swap n m c g h ha hb]
    exact (((hm.own.store _ _).store _ _).store _ _).store _ _
  · obtain ⟨k', hk', e1, _, e3⟩ := both k hk
    rw [e1, e3]; exact g1 k' hk'
  · obtain ⟨k', hk', _, e2, e3⟩ := both k hk
    rw [e2, e3]; exact h1 k' hk'
  · obtain ⟨i', hi', e1, _, _⟩ := both i hi
    obtain ⟨j', hj', _, e2, _⟩ := both j hj
    rw [e1, e2]; exact hm.gh i' j' hi' hj'
end Go.Proofs.Ytbclbcldplmppaa

/- math/bits: the number of bits of a word. -/
namespace Go.Proofs.Ytbclbcldplmppaa
open Go.RowKit

def lenT (v : Nat) : Nat := if v = 0 then 0 else Nat.log2 v + 1
def tabT : ByteArray := ⟨#[0, 1, 2, 2, 3, 3, 3, 3, 4, 4, 4, 4, 4, 4, 4, 4, 5, 5, 5, 5, 5, 5, 5, 5, 5, 5, 5, 5, 5, 5, 5, 5, 6, 6, 6, 6, 6, 6, 6, 6, 6, 6, 6, 6, 6, 6, 6, 6, 6, 6, 6, 6, 6, 6, 6, 6, 6, 6, 6, 6, 6, 6, 6, 6, 7, 7, 7, 7, 7, 7, 7, 7, 7, 7, 7, 7, 7, 7, 7, 7, 7, 7, 7, 7, 7, 7, 7, 7, 7, 7, 7, 7, 7, 7, 7, 7, 7, 7, 7, 7, 7, 7, 7, 7, 7, 7, 7, 7, 7, 7, 7, 7, 7, 7, 7, 7, 7, 7, 7, 7, 7, 7, 7, 7, 7, 7, 7, 7, 8, 8, 8, 8, 8, 8, 8, 8, 8, 8, 8, 8, 8, 8, 8, 8, 8, 8, 8, 8, 8, 8, 8, 8, 8, 8, 8, 8, 8, 8, 8, 8, 8, 8, 8, 8, 8, 8, 8, 8, 8, 8, 8, 8, 8, 8, 8, 8, 8, 8, 8, 8, 8, 8, 8, 8, 8, 8, 8, 8, 8, 8, 8, 8, 8, 8, 8, 8, 8, 8, 8, 8, 8, 8, 8, 8, 8, 8, 8, 8, 8, 8, 8, 8, 8, 8, 8, 8, 8, 8, 8, 8, 8, 8, 8, 8, 8, 8, 8, 8, 8, 8, 8, 8, 8, 8, 8, 8, 8, 8, 8, 8, 8, 8, 8, 8, 8, 8, 8, 8, 8, 8, 8, 8, 8, 8, 8, 8]⟩
set_option maxRecDepth 100000 in
theorem tabT_at : ∀ x : Fin 256, (tabT.data[x.val]'(x.isLt)).toNat = lenT x.val ∧ (1 ≤ x.val → 1 ≤ lenT x.val ∧ 2 ^ (lenT x.val - 1) ≤ x.val ∧ x.val < 2 ^ lenT x.val ∧ lenT x.val ≤ 8) := by decide +kernel

theorem wrap64_small {a : Int} (h0 : 0 ≤ a) (h : a ≤ 1000) : wrap64 a = a := by
  unfold wrap64
  omega

theorem len_back {x n v L : Nat} (hv : v = x / 2 ^ n) (h : 1 ≤ L ∧ 2 ^ (L - 1) ≤ v ∧ v < 2 ^ L) : 1 ≤ n + L ∧ 2 ^ (n + L - 1) ≤ x ∧ x < 2 ^ (n + L) := by
  subst hv
  obtain ⟨h1, h2, h3⟩ := h
  refine ⟨by omega, ?_, ?_⟩
  · rw [show n + L - 1 = (L - 1) + n by omega, Nat.pow_add]
    exact (Nat.le_div_iff_mul_le (Nat.two_pow_pos n)).1 h2
  · rw [Nat.add_comm, Nat.pow_add]
    exact (Nat.div_lt_iff_lt_mul (Nat.two_pow_pos n)).1 h3

theorem wrapT {t L n : Nat} {N : Int} (h : t = L) (hN : N = n) (hL : L ≤ 8) (hn : n ≤ 56) : wrap64 (N + wrap64 (t : Int)) = ((n + L : Nat) : Int) := by
  rw [wrap64_small (a := (t : Int)) (by omega) (by omega), wrap64_small (by omega) (by omega)]
  omega
theorem wrapT0 {t L : Nat} (h : t = L) (hL : L ≤ 8) : wrap64 (wrap64 (t : Int)) = ((0 + L : Nat) : Int) := by
  rw [wrap64_small (a := (t : Int)) (by omega) (by omega), wrap64_small (by omega) (by omega)]
  omega

set_option maxRecDepth 100000 in
set_option maxHeartbeats 4000000 in
theorem len64_any (x : Nat) (w : World) (hx : x < 18446744073709551616) (h1 : 1 ≤ x) :
    Calls Try.prog 115 #[.int .u64 x] w fun e w' => ∃ L : Nat, e = .returned (.int .i64 L) ∧ (1 ≤ L ∧ 2 ^ (L - 1) ≤ x ∧ x < 2 ^ L) ∧ w = w' := by
  by_cases c0 : x < 4294967296
  · have d0 : decide ((4294967296 : Int) ≤ ((x : Nat) : Int)) = false := by simp; omega
    by_cases c1 : x < 65536
    · have d1 : decide ((65536 : Int) ≤ ((x : Nat) : Int)) = false := by simp; omega
      by_cases c2 : x < 256
      · have d2 : decide ((256 : Int) ≤ ((x : Nat) : Int)) = false := by simp; omega
        have hv1 : 1 ≤ x := by omega
        obtain ⟨t1, t2⟩ := tabT_at ⟨x, c2⟩
        simp only at t1
        have t3 : 1 ≤ lenT x ∧ 2 ^ (lenT x - 1) ≤ x ∧ x < 2 ^ lenT x ∧ lenT x ≤ 8 := t2 hv1
        have T1 := Lib.hid t1
        have T3 := Lib.hid t3
        clear t1 t2 t3 hv1
        go_enter Try.func115, Try.ntmps115
        go_wp2
        go_ret
        refine ⟨0 + lenT x, ?_, ?_, rfl⟩
        · exact congrArg (fun z => Ending.returned (Value.int .i64 z)) (wrapT0 T1.out T3.out.2.2.2)
        · have t3 := T3.out
          have t4 : 1 ≤ lenT x ∧ 2 ^ (lenT x - 1) ≤ x ∧ x < 2 ^ lenT x := ⟨t3.1, t3.2.1, t3.2.2.1⟩
          rw [Nat.zero_add]
          exact t4
      · have d2 : decide ((256 : Int) ≤ ((x : Nat) : Int)) = true := by simp; omega
        obtain ⟨v, hv⟩ : ∃ v, v = x / 2 ^ 8 := ⟨_, rfl⟩
        have s2 : ((x : Nat) : Int) / 256 = (v : Int) := by rw [hv]; omega
        have b2 : 1 ≤ v ∧ v < 256 := by rw [hv]; omega
        have Hv := Lib.hid hv
        clear hv
        have c2 := b2.2
        have hv1 : 1 ≤ v := by omega
        obtain ⟨t1, t2⟩ := tabT_at ⟨v, c2⟩
        simp only at t1
        have t3 : 1 ≤ lenT v ∧ 2 ^ (lenT v - 1) ≤ v ∧ v < 2 ^ lenT v ∧ lenT v ≤ 8 := t2 hv1
        have T1 := Lib.hid t1
        have T3 := Lib.hid t3
        clear t1 t2 t3 hv1
        go_enter Try.func115, Try.ntmps115
        go_wp2
        go_ret
        refine ⟨8 + lenT v, ?_, ?_, rfl⟩
        · exact congrArg (fun z => Ending.returned (Value.int .i64 z)) (wrapT T1.out rfl T3.out.2.2.2 (by omega))
        · have t3 := T3.out
          have t4 : 1 ≤ lenT v ∧ 2 ^ (lenT v - 1) ≤ v ∧ v < 2 ^ lenT v := ⟨t3.1, t3.2.1, t3.2.2.1⟩
          have v_ := len_back (n := 8) Hv.out t4
          exact v_
    · have d1 : decide ((65536 : Int) ≤ ((x : Nat) : Int)) = true := by simp; omega
      obtain ⟨z, hz⟩ : ∃ z, z = x / 2 ^ 16 := ⟨_, rfl⟩
      have s1 : ((x : Nat) : Int) / 65536 = (z : Int) := by rw [hz]; omega
      have b1 : 1 ≤ z ∧ z < 65536 := by rw [hz]; omega
      have Hz := Lib.hid hz
      clear hz
      by_cases c2 : z < 256
      · have d2 : decide ((256 : Int) ≤ ((z : Nat) : Int)) = false := by simp; omega
        have hv1 : 1 ≤ z := by omega
        obtain ⟨t1, t2⟩ := tabT_at ⟨z, c2⟩
        simp only at t1
        have t3 : 1 ≤ lenT z ∧ 2 ^ (lenT z - 1) ≤ z ∧ z < 2 ^ lenT z ∧ lenT z ≤ 8 := t2 hv1
        have T1 := Lib.hid t1
        have T3 := Lib.hid t3
        clear t1 t2 t3 hv1
        go_enter Try.func115, Try.ntmps115
        go_wp2
        go_ret
        refine ⟨16 + lenT z, ?_, ?_, rfl⟩
        · exact congrArg (fun z => Ending.returned (Value.int .i64 z)) (wrapT T1.out rfl T3.out.2.2.2 (by omega))
        · have t3 := T3.out
          have t4 : 1 ≤ lenT z ∧ 2 ^ (lenT z - 1) ≤ z ∧ z < 2 ^ lenT z := ⟨t3.1, t3.2.1, t3.2.2.1⟩
          have z_ := len_back (n := 16) Hz.out t4
          exact z_
      · have d2 : decide ((256 : Int) ≤ ((z : Nat) : Int)) = true := by simp; omega
        obtain ⟨v, hv⟩ : ∃ v, v = z / 2 ^ 8 := ⟨_, rfl⟩
        have s2 : ((z : Nat) : Int) / 256 = (v : Int) := by rw [hv]; omega
        have b2 : 1 ≤ v ∧ v < 256 := by rw [hv]; omega
        have Hv := Lib.hid hv
        clear hv
        have c2 := b2.2
        have hv1 : 1 ≤ v := by omega
        obtain ⟨t1, t2⟩ := tabT_at ⟨v, c2⟩
        simp only at t1
        have t3 : 1 ≤ lenT v ∧ 2 ^ (lenT v - 1) ≤ v ∧ v < 2 ^ lenT v ∧ lenT v ≤ 8 := t2 hv1
        have T1 := Lib.hid t1
        have T3 := Lib.hid t3
        clear t1 t2 t3 hv1
        go_enter Try.func115, Try.ntmps115
        go_wp2
        go_ret
        refine ⟨24 + lenT v, ?_, ?_, rfl⟩
        · exact congrArg (fun z => Ending.returned (Value.int .i64 z)) (wrapT T1.out rfl T3.out.2.2.2 (by omega))
        · have t3 := T3.out
          have t4 : 1 ≤ lenT v ∧ 2 ^ (lenT v - 1) ≤ v ∧ v < 2 ^ lenT v := ⟨t3.1, t3.2.1, t3.2.2.1⟩
          have v_ := len_back (n := 8) Hv.out t4
          have z_ := len_back (n := 16) Hz.out v_
          have ee : 24 + lenT v = 16 + (8 + (lenT v)) := by omega
          rw [ee]
          exact z_
  · have d0 : decide ((4294967296 : Int) ≤ ((x : Nat) : Int)) = true := by simp; omega
    obtain ⟨y, hy⟩ : ∃ y, y = x / 2 ^ 32 := ⟨_, rfl⟩
    have s0 : ((x : Nat) : Int) / 4294967296 = (y : Int) := by rw [hy]; omega
    have b0 : 1 ≤ y ∧ y < 4294967296 := by rw [hy]; omega
    have Hy := Lib.hid hy
    clear hy
    by_cases c1 : y < 65536
    · have d1 : decide ((65536 : Int) ≤ ((y : Nat) : Int)) = false := by simp; omega
      by_cases c2 : y < 256
      · have d2 : decide ((256 : Int) ≤ ((y : Nat) : Int)) = false := by simp; omega
        have hv1 : 1 ≤ y := by omega
        obtain ⟨t1, t2⟩ := tabT_at ⟨y, c2⟩
        simp only at t1
        have t3 : 1 ≤ lenT y ∧ 2 ^ (lenT y - 1) ≤ y ∧ y < 2 ^ lenT y ∧ lenT y ≤ 8 := t2 hv1
        have T1 := Lib.hid t1
        have T3 := Lib.hid t3
        clear t1 t2 t3 hv1
        go_enter Try.func115, Try.ntmps115
        go_wp2
        go_ret
        refine ⟨32 + lenT y, ?_, ?_, rfl⟩
        · exact congrArg (fun z => Ending.returned (Value.int .i64 z)) (wrapT T1.out rfl T3.out.2.2.2 (by omega))
        · have t3 := T3.out
          have t4 : 1 ≤ lenT y ∧ 2 ^ (lenT y - 1) ≤ y ∧ y < 2 ^ lenT y := ⟨t3.1, t3.2.1, t3.2.2.1⟩
          have y_ := len_back (n := 32) Hy.out t4
          exact y_
      · have d2 : decide ((256 : Int) ≤ ((y : Nat) : Int)) = true := by simp; omega
        obtain ⟨v, hv⟩ : ∃ v, v = y / 2 ^ 8 := ⟨_, rfl⟩
        have s2 : ((y : Nat) : Int) / 256 = (v : Int) := by rw [hv]; omega
        have b2 : 1 ≤ v ∧ v < 256 := by rw [hv]; omega
        have Hv := Lib.hid hv
        clear hv
        have c2 := b2.2
        have hv1 : 1 ≤ v := by omega
        obtain ⟨t1, t2⟩ := tabT_at ⟨v, c2⟩
        simp only at t1
        have t3 : 1 ≤ lenT v ∧ 2 ^ (lenT v - 1) ≤ v ∧ v < 2 ^ lenT v ∧ lenT v ≤ 8 := t2 hv1
        have T1 := Lib.hid t1
        have T3 := Lib.hid t3
        clear t1 t2 t3 hv1
        go_enter Try.func115, Try.ntmps115
        go_wp2
        go_ret
        refine ⟨40 + lenT v, ?_, ?_, rfl⟩
        · exact congrArg (fun z => Ending.returned (Value.int .i64 z)) (wrapT T1.out rfl T3.out.2.2.2 (by omega))
        · have t3 := T3.out
          have t4 : 1 ≤ lenT v ∧ 2 ^ (lenT v - 1) ≤ v ∧ v < 2 ^ lenT v := ⟨t3.1, t3.2.1, t3.2.2.1⟩
          have v_ := len_back (n := 8) Hv.out t4
          have y_ := len_back (n := 32) Hy.out v_
          have ee : 40 + lenT v = 32 + (8 + (lenT v)) := by omega
          rw [ee]
          exact y_
    · have d1 : decide ((65536 : Int) ≤ ((y : Nat) : Int)) = true := by simp; omega
      obtain ⟨z, hz⟩ : ∃ z, z = y / 2 ^ 16 := ⟨_, rfl⟩
      have s1 : ((y : Nat) : Int) / 65536 = (z : Int) := by rw [hz]; omega
      have b1 : 1 ≤ z ∧ z < 65536 := by rw [hz]; omega
      have Hz := Lib.hid hz
      clear hz
      by_cases c2 : z < 256
      · have d2 : decide ((256 : Int) ≤ ((z : Nat) : Int)) = false := by simp; omega
        have hv1 : 1 ≤ z := by omega
        obtain ⟨t1, t2⟩ := tabT_at ⟨z, c2⟩
        simp only at t1
        have t3 : 1 ≤ lenT z ∧ 2 ^ (lenT z - 1) ≤ z ∧ z < 2 ^ lenT z ∧ lenT z ≤ 8 := t2 hv1
        have T1 := Lib.hid t1
        have T3 := Lib.hid t3
        clear t1 t2 t3 hv1
        go_enter Try.func115, Try.ntmps115
        go_wp2
        go_ret
        refine ⟨48 + lenT z, ?_, ?_, rfl⟩
        · exact congrArg (fun z => Ending.returned (Value.int .i64 z)) (wrapT T1.out rfl T3.out.2.2.2 (by omega))
        · have t3 := T3.out
          have t4 : 1 ≤ lenT z ∧ 2 ^ (lenT z - 1) ≤ z ∧ z < 2 ^ lenT z := ⟨t3.1, t3.2.1, t3.2.2.1⟩
          have z_ := len_back (n := 16) Hz.out t4
          have y_ := len_back (n := 32) Hy.out z_
          have ee : 48 + lenT z = 32 + (16 + (lenT z)) := by omega
          rw [ee]
          exact y_
      · have d2 : decide ((256 : Int) ≤ ((z : Nat) : Int)) = true := by simp; omega
        obtain ⟨v, hv⟩ : ∃ v, v = z / 2 ^ 8 := ⟨_, rfl⟩
        have s2 : ((z : Nat) : Int) / 256 = (v : Int) := by rw [hv]; omega
        have b2 : 1 ≤ v ∧ v < 256 := by rw [hv]; omega
        have Hv := Lib.hid hv
        clear hv
        have c2 := b2.2
        have hv1 : 1 ≤ v := by omega
        obtain ⟨t1, t2⟩ := tabT_at ⟨v, c2⟩
        simp only at t1
        have t3 : 1 ≤ lenT v ∧ 2 ^ (lenT v - 1) ≤ v ∧ v < 2 ^ lenT v ∧ lenT v ≤ 8 := t2 hv1
        have T1 := Lib.hid t1
        have T3 := Lib.hid t3
        clear t1 t2 t3 hv1
        go_enter Try.func115, Try.ntmps115
        go_wp2
        go_ret
        refine ⟨56 + lenT v, ?_, ?_, rfl⟩
        · exact congrArg (fun z => Ending.returned (Value.int .i64 z)) (wrapT T1.out rfl T3.out.2.2.2 (by omega))
        · have t3 := T3.out
          have t4 : 1 ≤ lenT v ∧ 2 ^ (lenT v - 1) ≤ v ∧ v < 2 ^ lenT v := ⟨t3.1, t3.2.1, t3.2.2.1⟩
          have v_ := len_back (n := 8) Hv.out t4
          have z_ := len_back (n := 16) Hz.out v_
          have y_ := len_back (n := 32) Hy.out z_
          have ee : 56 + lenT v = 32 + (16 + (8 + (lenT v))) := by omega
          rw [ee]
          exact y_
end Go.Proofs.Ytbclbcldplmppaa

/- math/bits: the product of two words, and the number of leading zeros. -/
namespace Go.Proofs.Ytbclbcldplmppaa
open Go.RowKit

theorem maskN_ (a : Nat) (ha : a < 18446744073709551616) : bits .and .u64 (a : Int) 4294967295 = ((a % 4294967296 : Nat) : Int) := by
  have h := bits_and_u64_nat a 4294967295 ha (by omega)
  have e : a &&& 4294967295 = a % 4294967296 := Nat.and_two_pow_sub_one_eq_mod a 32
  rw [e] at h
  exact h
theorem divN_ (a : Nat) : (a : Int) / 4294967296 = ((a / 4294967296 : Nat) : Int) := by omega
theorem mulN_ (a b : Nat) : (a : Int) * (b : Int) = ((a * b : Nat) : Int) := (Int.natCast_mul a b).symm
theorem addN_ (a b : Nat) : (a : Int) + (b : Int) = ((a + b : Nat) : Int) := (Int.natCast_add a b).symm
theorem wrapN_ (a : Nat) (ha : a < 18446744073709551616) : IntKind.u64.wrap (a : Int) = (a : Int) := by rw [IntKind.wrap_u64]; omega
theorem wrapM_ (a : Nat) : IntKind.u64.wrap (a : Int) = ((a % 18446744073709551616 : Nat) : Int) := by rw [IntKind.wrap_u64]; omega

set_option maxHeartbeats 1000000 in
theorem mul64_any (x y : Nat) (hx : x < 18446744073709551616) (hy : y < 18446744073709551616) (w : World) :
    Calls Try.prog 113 #[.int .u64 x, .int .u64 y] w fun e w' => e = .returned (.tuple #[.int .u64 ((x * y / 18446744073709551616 : Nat) : Int), .int .u64 ((x * y % 18446744073709551616 : Nat) : Int)]) ∧ w = w' := by
  obtain ⟨bd, bt, bw, hhi⟩ := Lib.mul64_hi x y hx hy
  have ba := Lib.half_mul_le (a := x / 4294967296) (b := y / 4294967296) (by omega) (by omega)
  have bb := Lib.half_mul_le (a := x / 4294967296) (b := y % 4294967296) (by omega) (by omega)
  have bc := Lib.half_mul_le (a := x % 4294967296) (b := y / 4294967296) (by omega) (by omega)
  have ba' : x / 4294967296 * (y / 4294967296) < 18446744073709551616 := by omega
  have bb' : x / 4294967296 * (y % 4294967296) < 18446744073709551616 := by omega
  have bc' : x % 4294967296 * (y / 4294967296) < 18446744073709551616 := by omega
  have bh1 : x / 4294967296 * (y / 4294967296) + (x / 4294967296 * (y % 4294967296) + x % 4294967296 * (y % 4294967296) / 4294967296) / 4294967296 < 18446744073709551616 := by omega
  have bh : x / 4294967296 * (y / 4294967296) + (x / 4294967296 * (y % 4294967296) + x % 4294967296 * (y % 4294967296) / 4294967296) / 4294967296 + ((x / 4294967296 * (y % 4294967296) + x % 4294967296 * (y % 4294967296) / 4294967296) % 4294967296 + x % 4294967296 * (y / 4294967296)) / 4294967296 < 18446744073709551616 := by omega
  go_enter Try.func113, Try.ntmps113
  go_wp2
  simp only [maskN_ x hx, maskN_ y hy, divN_, mulN_, addN_, wrapN_ _ bd, wrapN_ _ bb', wrapN_ _ bt, maskN_ _ bt, wrapN_ _ bc', wrapN_ _ bw, wrapN_ _ ba', wrapN_ _ bh1, wrapN_ _ bh, wrapM_ (x * y)]
  rw [hhi]
  go_ret2
  exact ⟨rfl, rfl⟩

theorem lead_any (x : Nat) (w : World) (hx : x < 18446744073709551616) (h1 : 1 ≤ x) :
    Calls Try.prog 114 #[.int .u64 x] w fun e w' => ∃ s : Nat, e = .returned (.int .i64 s) ∧ (s ≤ 63 ∧ 9223372036854775808 ≤ x * 2 ^ s ∧ x * 2 ^ s < 18446744073709551616) ∧ w = w' := by
  have cl := len64_any x w hx h1
  go_enter Try.func114, Try.ntmps114
  go_wp2_with (go_at_call 115; refine cl.mono ?_; rintro e w' ⟨L, rfl, hL, rfl⟩)
  go_ret
  obtain ⟨h2, h3, h4⟩ := hL
  have hL64 : L ≤ 64 := by
    rcases Nat.lt_or_ge 64 L with h | h
    · have := Nat.pow_le_pow_right (n := 2) (by omega) (show 64 ≤ L - 1 by omega)
      omega
    · exact h
  refine ⟨64 - L, ?_, ⟨by omega, ?_, ?_⟩, rfl⟩
  · refine congrArg (fun z => Ending.returned (Value.int .i64 z)) ?_
    first
      | (rw [IntKind.wrap_i64]; omega)
      | (unfold wrap64; omega)
  · have e : (9223372036854775808 : Nat) = 2 ^ (L - 1) * 2 ^ (64 - L) := by rw [← Nat.pow_add, show L - 1 + (64 - L) = 63 by omega]
    rw [e]
    exact Nat.mul_le_mul_right _ h3
  · have e : (18446744073709551616 : Nat) = 2 ^ L * 2 ^ (64 - L) := by rw [← Nat.pow_add, show L + (64 - L) = 64 by omega]
    rw [e]
    exact Nat.mul_lt_mul_of_pos_right h4 (Nat.two_pow_pos _)
end Go.Proofs.Ytbclbcldplmppaa

/- The arithmetic of a division of two words by one, digit by digit. Plain Lean. -/
namespace Go.Proofs.Ytbclbcldplmppaa
open Go.RowKit

/-- A digit that is too great by little, and what it leaves. -/
structure Dig (Y1 Y0 u u1 q r : Nat) : Prop where
  sum : q * Y1 + r = u
  up : u * 4294967296 + u1 < (q + 1) * (Y1 * 4294967296 + Y0)

section
variable {Y1 Y0 u u1 q r : Nat}
theorem mul_y (q Y1 Y0 : Nat) : q * (Y1 * 4294967296 + Y0) = q * Y1 * 4294967296 + q * Y0 := by rw [Nat.mul_add, Nat.mul_assoc]
theorem Dig.start (h1 : 1 ≤ Y1) (hu1 : u1 < 4294967296) : Dig Y1 Y0 u u1 (u / Y1) (u % Y1) := by
  have h := Nat.div_add_mod u Y1
  have hr := Nat.mod_lt u (show 0 < Y1 by omega)
  rw [Nat.mul_comm] at h
  refine ⟨h, ?_⟩
  rw [mul_y, Nat.add_mul, Nat.one_mul, Nat.add_mul, Nat.add_mul, Nat.one_mul]
  generalize u / Y1 * Y1 = a at *
  generalize u / Y1 * Y0 = b at *
  omega
theorem Dig.exit (h : Dig Y1 Y0 u u1 q r) (hb : q * Y0 ≤ 4294967296 * r + u1) : (u * 4294967296 + u1) / (Y1 * 4294967296 + Y0) = q := by
  obtain ⟨hs, hu⟩ := h
  refine Nat.div_eq_of_lt_le ?_ hu
  rw [mul_y]
  generalize q * Y1 = a at *
  generalize q * Y0 = b at *
  omega
theorem Dig.pos (hb : 4294967296 ≤ q ∨ 4294967296 * r + u1 < q * Y0) : 1 ≤ q := by
  rcases hb with h | h
  · omega
  · rcases Nat.eq_zero_or_pos q with e | e
    · subst e; omega
    · exact e
theorem Dig.dec (h : Dig Y1 Y0 u u1 q r) (hu : u < Y1 * 4294967296 + Y0) (hu1 : u1 < 4294967296) (hb : 4294967296 ≤ q ∨ 4294967296 * r + u1 < q * Y0) : Dig Y1 Y0 u u1 (q - 1) (r + Y1) := by
  have hp := Dig.pos hb
  obtain ⟨q', rfl⟩ : ∃ q', q = q' + 1 := ⟨q - 1, by omega⟩
  obtain ⟨hs, _⟩ := h
  simp only [Nat.add_sub_cancel]
  refine ⟨by rw [Nat.add_mul, Nat.one_mul] at hs; generalize q' * Y1 = a at *; omega, ?_⟩
  rcases hb with h | h
  · have := Nat.mul_le_mul_right (Y1 * 4294967296 + Y0) h
    omega
  · rw [mul_y]
    generalize (q' + 1) * Y1 = a at *
    generalize (q' + 1) * Y0 = b at *
    omega
theorem Dig.brk (h : Dig Y1 Y0 u u1 q r) (hu : u < Y1 * 4294967296 + Y0) (h0 : Y0 < 4294967296) (hr : 4294967296 ≤ r) : q < 4294967296 ∧ q * Y0 ≤ 4294967296 * r + u1 := by
  have hq : q < 4294967296 := by
    rcases Nat.lt_or_ge q 4294967296 with h1 | h1
    · exact h1
    · have := Nat.mul_le_mul_right Y1 h1
      obtain ⟨hs, _⟩ := h
      generalize q * Y1 = a at *
      omega
  refine ⟨hq, ?_⟩
  have h1 : q * Y0 ≤ 4294967296 * 4294967296 := Nat.mul_le_mul (by omega) (by omega)
  have h2 : 4294967296 * 4294967296 ≤ 4294967296 * r := Nat.mul_le_mul_left _ hr
  omega
theorem Dig.le (h : Dig Y1 Y0 u u1 q r) (hu : u < Y1 * 4294967296 + Y0) (h0 : Y0 < 4294967296) (h1 : 2147483648 ≤ Y1) : q ≤ 4294967297 := by
  rcases Nat.lt_or_ge 4294967297 q with h2 | h2
  · have := Nat.mul_le_mul_right Y1 h2
    obtain ⟨hs, _⟩ := h
    generalize q * Y1 = a at *
    omega
  · exact h2
theorem Dig.small (h : Dig Y1 Y0 u u1 q r) (hu : u < Y1 * 4294967296 + Y0) (h0 : Y0 < 4294967296) (hq : 4294967296 ≤ q) : r < 4294967296 := by
  have := Nat.mul_le_mul_right Y1 hq
  obtain ⟨hs, _⟩ := h
  generalize q * Y1 = a at *
  omega
theorem digit_lt (hu : u < Y1 * 4294967296 + Y0) (hu1 : u1 < 4294967296) : (u * 4294967296 + u1) / (Y1 * 4294967296 + Y0) < 4294967296 := by
  rw [Nat.div_lt_iff_lt_mul (by omega)]
  omega
end

/-- What the first digit leaves. -/
theorem div_second {U Y T1 q : Nat} (hU : U < Y) (hY : Y < 18446744073709551616) (_hT : T1 < 4294967296) (hq : (U * 4294967296 + T1) / Y = q) :
    ∃ U2 : Nat, IntKind.u64.wrap (IntKind.u64.wrap (IntKind.u64.wrap ((U : Int) * 4294967296) + (T1 : Int)) - IntKind.u64.wrap ((q : Int) * (Y : Int))) = (U2 : Int) ∧ U2 < Y ∧ q * Y + U2 = U * 4294967296 + T1 := by
  have h := Nat.div_add_mod (U * 4294967296 + T1) Y
  have hr := Nat.mod_lt (U * 4294967296 + T1) (show 0 < Y by omega)
  rw [hq, Nat.mul_comm] at h
  refine ⟨(U * 4294967296 + T1) % Y, ?_, hr, h⟩
  rw [mulN_]
  generalize (U * 4294967296 + T1) % Y = R at *
  generalize q * Y = P at *
  simp only [IntKind.wrap_u64]
  omega

/-- The two digits together. -/
theorem div_both {U Y T1 T0 q q0 U2 : Nat} (hU : U < Y) (hY : Y < 18446744073709551616) (hT : T1 < 4294967296) (hT0 : T0 < 4294967296) (h1 : q * Y + U2 = U * 4294967296 + T1) (h2 : U2 < Y) (hq0 : (U2 * 4294967296 + T0) / Y = q0) {N : Nat} (hN : N = (U * 18446744073709551616 + (T1 * 4294967296 + T0)) / Y) :
    IntKind.u64.wrap (IntKind.u64.wrap ((q : Int) * 4294967296) + (q0 : Int)) = (N : Int) := by
  have e : U * 18446744073709551616 + (T1 * 4294967296 + T0) = (U2 * 4294967296 + T0) + q * 4294967296 * Y := by
    rw [Nat.mul_right_comm]
    generalize q * Y = P at *
    omega
  rw [e, Nat.add_mul_div_right _ _ (by omega), hq0] at hN
  have hq : q < 4294967296 := by
    rcases Nat.lt_or_ge q 4294967296 with h | h
    · exact h
    · have := Nat.mul_le_mul_right Y h
      generalize q * Y = P at *
      omega
  have hq1 : q0 < 4294967296 := by
    rw [← hq0, Nat.div_lt_iff_lt_mul (by omega)]
    omega
  subst hN
  rw [IntKind.wrap_u64, IntKind.wrap_u64]
  omega

/-- The numbers of the division, as the words hold them. -/
theorem div_setup (hi lo y s : Nat) (hy : hi < y) (hlo : lo < 18446744073709551616) (hs : s ≤ 63) (hs2 : 9223372036854775808 ≤ y * 2 ^ s) (hs3 : y * 2 ^ s < 18446744073709551616) :
    ∃ Y Y1 Y0 U T T1 T0 : Nat, IntKind.u64.wrap ((y : Int) * 2 ^ s) = (Y : Int) ∧ (Y : Int) / 4294967296 = (Y1 : Int) ∧ bits .and .u64 (Y : Int) 4294967295 = (Y0 : Int) ∧
      bits .or .u64 (IntKind.u64.wrap ((hi : Int) * 2 ^ s)) ((lo : Int) / 2 ^ (64 - s)) = (U : Int) ∧ IntKind.u64.wrap ((lo : Int) * 2 ^ s) = (T : Int) ∧ (T : Int) / 4294967296 = (T1 : Int) ∧ bits .and .u64 (T : Int) 4294967295 = (T0 : Int) ∧
      Y = Y1 * 4294967296 + Y0 ∧ Y0 < 4294967296 ∧ 2147483648 ≤ Y1 ∧ Y1 < 4294967296 ∧ U < Y ∧ T1 < 4294967296 ∧ T0 < 4294967296 ∧
      (hi * 18446744073709551616 + lo) / y = (U * 18446744073709551616 + (T1 * 4294967296 + T0)) / Y := by
  have hp : 0 < 2 ^ s := Nat.two_pow_pos s
  have e64 : (18446744073709551616 : Nat) = 2 ^ (64 - s) * 2 ^ s := by rw [← Nat.pow_add, show 64 - s + s = 64 by omega]
  have hc : ∀ a : Nat, ((a : Int) * 2 ^ s) = ((a * 2 ^ s : Nat) : Int) := fun a => by rw [Int.natCast_mul, Int.natCast_pow]; rfl
  have hhi : (hi + 1) * 2 ^ s ≤ y * 2 ^ s := Nat.mul_le_mul_right _ hy
  rw [Nat.add_mul, Nat.one_mul] at hhi
  have hC : lo / 2 ^ (64 - s) < 2 ^ s := by
    rw [Nat.div_lt_iff_lt_mul (Nat.two_pow_pos _), Nat.mul_comm, ← e64]; exact hlo
  have hdiv : lo * 2 ^ s / 18446744073709551616 = lo / 2 ^ (64 - s) := by
    rw [e64]; exact Nat.mul_div_mul_right _ _ hp
  have hor : (hi * 2 ^ s) ||| (lo / 2 ^ (64 - s)) = hi * 2 ^ s + lo / 2 ^ (64 - s) := by
    have := Nat.shiftLeft_add_eq_or_of_lt hC hi
    rw [Nat.shiftLeft_eq] at this
    exact this.symm
  refine ⟨y * 2 ^ s, y * 2 ^ s / 4294967296, y * 2 ^ s % 4294967296, hi * 2 ^ s + lo / 2 ^ (64 - s), lo * 2 ^ s % 18446744073709551616, lo * 2 ^ s % 18446744073709551616 / 4294967296, lo * 2 ^ s % 18446744073709551616 % 4294967296, ?_, ?_, ?_, ?_, ?_, ?_, ?_, ?_, ?_, ?_, ?_, ?_, ?_, ?_, ?_⟩
  · rw [hc, wrapN_ _ hs3]
  · rw [divN_]
  · rw [maskN_ _ hs3]
  · have h1 : ((lo : Int) / 2 ^ (64 - s)) = ((lo / 2 ^ (64 - s) : Nat) : Int) := by
      rw [Int.natCast_ediv, Int.natCast_pow]; rfl
    rw [hc, wrapN_ _ (by omega), h1, ← hor]
    exact bits_or_u64_nat _ _ (by omega) (by omega)
  · rw [hc, wrapM_]
  · rw [divN_]
  · rw [maskN_ _ (Nat.mod_lt _ (by omega))]
  · omega
  · exact Nat.mod_lt _ (by omega)
  · omega
  · omega
  · omega
  · omega
  · exact Nat.mod_lt _ (by omega)
  · have e1 : (hi * 18446744073709551616 + lo) * 2 ^ s = (hi * 2 ^ s + lo / 2 ^ (64 - s)) * 18446744073709551616 + (lo * 2 ^ s % 18446744073709551616 / 4294967296 * 4294967296 + lo * 2 ^ s % 18446744073709551616 % 4294967296) := by
      rw [Nat.add_mul, Nat.mul_right_comm, ← hdiv]
      generalize hi * 2 ^ s = a
      generalize lo * 2 ^ s = b
      omega
    rw [← e1]
    exact (Nat.mul_div_mul_right _ _ hp).symm
end Go.Proofs.Ytbclbcldplmppaa

/- math/bits: the quotient of two words by one. -/
namespace Go.Proofs.Ytbclbcldplmppaa
open Go.RowKit

def DivRes (N : Nat) (w : World) (e : Ending) (w' : World) : Prop := ∃ r : Value, e = .returned (.tuple #[.int .u64 (N : Int), r]) ∧ w = w'

theorem div_first (U Y1 Y0 u1 : Nat) (h1 : 1 ≤ Y1) (h2 : Y1 < 4294967296) (hu1 : u1 < 4294967296) (hU : U < 18446744073709551616) :
    ∃ D P R : Nat, IntKind.u64.wrap ((U : Int).tdiv (Y1 : Int)) = (D : Int) ∧ IntKind.u64.wrap ((U : Int) / (Y1 : Int)) = (D : Int) ∧ IntKind.u64.wrap ((D : Int) * (Y1 : Int)) = (P : Int) ∧ IntKind.u64.wrap ((U : Int) - (P : Int)) = (R : Int) ∧
      (Dig Y1 Y0 U u1 D R ∧ R < 4294967296) := by
  have hd := Nat.div_le_self U Y1
  have h := Nat.div_add_mod U Y1
  rw [Nat.mul_comm] at h
  have hr := Nat.mod_lt U (show 0 < Y1 by omega)
  refine ⟨U / Y1, U / Y1 * Y1, U % Y1, ?_, ?_, ?_, ?_, Dig.start h1 hu1, by omega⟩
  · rw [Int.ofNat_tdiv]; exact wrapN_ _ (by omega)
  · rw [← Int.natCast_ediv]; exact wrapN_ _ (by omega)
  · rw [mulN_]; exact wrapN_ _ (by omega)
  · rw [IntKind.wrap_u64]; omega

set_option maxRecDepth 100000 in
set_option maxHeartbeats 4000000 in
theorem div64_hi (hi lo y : Nat) (w : World) (h0 : 1 ≤ hi) (hy : hi < y) (hy2 : y < 18446744073709551616) (hlo : lo < 18446744073709551616) :
    Calls Try.prog 109 #[.int .u64 hi, .int .u64 lo, .int .u64 y] w (DivRes ((hi * 18446744073709551616 + lo) / y) w) := by
  obtain ⟨N, hN⟩ : ∃ N, N = (hi * 18446744073709551616 + lo) / y := ⟨_, rfl⟩
  rw [← hN]
  have HN := Lib.hid hN
  clear hN
  have cl := lead_any y w hy2 (by omega)
  have b1 : ((y : Int) == 0) = false := by simp; omega
  have b2 : decide ((y : Int) ≤ (hi : Int)) = false := by simp; omega
  have b3 : ((hi : Int) == 0) = false := by simp; omega
  go_enter Try.func109, Try.ntmps109
  go_wp2_with (go_at_call 114; refine cl.mono ?_; rintro e w' ⟨s, rfl, ⟨hs1, hs2, hs3⟩, rfl⟩; obtain ⟨Y, Y1, Y0, U, T, T1, T0, f1, f2, f3, f4, f5, f6, f7, g1, g2, g3, g4, g5, g6, g7, gq⟩ := div_setup hi lo y s hy hlo hs1 hs2 hs3; have G1 := Lib.hid g1; have Gq := Lib.hid gq; clear g1 gq; obtain ⟨D, P, R, e1, e2, e3, e4, hdig⟩ := div_first U Y1 Y0 T1 (by omega) g4 g6 (by have := G1.out; omega); have Hdig := Lib.hid hdig; clear hdig; have e5 : ¬ ((Y1 : Int) = 0) := (by omega))
  clear f1 f2 f3 f4 f5 f6 f7 b1 b2 b3 e1 e2 e3 e4 e5 cl
  go_loop [15, 16] (fun a b => ∃ q r : Nat, a = .int .u64 q ∧ b = .int .u64 r ∧ r < 4294967296 ∧ q ≤ 4294967297 ∧ Dig Y1 Y0 U T1 q r) (fun a _ => (intOf a).toNat)
  case atStart => exact ⟨D, R, rfl, rfl, Hdig.out.2, Hdig.out.1.le (by have := G1.out; omega) g2 g3, Hdig.out.1⟩
  case round =>
    obtain ⟨q, r, rfl, rfl, hr, hq, hd⟩ := hrel
    have hUY : U < Y1 * 4294967296 + Y0 := by have := G1.out; omega
    by_cases hBq : 4294967296 ≤ q
    · have d1 : decide ((4294967296 : Int) ≤ (q : Int)) = true := by simp; omega
      have hdec := hd.dec hUY g6 (.inl hBq)
      have e1 : IntKind.u64.wrap ((q : Int) - 1) = ((q - 1 : Nat) : Int) := by rw [IntKind.wrap_u64]; omega
      have e2 : IntKind.u64.wrap ((r : Int) + (Y1 : Int)) = ((r + Y1 : Nat) : Int) := by rw [IntKind.wrap_u64]; omega
      have Hd := Lib.hid hdec
      clear hd hdec
      generalize hq1 : q - 1 = q1 at *
      generalize r + Y1 = r1 at *
      by_cases hr1 : 4294967296 ≤ r1
      · have d2 : decide ((4294967296 : Int) ≤ (r1 : Int)) = true := by simp; omega
        have hbk := Hd.out.brk hUY g2 hr1
        have hexit := Hd.out.exit hbk.2
        clear hbk
        have Hexit := Lib.hid hexit
        clear hexit
        have hY64 : Y < 18446744073709551616 := by have := G1.out; omega
        obtain ⟨U2, s1, s2, s3⟩ := div_second (q := q1) g5 hY64 g6 (by rw [G1.out]; exact Hexit.out)
        obtain ⟨D2, P5, R2, k1, k2, k3, k4, hdig2⟩ := div_first U2 Y1 Y0 T0 (by omega) g4 g7 (by omega)
        have Hdig2 := Lib.hid hdig2
        have S3 := Lib.hid s3
        have k5 : ¬ ((Y1 : Int) = 0) := by omega
        clear hdig2 s3
        go_wp2
        clear s1 k1 k2 k3 k4 k5
        clear d1 e1 e2 d2 Hd hBq
        go_loop [18, 16] (fun a b => ∃ x z : Nat, a = .int .u64 x ∧ b = .int .u64 z ∧ z < 4294967296 ∧ x ≤ 4294967297 ∧ Dig Y1 Y0 U2 T0 x z) (fun a _ => (intOf a).toNat)
        case atStart => exact ⟨D2, R2, rfl, rfl, Hdig2.out.2, Hdig2.out.1.le (by have := G1.out; omega) g2 g3, Hdig2.out.1⟩
        case round =>
          obtain ⟨x, z, rfl, rfl, hz, hx, hd⟩ := hrel
          have hUY2 : U2 < Y1 * 4294967296 + Y0 := by have := G1.out; omega
          by_cases hBx : 4294967296 ≤ x
          · have d1 : decide ((4294967296 : Int) ≤ (x : Int)) = true := by simp; omega
            have hdec := hd.dec hUY2 g7 (.inl hBx)
            have e1 : IntKind.u64.wrap ((x : Int) - 1) = ((x - 1 : Nat) : Int) := by rw [IntKind.wrap_u64]; omega
            have e2 : IntKind.u64.wrap ((z : Int) + (Y1 : Int)) = ((z + Y1 : Nat) : Int) := by rw [IntKind.wrap_u64]; omega
            have Hd := Lib.hid hdec
            clear hd hdec
            generalize hx1 : x - 1 = x1 at *
            generalize z + Y1 = z1 at *
            by_cases hz1 : 4294967296 ≤ z1
            · have d2 : decide ((4294967296 : Int) ≤ (z1 : Int)) = true := by simp; omega
              have hbk := Hd.out.brk hUY2 g2 hz1
              have hexit := Hd.out.exit hbk.2
              clear hbk
              have hfin := div_both (q0 := x1) g5 hY64 g6 g7 S3.out s2 (by rw [G1.out]; exact hexit) (HN.out.trans Gq.out)
              clear hexit
              go_wp2
              go_ret2
              exact ⟨_, rfl, rfl⟩
            · have d2 : decide ((4294967296 : Int) ≤ (z1 : Int)) = false := by simp; omega
              go_wp2
              go_round
              case rel => exact ⟨x1, z1, rfl, rfl, by omega, by omega, Hd.out⟩
              case measure => simp [intOf]; omega
          · have d1 : decide ((4294967296 : Int) ≤ (x : Int)) = false := by simp; omega
            have hP : x * Y0 < 18446744073709551616 := by
              have : x * Y0 ≤ 4294967295 * 4294967295 := Nat.mul_le_mul (by omega) (by omega)
              omega
            have e1 : IntKind.u64.wrap ((x : Int) * (Y0 : Int)) = ((x * Y0 : Nat) : Int) := by rw [mulN_]; exact wrapN_ _ hP
            have e2 : IntKind.u64.wrap ((4294967296 : Int) * (z : Int)) = ((4294967296 * z : Nat) : Int) := by rw [IntKind.wrap_u64]; omega
            have e3 : IntKind.u64.wrap (((4294967296 * z : Nat) : Int) + (T0 : Int)) = ((4294967296 * z + T0 : Nat) : Int) := by rw [IntKind.wrap_u64]; omega
            by_cases ht : 4294967296 * z + T0 < x * Y0
            · have hpos := Dig.pos (.inr ht)
              have hdec := hd.dec hUY2 g7 (.inr ht)
              have e4 : IntKind.u64.wrap ((x : Int) - 1) = ((x - 1 : Nat) : Int) := by rw [IntKind.wrap_u64]; omega
              have e5 : IntKind.u64.wrap ((z : Int) + (Y1 : Int)) = ((z + Y1 : Nat) : Int) := by rw [IntKind.wrap_u64]; omega
              have Hd := Lib.hid hdec
              clear hd hdec
              generalize hx1 : x - 1 = x1 at *
              generalize z + Y1 = z1 at *
              generalize x * Y0 = P2 at *
              generalize 4294967296 * z + T0 = P3 at *
              generalize 4294967296 * z = P4 at *
              by_cases hz1 : 4294967296 ≤ z1
              · have d2 : decide ((4294967296 : Int) ≤ (z1 : Int)) = true := by simp; omega
                have hbk := Hd.out.brk hUY2 g2 hz1
                have hexit := Hd.out.exit hbk.2
                clear hbk
                have hfin := div_both (q0 := x1) g5 hY64 g6 g7 S3.out s2 (by rw [G1.out]; exact hexit) (HN.out.trans Gq.out)
                clear hexit
                go_wp2
                go_ret2
                exact ⟨_, rfl, rfl⟩
              · have d2 : decide ((4294967296 : Int) ≤ (z1 : Int)) = false := by simp; omega
                go_wp2
                go_round
                case rel => exact ⟨x1, z1, rfl, rfl, by omega, by omega, Hd.out⟩
                case measure => simp [intOf]; omega
            · have hexit := hd.exit (by omega)
              clear hd
              generalize x * Y0 = P2 at *
              generalize 4294967296 * z + T0 = P3 at *
              generalize 4294967296 * z = P4 at *
              have hfin := div_both (q0 := x) g5 hY64 g6 g7 S3.out s2 (by rw [G1.out]; exact hexit) (HN.out.trans Gq.out)
              clear hexit
              go_wp2
              go_ret2
              exact ⟨_, rfl, rfl⟩
      · have d2 : decide ((4294967296 : Int) ≤ (r1 : Int)) = false := by simp; omega
        go_wp2
        go_round
        case rel => exact ⟨q1, r1, rfl, rfl, by omega, by omega, Hd.out⟩
        case measure => simp [intOf]; omega
    · have d1 : decide ((4294967296 : Int) ≤ (q : Int)) = false := by simp; omega
      have hP : q * Y0 < 18446744073709551616 := by
        have : q * Y0 ≤ 4294967295 * 4294967295 := Nat.mul_le_mul (by omega) (by omega)
        omega
      have e1 : IntKind.u64.wrap ((q : Int) * (Y0 : Int)) = ((q * Y0 : Nat) : Int) := by rw [mulN_]; exact wrapN_ _ hP
      have e2 : IntKind.u64.wrap ((4294967296 : Int) * (r : Int)) = ((4294967296 * r : Nat) : Int) := by rw [IntKind.wrap_u64]; omega
      have e3 : IntKind.u64.wrap (((4294967296 * r : Nat) : Int) + (T1 : Int)) = ((4294967296 * r + T1 : Nat) : Int) := by rw [IntKind.wrap_u64]; omega
      by_cases ht : 4294967296 * r + T1 < q * Y0
      · have hpos := Dig.pos (.inr ht)
        have hdec := hd.dec hUY g6 (.inr ht)
        have e4 : IntKind.u64.wrap ((q : Int) - 1) = ((q - 1 : Nat) : Int) := by rw [IntKind.wrap_u64]; omega
        have e5 : IntKind.u64.wrap ((r : Int) + (Y1 : Int)) = ((r + Y1 : Nat) : Int) := by rw [IntKind.wrap_u64]; omega
        have Hd := Lib.hid hdec
        clear hd hdec
        generalize hq1 : q - 1 = q1 at *
        generalize r + Y1 = r1 at *
        generalize q * Y0 = P2 at *
        generalize 4294967296 * r + T1 = P3 at *
        generalize 4294967296 * r = P4 at *
        by_cases hr1 : 4294967296 ≤ r1
        · have d2 : decide ((4294967296 : Int) ≤ (r1 : Int)) = true := by simp; omega
          have hbk := Hd.out.brk hUY g2 hr1
          have hexit := Hd.out.exit hbk.2
          clear hbk
          have Hexit := Lib.hid hexit
          clear hexit
          have hY64 : Y < 18446744073709551616 := by have := G1.out; omega
          obtain ⟨U2, s1, s2, s3⟩ := div_second (q := q1) g5 hY64 g6 (by rw [G1.out]; exact Hexit.out)
          obtain ⟨D2, P5, R2, k1, k2, k3, k4, hdig2⟩ := div_first U2 Y1 Y0 T0 (by omega) g4 g7 (by omega)
          have Hdig2 := Lib.hid hdig2
          have S3 := Lib.hid s3
          have k5 : ¬ ((Y1 : Int) = 0) := by omega
          clear hdig2 s3
          go_wp2
          clear s1 k1 k2 k3 k4 k5
          clear d1 e1 e2 e3 e4 e5 d2 ht Hd hpos hP hBq
          go_loop [18, 16] (fun a b => ∃ x z : Nat, a = .int .u64 x ∧ b = .int .u64 z ∧ z < 4294967296 ∧ x ≤ 4294967297 ∧ Dig Y1 Y0 U2 T0 x z) (fun a _ => (intOf a).toNat)
          case atStart => exact ⟨D2, R2, rfl, rfl, Hdig2.out.2, Hdig2.out.1.le (by have := G1.out; omega) g2 g3, Hdig2.out.1⟩
          case round =>
            obtain ⟨x, z, rfl, rfl, hz, hx, hd⟩ := hrel
            have hUY2 : U2 < Y1 * 4294967296 + Y0 := by have := G1.out; omega
            by_cases hBx : 4294967296 ≤ x
            · have d1 : decide ((4294967296 : Int) ≤ (x : Int)) = true := by simp; omega
              have hdec := hd.dec hUY2 g7 (.inl hBx)
              have e1 : IntKind.u64.wrap ((x : Int) - 1) = ((x - 1 : Nat) : Int) := by rw [IntKind.wrap_u64]; omega
              have e2 : IntKind.u64.wrap ((z : Int) + (Y1 : Int)) = ((z + Y1 : Nat) : Int) := by rw [IntKind.wrap_u64]; omega
              have Hd := Lib.hid hdec
              clear hd hdec
              generalize hx1 : x - 1 = x1 at *
              generalize z + Y1 = z1 at *
              by_cases hz1 : 4294967296 ≤ z1
              · have d2 : decide ((4294967296 : Int) ≤ (z1 : Int)) = true := by simp; omega
                have hbk := Hd.out.brk hUY2 g2 hz1
                have hexit := Hd.out.exit hbk.2
                clear hbk
                have hfin := div_both (q0 := x1) g5 hY64 g6 g7 S3.out s2 (by rw [G1.out]; exact hexit) (HN.out.trans Gq.out)
                clear hexit
                go_wp2
                go_ret2
                exact ⟨_, rfl, rfl⟩
              · have d2 : decide ((4294967296 : Int) ≤ (z1 : Int)) = false := by simp; omega
                go_wp2
                go_round
                case rel => exact ⟨x1, z1, rfl, rfl, by omega, by omega, Hd.out⟩
                case measure => simp [intOf]; omega
            · have d1 : decide ((4294967296 : Int) ≤ (x : Int)) = false := by simp; omega
              have hP : x * Y0 < 18446744073709551616 := by
                have : x * Y0 ≤ 4294967295 * 4294967295 := Nat.mul_le_mul (by omega) (by omega)
                omega
              have e1 : IntKind.u64.wrap ((x : Int) * (Y0 : Int)) = ((x * Y0 : Nat) : Int) := by rw [mulN_]; exact wrapN_ _ hP
              have e2 : IntKind.u64.wrap ((4294967296 : Int) * (z : Int)) = ((4294967296 * z : Nat) : Int) := by rw [IntKind.wrap_u64]; omega
              have e3 : IntKind.u64.wrap (((4294967296 * z : Nat) : Int) + (T0 : Int)) = ((4294967296 * z + T0 : Nat) : Int) := by rw [IntKind.wrap_u64]; omega
              by_cases ht : 4294967296 * z + T0 < x * Y0
              · have hpos := Dig.pos (.inr ht)
                have hdec := hd.dec hUY2 g7 (.inr ht)
                have e4 : IntKind.u64.wrap ((x : Int) - 1) = ((x - 1 : Nat) : Int) := by rw [IntKind.wrap_u64]; omega
                have e5 : IntKind.u64.wrap ((z : Int) + (Y1 : Int)) = ((z + Y1 : Nat) : Int) := by rw [IntKind.wrap_u64]; omega
                have Hd := Lib.hid hdec
                clear hd hdec
                generalize hx1 : x - 1 = x1 at *
                generalize z + Y1 = z1 at *
                generalize x * Y0 = P2 at *
                generalize 4294967296 * z + T0 = P3 at *
                generalize 4294967296 * z = P4 at *
                by_cases hz1 : 4294967296 ≤ z1
                · have d2 : decide ((4294967296 : Int) ≤ (z1 : Int)) = true := by simp; omega
                  have hbk := Hd.out.brk hUY2 g2 hz1
                  have hexit := Hd.out.exit hbk.2
                  clear hbk
                  have hfin := div_both (q0 := x1) g5 hY64 g6 g7 S3.out s2 (by rw [G1.out]; exact hexit) (HN.out.trans Gq.out)
                  clear hexit
                  go_wp2
                  go_ret2
                  exact ⟨_, rfl, rfl⟩
                · have d2 : decide ((4294967296 : Int) ≤ (z1 : Int)) = false := by simp; omega
                  go_wp2
                  go_round
                  case rel => exact ⟨x1, z1, rfl, rfl, by omega, by omega, Hd.out⟩
                  case measure => simp [intOf]; omega
              · have hexit := hd.exit (by omega)
                clear hd
                generalize x * Y0 = P2 at *
                generalize 4294967296 * z + T0 = P3 at *
                generalize 4294967296 * z = P4 at *
                have hfin := div_both (q0 := x) g5 hY64 g6 g7 S3.out s2 (by rw [G1.out]; exact hexit) (HN.out.trans Gq.out)
                clear hexit
                go_wp2
                go_ret2
                exact ⟨_, rfl, rfl⟩
        · have d2 : decide ((4294967296 : Int) ≤ (r1 : Int)) = false := by simp; omega
          go_wp2
          go_round
          case rel => exact ⟨q1, r1, rfl, rfl, by omega, by omega, Hd.out⟩
          case measure => simp [intOf]; omega
      · have hexit := hd.exit (by omega)
        clear hd
        generalize q * Y0 = P2 at *
        generalize 4294967296 * r + T1 = P3 at *
        generalize 4294967296 * r = P4 at *
        have Hexit := Lib.hid hexit
        clear hexit
        have hY64 : Y < 18446744073709551616 := by have := G1.out; omega
        obtain ⟨U2, s1, s2, s3⟩ := div_second (q := q) g5 hY64 g6 (by rw [G1.out]; exact Hexit.out)
        obtain ⟨D2, P5, R2, k1, k2, k3, k4, hdig2⟩ := div_first U2 Y1 Y0 T0 (by omega) g4 g7 (by omega)
        have Hdig2 := Lib.hid hdig2
        have S3 := Lib.hid s3
        have k5 : ¬ ((Y1 : Int) = 0) := by omega
        clear hdig2 s3
        go_wp2
        clear s1 k1 k2 k3 k4 k5
        clear d1 e1 e2 e3 ht hP hBq
        go_loop [18, 16] (fun a b => ∃ x z : Nat, a = .int .u64 x ∧ b = .int .u64 z ∧ z < 4294967296 ∧ x ≤ 4294967297 ∧ Dig Y1 Y0 U2 T0 x z) (fun a _ => (intOf a).toNat)
        case atStart => exact ⟨D2, R2, rfl, rfl, Hdig2.out.2, Hdig2.out.1.le (by have := G1.out; omega) g2 g3, Hdig2.out.1⟩
        case round =>
          obtain ⟨x, z, rfl, rfl, hz, hx, hd⟩ := hrel
          have hUY2 : U2 < Y1 * 4294967296 + Y0 := by have := G1.out; omega
          by_cases hBx : 4294967296 ≤ x
          · have d1 : decide ((4294967296 : Int) ≤ (x : Int)) = true := by simp; omega
            have hdec := hd.dec hUY2 g7 (.inl hBx)
            have e1 : IntKind.u64.wrap ((x : Int) - 1) = ((x - 1 : Nat) : Int) := by rw [IntKind.wrap_u64]; omega
            have e2 : IntKind.u64.wrap ((z : Int) + (Y1 : Int)) = ((z + Y1 : Nat) : Int) := by rw [IntKind.wrap_u64]; omega
            have Hd := Lib.hid hdec
            clear hd hdec
            generalize hx1 : x - 1 = x1 at *
            generalize z + Y1 = z1 at *
            by_cases hz1 : 4294967296 ≤ z1
            · have d2 : decide ((4294967296 : Int) ≤ (z1 : Int)) = true := by simp; omega
              have hbk := Hd.out.brk hUY2 g2 hz1
              have hexit := Hd.out.exit hbk.2
              clear hbk
              have hfin := div_both (q0 := x1) g5 hY64 g6 g7 S3.out s2 (by rw [G1.out]; exact hexit) (HN.out.trans Gq.out)
              clear hexit
              go_wp2
              go_ret2
              exact ⟨_, rfl, rfl⟩
            · have d2 : decide ((4294967296 : Int) ≤ (z1 : Int)) = false := by simp; omega
              go_wp2
              go_round
              case rel => exact ⟨x1, z1, rfl, rfl, by omega, by omega, Hd.out⟩
              case measure => simp [intOf]; omega
          · have d1 : decide ((4294967296 : Int) ≤ (x : Int)) = false := by simp; omega
            have hP : x * Y0 < 18446744073709551616 := by
              have : x * Y0 ≤ 4294967295 * 4294967295 := Nat.mul_le_mul (by omega) (by omega)
              omega
            have e1 : IntKind.u64.wrap ((x : Int) * (Y0 : Int)) = ((x * Y0 : Nat) : Int) := by rw [mulN_]; exact wrapN_ _ hP
            have e2 : IntKind.u64.wrap ((4294967296 : Int) * (z : Int)) = ((4294967296 * z : Nat) : Int) := by rw [IntKind.wrap_u64]; omega
            have e3 : IntKind.u64.wrap (((4294967296 * z : Nat) : Int) + (T0 : Int)) = ((4294967296 * z + T0 : Nat) : Int) := by rw [IntKind.wrap_u64]; omega
            by_cases ht : 4294967296 * z + T0 < x * Y0
            · have hpos := Dig.pos (.inr ht)
              have hdec := hd.dec hUY2 g7 (.inr ht)
              have e4 : IntKind.u64.wrap ((x : Int) - 1) = ((x - 1 : Nat) : Int) := by rw [IntKind.wrap_u64]; omega
              have e5 : IntKind.u64.wrap ((z : Int) + (Y1 : Int)) = ((z + Y1 : Nat) : Int) := by rw [IntKind.wrap_u64]; omega
              have Hd := Lib.hid hdec
              clear hd hdec
              generalize hx1 : x - 1 = x1 at *
              generalize z + Y1 = z1 at *
              generalize x * Y0 = P2 at *
              generalize 4294967296 * z + T0 = P3 at *
              generalize 4294967296 * z = P4 at *
              by_cases hz1 : 4294967296 ≤ z1
              · have d2 : decide ((4294967296 : Int) ≤ (z1 : Int)) = true := by simp; omega
                have hbk := Hd.out.brk hUY2 g2 hz1
                have hexit := Hd.out.exit hbk.2
                clear hbk
                have hfin := div_both (q0 := x1) g5 hY64 g6 g7 S3.out s2 (by rw [G1.out]; exact hexit) (HN.out.trans Gq.out)
                clear hexit
                go_wp2
                go_ret2
                exact ⟨_, rfl, rfl⟩
              · have d2 : decide ((4294967296 : Int) ≤ (z1 : Int)) = false := by simp; omega
                go_wp2
                go_round
                case rel => exact ⟨x1, z1, rfl, rfl, by omega, by omega, Hd.out⟩
                case measure => simp [intOf]; omega
            · have hexit := hd.exit (by omega)
              clear hd
              generalize x * Y0 = P2 at *
              generalize 4294967296 * z + T0 = P3 at *
              generalize 4294967296 * z = P4 at *
              have hfin := div_both (q0 := x) g5 hY64 g6 g7 S3.out s2 (by rw [G1.out]; exact hexit) (HN.out.trans Gq.out)
              clear hexit
              go_wp2
              go_ret2
              exact ⟨_, rfl, rfl⟩
end Go.Proofs.Ytbclbcldplmppaa

/- (a * b - c * d) / by in words of 128 bits. -/
namespace Go.Proofs.Ytbclbcldplmppaa
open Go.RowKit

set_option maxRecDepth 100000 in
set_option maxHeartbeats 1000000 in
theorem div64_any (hi lo y : Nat) (w : World) (hy : hi < y) (hy2 : y < 18446744073709551616) (hlo : lo < 18446744073709551616) :
    Calls Try.prog 109 #[.int .u64 hi, .int .u64 lo, .int .u64 y] w fun e w' => ∃ w2, DivRes ((hi * 18446744073709551616 + lo) / y) w2 e w' ∧ Ext w w2 := by
  rcases Nat.eq_zero_or_pos hi with rfl | h0
  · have b1 : ((y : Int) == 0) = false := by simp; omega
    have b2 : decide ((y : Int) ≤ 0) = false := by simp; omega
    have b3 : ¬ ((y : Int) = 0) := by omega
    have hq : lo / y < 18446744073709551616 := by have := Nat.div_le_self lo y; omega
    have e1 : IntKind.u64.wrap ((lo : Int).tdiv (y : Int)) = ((lo / y : Nat) : Int) := by rw [Int.ofNat_tdiv]; exact wrapN_ _ hq
    have e2 : IntKind.u64.wrap ((lo : Int) / (y : Int)) = ((lo / y : Nat) : Int) := by rw [← Int.natCast_ediv]; exact wrapN_ _ hq
    rw [Nat.zero_mul, Nat.zero_add]
    generalize lo / y = N at *
    go_enter Try.func109, Try.ntmps109
    go_wp2
    go_quiet (fail)
    go_wp2
    go_ret2
    exact ⟨w.drewN nq, ⟨_, rfl, rfl⟩, by simp⟩
  · exact (div64_hi hi lo y w h0 hy hy2 hlo).mono fun e w' h => ⟨w, h, Ext.refl w⟩

theorem sub64_call (x y b : Nat) (hb : b ≤ 1) (w : World) :
    (callFunc 107 #[.int .u64 x, .int .u64 y, .int .u64 b]).run Try.prog w =
      .ok (.value (.tuple #[.int .u64 (((x + 18446744073709551616 - y - b) % 18446744073709551616 : Nat) : Int), .int .u64 ((if x < y + b then 1 else 0 : Nat) : Int)])) w := by
  rw [run_callFunc_extern Try.func107 (by kernel_rfl) (by kernel_rfl) (by kernel_rfl) (e := sub64Entry) (by kernel_rfl), run_sub64 x y b hb]
  simp only [Result.andThen]

theorem add64_call (x y c : Nat) (hc : c ≤ 1) (w : World) :
    (callFunc 108 #[.int .u64 x, .int .u64 y, .int .u64 c]).run Try.prog w =
      .ok (.value (.tuple #[.int .u64 (((x + y + c) % 18446744073709551616 : Nat) : Int), .int .u64 (((x + y + c) / 18446744073709551616 : Nat) : Int)])) w := by
  rw [run_callFunc_extern Try.func108 (by kernel_rfl) (by kernel_rfl) (by kernel_rfl) (e := add64Entry) (by kernel_rfl), run_add64 x y c (by omega) (by omega) (by omega) (by omega)]
  simp only [Result.andThen]
  rfl

theorem maxAbs (a : Int) : (if a < -a then -a else a) = (a.natAbs : Int) := by split <;> omega

set_option maxRecDepth 100000 in
set_option maxHeartbeats 1000000 in
theorem times_any (a b : Int) (w : World) (ha : a.natAbs < 4611686018427387904) (hb : b.natAbs < 4611686018427387904) :
    Calls Try.prog 106 #[.int .i64 a, .int .i64 b] w fun e w' =>
      e = .returned (.tuple #[.int .u64 (a.natAbs * b.natAbs / 18446744073709551616 : Nat), .int .u64 (a.natAbs * b.natAbs % 18446744073709551616 : Nat), .bool (decide (a < 0) != decide (b < 0))]) ∧ w = w' := by
  have cm := mul64_any a.natAbs b.natAbs (by omega) (by omega) w
  have e1 : IntKind.i64.wrap (-a) = -a := by rw [IntKind.wrap_i64]; omega
  have e2 : IntKind.i64.wrap (-b) = -b := by rw [IntKind.wrap_i64]; omega
  have e3 : IntKind.u64.wrap (a.natAbs : Int) = (a.natAbs : Int) := wrapN_ _ (by omega)
  have e4 : IntKind.u64.wrap (b.natAbs : Int) = (b.natAbs : Int) := wrapN_ _ (by omega)
  have m1 := maxAbs a
  have m2 := maxAbs b
  generalize a.natAbs * b.natAbs / 18446744073709551616 = h at *
  generalize a.natAbs * b.natAbs % 18446744073709551616 = l at *
  generalize a.natAbs = A at *
  generalize b.natAbs = B at *
  go_enter Try.func106, Try.ntmps106
  go_wp2_with (go_at_call 113; refine cm.mono ?_; rintro e w' ⟨rfl, rfl⟩)
  refine bodyPost_ret (by simp [results, Try.results106, go_sem]; try rfl) rfl ?_
  exact ⟨rfl, rfl⟩

/-! ### The plain arithmetic -/

theorem signed_mul (a b : Int) : a * b = if (decide (a < 0) != decide (b < 0)) = true then -((a.natAbs * b.natAbs : Nat) : Int) else ((a.natAbs * b.natAbs : Nat) : Int) := by
  rw [Int.natCast_mul]
  by_cases h1 : a < 0 <;> by_cases h2 : b < 0 <;> simp only [h1, h2, decide_true, decide_false, bne_self_eq_false, Bool.false_eq_true, if_false]
  · rw [show ((a.natAbs : Int)) = -a by omega, show ((b.natAbs : Int)) = -b by omega, Int.neg_mul_neg]
  · rw [show ((a.natAbs : Int)) = -a by omega, show ((b.natAbs : Int)) = b by omega]; simp [Int.neg_mul]
  · rw [show ((a.natAbs : Int)) = a by omega, show ((b.natAbs : Int)) = -b by omega]; simp [Int.mul_neg]
  · rw [show ((a.natAbs : Int)) = a by omega, show ((b.natAbs : Int)) = b by omega]

theorem signed_quo {y q V : Int} {U : Nat} {neg : Bool} (hy : y ≠ 0) (h : y * q = V) (hV : V = if neg = true then -(U : Int) else (U : Int)) :
    U / y.natAbs = q.natAbs ∧ U < y.natAbs * (q.natAbs + 1) ∧ (if (neg != decide (y < 0)) = true then -(q.natAbs : Int) else (q.natAbs : Int)) = q := by
  have hU : U = y.natAbs * q.natAbs := by
    rw [← Int.natAbs_mul, h, hV]
    cases neg <;> simp
  have hyp : 0 < y.natAbs := by omega
  refine ⟨by rw [hU]; exact Nat.mul_div_cancel_left _ hyp, by rw [hU, Nat.mul_add]; omega, ?_⟩
  by_cases hq : q = 0
  · subst hq; simp
  · have hs := signed_mul y q
    rw [h, hV, ← hU] at hs
    have hUp : 0 < U := by rw [hU]; exact Nat.mul_pos hyp (by omega)
    by_cases h1 : y < 0 <;> by_cases h2 : q < 0 <;> cases neg <;> simp [h1, h2] at hs ⊢ <;> omega

theorem sub_pair {h l i k : Nat} (hl : l < 18446744073709551616) (hk : k < 18446744073709551616) (hh : h < 18446744073709551616) (hle : i * 18446744073709551616 + k ≤ h * 18446744073709551616 + l) :
    ∃ L bo H bo2 : Nat, (∀ w, (callFunc 107 #[.int .u64 l, .int .u64 k, .int .u64 0]).run Try.prog w = .ok (.value (.tuple #[.int .u64 (L : Int), .int .u64 (bo : Int)])) w) ∧
      (∀ w, (callFunc 107 #[.int .u64 h, .int .u64 i, .int .u64 bo]).run Try.prog w = .ok (.value (.tuple #[.int .u64 (H : Int), .int .u64 (bo2 : Int)])) w) ∧
      H * 18446744073709551616 + L = h * 18446744073709551616 + l - (i * 18446744073709551616 + k) ∧ L < 18446744073709551616 := by
  refine ⟨_, _, _, _, fun w => sub64_call l k 0 (by omega) w, fun w => sub64_call h i _ (by split <;> omega) w, ?_, Nat.mod_lt _ (by omega)⟩
  split <;> omega
theorem add_pair {h l i k : Nat} (hl : l < 18446744073709551616) (hk : k < 18446744073709551616) (hh : h < 4611686018427387904) (hi : i < 4611686018427387904) :
    ∃ L bo H bo2 : Nat, (∀ w, (callFunc 108 #[.int .u64 l, .int .u64 k, .int .u64 0]).run Try.prog w = .ok (.value (.tuple #[.int .u64 (L : Int), .int .u64 (bo : Int)])) w) ∧
      (∀ w, (callFunc 108 #[.int .u64 h, .int .u64 i, .int .u64 bo]).run Try.prog w = .ok (.value (.tuple #[.int .u64 (H : Int), .int .u64 (bo2 : Int)])) w) ∧
      H * 18446744073709551616 + L = h * 18446744073709551616 + l + (i * 18446744073709551616 + k) ∧ L < 18446744073709551616 := by
  refine ⟨_, _, _, _, fun w => add64_call l k 0 (by omega) w, fun w => add64_call h i _ (by omega) w, ?_, Nat.mod_lt _ (by omega)⟩
  omega
end Go.Proofs.Ytbclbcldplmppaa

/- (a * b - c * d) / by, a whole number: the walk. -/
namespace Go.Proofs.Ytbclbcldplmppaa
open Go.RowKit

theorem lt_of_quo {H L Y Q : Nat} (h : H * 18446744073709551616 + L < Y * (Q + 1)) (hQ : Q < 4611686018427387904) (_hY : 0 < Y) : H < Y := by
  rcases Nat.lt_or_ge H Y with h1 | h1
  · exact h1
  · have h2 := Nat.mul_le_mul_left Y (show Q + 1 ≤ 18446744073709551616 by omega)
    have h3 := Nat.mul_le_mul_right 18446744073709551616 h1
    omega

set_option maxRecDepth 100000 in
set_option maxHeartbeats 4000000 in
theorem step_any (a b c d y q : Int) (w : World) (ha : a.natAbs < 4611686018427387904) (hb : b.natAbs < 4611686018427387904) (hc : c.natAbs < 4611686018427387904) (hd : d.natAbs < 4611686018427387904)
    (hy : y ≠ 0) (hy2 : y.natAbs < 4611686018427387904) (hq : y * q = a * b - c * d) (hq2 : q.natAbs < 4611686018427387904) :
    Calls Try.prog 95 #[.int .i64 a, .int .i64 b, .int .i64 c, .int .i64 d, .int .i64 y] w fun e w' => e = .returned (.int .i64 q) ∧ Ext w w' := by
  have ct1 := fun w' => times_any a b w' ha hb
  have ct2 := fun w' => times_any c d w' hc hd
  have v1 := signed_mul a b
  have v2 := signed_mul c d
  have p1 : a.natAbs * b.natAbs < 21267647932558653966460912964485513216 := Nat.mul_lt_mul'' ha hb
  have p2 : c.natAbs * d.natAbs < 21267647932558653966460912964485513216 := Nat.mul_lt_mul'' hc hd
  have hsq := fun (U : Nat) (neg : Bool) (hV : a * b - c * d = if neg = true then -(U : Int) else (U : Int)) => signed_quo (U := U) (neg := neg) hy hq hV
  generalize (decide (a < 0) != decide (b < 0)) = be at *
  generalize (decide (c < 0) != decide (d < 0)) = un at *
  generalize a.natAbs * b.natAbs = P1 at *
  generalize c.natAbs * d.natAbs = P2 at *
  generalize a * b = A at *
  generalize c * d = C at *
  obtain ⟨h, hh⟩ : ∃ h, h = P1 / 18446744073709551616 := ⟨_, rfl⟩
  obtain ⟨l, hl⟩ : ∃ l, l = P1 % 18446744073709551616 := ⟨_, rfl⟩
  obtain ⟨i, hi⟩ : ∃ i, i = P2 / 18446744073709551616 := ⟨_, rfl⟩
  obtain ⟨k, hk⟩ : ∃ k, k = P2 % 18446744073709551616 := ⟨_, rfl⟩
  rw [← hh, ← hl] at ct1
  rw [← hi, ← hk] at ct2
  have hP1 : P1 = h * 18446744073709551616 + l := by omega
  have hP2 : P2 = i * 18446744073709551616 + k := by omega
  have hl1 : l < 18446744073709551616 := by omega
  have hk1 : k < 18446744073709551616 := by omega
  have hh1 : h < 4611686018427387904 := by omega
  have hi1 : i < 4611686018427387904 := by omega
  clear hh hl hi hk p1 p2
  subst hP1 hP2
  have ey : IntKind.i64.wrap (-y) = -y := by rw [IntKind.wrap_i64]; omega
  have my := maxAbs y
  have wy : IntKind.u64.wrap (y.natAbs : Int) = (y.natAbs : Int) := wrapN_ _ (by omega)
  have hY : 0 < y.natAbs := by omega
  have wq : IntKind.i64.wrap (q.natAbs : Int) = (q.natAbs : Int) := by rw [IntKind.wrap_i64]; omega
  have wq2 : IntKind.i64.wrap (-(q.natAbs : Int)) = -(q.natAbs : Int) := by rw [IntKind.wrap_i64]; omega
  have hylt : decide (y < 0) = true ∨ decide (y < 0) = false := by cases decide (y < 0) <;> simp
  generalize y.natAbs = Y at *
  generalize q.natAbs = Q at *
  cases be
  · cases un
    · rcases (by omega : h < i ∨ (h = i ∧ l < k) ∨ (h = i ∧ k ≤ l) ∨ i < h) with hc | ⟨rfl, hc⟩ | ⟨rfl, hc⟩ | hc
      · obtain ⟨L, bo, H, bo2, s1, s2, s3, s4⟩ := sub_pair hk1 hl1 (by omega) (show h * 18446744073709551616 + l ≤ i * 18446744073709551616 + k by omega)
        obtain ⟨t1, t2, t3⟩ := hsq (H * 18446744073709551616 + L) true (by rw [v1, v2, s3]; first | (simp; done) | (simp; omega))
        have cd := fun w' => div64_any H L Y w' (lt_of_quo t2 hq2 hY) (by omega) s4
        rw [t1] at cd
        have T3 := Lib.hid t3
        have S3 := Lib.hid s3
        clear hsq v1 v2 s3 s4 t1 t2 t3 hq
        have d1 : decide ((h : Int) < (i : Int)) = true := by simp; omega
        rcases hylt with hys | hys
        all_goals
          rw [hys] at T3
          go_enter Try.func95, Try.ntmps95
          go_wp2_with (first
            | (go_at_call 106; first | (with_reducible refine (ct1 _).mono ?_; rintro e w' ⟨rfl, rfl⟩) | (with_reducible refine (ct2 _).mono ?_; rintro e w' ⟨rfl, rfl⟩))
            | (go_at_call 109; refine (cd _).mono ?_; rintro e w3 ⟨w2, ⟨r, rfl, rfl⟩, hx⟩))
          go_ret
          exact ⟨ret_i (by have := T3.out; simpa using this), hx⟩
      · obtain ⟨L, bo, H, bo2, s1, s2, s3, s4⟩ := sub_pair hk1 hl1 (by omega) (show h * 18446744073709551616 + l ≤ h * 18446744073709551616 + k by omega)
        obtain ⟨t1, t2, t3⟩ := hsq (H * 18446744073709551616 + L) true (by rw [v1, v2, s3]; first | (simp; done) | (simp; omega))
        have cd := fun w' => div64_any H L Y w' (lt_of_quo t2 hq2 hY) (by omega) s4
        rw [t1] at cd
        have T3 := Lib.hid t3
        have S3 := Lib.hid s3
        clear hsq v1 v2 s3 s4 t1 t2 t3 hq
        have d3 : decide ((l : Int) < (k : Int)) = true := by simp; omega
        rcases hylt with hys | hys
        all_goals
          rw [hys] at T3
          go_enter Try.func95, Try.ntmps95
          go_wp2_with (first
            | (go_at_call 106; first | (with_reducible refine (ct1 _).mono ?_; rintro e w' ⟨rfl, rfl⟩) | (with_reducible refine (ct2 _).mono ?_; rintro e w' ⟨rfl, rfl⟩))
            | (go_at_call 109; refine (cd _).mono ?_; rintro e w3 ⟨w2, ⟨r, rfl, rfl⟩, hx⟩))
          go_ret
          exact ⟨ret_i (by have := T3.out; simpa using this), hx⟩
      · obtain ⟨L, bo, H, bo2, s1, s2, s3, s4⟩ := sub_pair hl1 hk1 (by omega) (show h * 18446744073709551616 + k ≤ h * 18446744073709551616 + l by omega)
        obtain ⟨t1, t2, t3⟩ := hsq (H * 18446744073709551616 + L) false (by rw [v1, v2, s3]; first | (simp; done) | (simp; omega))
        have cd := fun w' => div64_any H L Y w' (lt_of_quo t2 hq2 hY) (by omega) s4
        rw [t1] at cd
        have T3 := Lib.hid t3
        have S3 := Lib.hid s3
        clear hsq v1 v2 s3 s4 t1 t2 t3 hq
        have d3 : decide ((l : Int) < (k : Int)) = false := by simp; omega
        rcases hylt with hys | hys
        all_goals
          rw [hys] at T3
          go_enter Try.func95, Try.ntmps95
          go_wp2_with (first
            | (go_at_call 106; first | (with_reducible refine (ct1 _).mono ?_; rintro e w' ⟨rfl, rfl⟩) | (with_reducible refine (ct2 _).mono ?_; rintro e w' ⟨rfl, rfl⟩))
            | (go_at_call 109; refine (cd _).mono ?_; rintro e w3 ⟨w2, ⟨r, rfl, rfl⟩, hx⟩))
          go_ret
          exact ⟨ret_i (by have := T3.out; simpa using this), hx⟩
      · obtain ⟨L, bo, H, bo2, s1, s2, s3, s4⟩ := sub_pair hl1 hk1 (by omega) (show i * 18446744073709551616 + k ≤ h * 18446744073709551616 + l by omega)
        obtain ⟨t1, t2, t3⟩ := hsq (H * 18446744073709551616 + L) false (by rw [v1, v2, s3]; first | (simp; done) | (simp; omega))
        have cd := fun w' => div64_any H L Y w' (lt_of_quo t2 hq2 hY) (by omega) s4
        rw [t1] at cd
        have T3 := Lib.hid t3
        have S3 := Lib.hid s3
        clear hsq v1 v2 s3 s4 t1 t2 t3 hq
        have d1 : decide ((h : Int) < (i : Int)) = false := by simp; omega
        have d2 : ((h : Int) == (i : Int)) = false := by simp; omega
        rcases hylt with hys | hys
        all_goals
          rw [hys] at T3
          go_enter Try.func95, Try.ntmps95
          go_wp2_with (first
            | (go_at_call 106; first | (with_reducible refine (ct1 _).mono ?_; rintro e w' ⟨rfl, rfl⟩) | (with_reducible refine (ct2 _).mono ?_; rintro e w' ⟨rfl, rfl⟩))
            | (go_at_call 109; refine (cd _).mono ?_; rintro e w3 ⟨w2, ⟨r, rfl, rfl⟩, hx⟩))
          go_ret
          exact ⟨ret_i (by have := T3.out; simpa using this), hx⟩

    · obtain ⟨L, bo, H, bo2, s1, s2, s3, s4⟩ := add_pair hl1 hk1 hh1 hi1
      obtain ⟨t1, t2, t3⟩ := hsq (H * 18446744073709551616 + L) false (by rw [v1, v2, s3]; first | (simp; done) | (simp; omega))
      have cd := fun w' => div64_any H L Y w' (lt_of_quo t2 hq2 hY) (by omega) s4
      rw [t1] at cd
      have T3 := Lib.hid t3
      have S3 := Lib.hid s3
      clear hsq v1 v2 s3 s4 t1 t2 t3 hq
      have d0 : True := trivial
      rcases hylt with hys | hys
      all_goals
        rw [hys] at T3
        go_enter Try.func95, Try.ntmps95
        go_wp2_with (first
          | (go_at_call 106; first | (with_reducible refine (ct1 _).mono ?_; rintro e w' ⟨rfl, rfl⟩) | (with_reducible refine (ct2 _).mono ?_; rintro e w' ⟨rfl, rfl⟩))
          | (go_at_call 109; refine (cd _).mono ?_; rintro e w3 ⟨w2, ⟨r, rfl, rfl⟩, hx⟩))
        go_ret
        exact ⟨ret_i (by have := T3.out; simpa using this), hx⟩
  · cases un
    · obtain ⟨L, bo, H, bo2, s1, s2, s3, s4⟩ := add_pair hl1 hk1 hh1 hi1
      obtain ⟨t1, t2, t3⟩ := hsq (H * 18446744073709551616 + L) true (by rw [v1, v2, s3]; first | (simp; done) | (simp; omega))
      have cd := fun w' => div64_any H L Y w' (lt_of_quo t2 hq2 hY) (by omega) s4
      rw [t1] at cd
      have T3 := Lib.hid t3
      have S3 := Lib.hid s3
      clear hsq v1 v2 s3 s4 t1 t2 t3 hq
      have d0 : True := trivial
      rcases hylt with hys | hys
      all_goals
        rw [hys] at T3
        go_enter Try.func95, Try.ntmps95
        go_wp2_with (first
          | (go_at_call 106; first | (with_reducible refine (ct1 _).mono ?_; rintro e w' ⟨rfl, rfl⟩) | (with_reducible refine (ct2 _).mono ?_; rintro e w' ⟨rfl, rfl⟩))
          | (go_at_call 109; refine (cd _).mono ?_; rintro e w3 ⟨w2, ⟨r, rfl, rfl⟩, hx⟩))
        go_ret
        exact ⟨ret_i (by have := T3.out; simpa using this), hx⟩
    · rcases (by omega : h < i ∨ (h = i ∧ l < k) ∨ (h = i ∧ k ≤ l) ∨ i < h) with hc | ⟨rfl, hc⟩ | ⟨rfl, hc⟩ | hc
      · obtain ⟨L, bo, H, bo2, s1, s2, s3, s4⟩ := sub_pair hk1 hl1 (by omega) (show h * 18446744073709551616 + l ≤ i * 18446744073709551616 + k by omega)
        obtain ⟨t1, t2, t3⟩ := hsq (H * 18446744073709551616 + L) false (by rw [v1, v2, s3]; first | (simp; done) | (simp; omega))
        have cd := fun w' => div64_any H L Y w' (lt_of_quo t2 hq2 hY) (by omega) s4
        rw [t1] at cd
        have T3 := Lib.hid t3
        have S3 := Lib.hid s3
        clear hsq v1 v2 s3 s4 t1 t2 t3 hq
        have d1 : decide ((h : Int) < (i : Int)) = true := by simp; omega
        rcases hylt with hys | hys
        all_goals
          rw [hys] at T3
          go_enter Try.func95, Try.ntmps95
          go_wp2_with (first
            | (go_at_call 106; first | (with_reducible refine (ct1 _).mono ?_; rintro e w' ⟨rfl, rfl⟩) | (with_reducible refine (ct2 _).mono ?_; rintro e w' ⟨rfl, rfl⟩))
            | (go_at_call 109; refine (cd _).mono ?_; rintro e w3 ⟨w2, ⟨r, rfl, rfl⟩, hx⟩))
          go_ret
          exact ⟨ret_i (by have := T3.out; simpa using this), hx⟩
      · obtain ⟨L, bo, H, bo2, s1, s2, s3, s4⟩ := sub_pair hk1 hl1 (by omega) (show h * 18446744073709551616 + l ≤ h * 18446744073709551616 + k by omega)
        obtain ⟨t1, t2, t3⟩ := hsq (H * 18446744073709551616 + L) false (by rw [v1, v2, s3]; first | (simp; done) | (simp; omega))
        have cd := fun w' => div64_any H L Y w' (lt_of_quo t2 hq2 hY) (by omega) s4
        rw [t1] at cd
        have T3 := Lib.hid t3
        have S3 := Lib.hid s3
        clear hsq v1 v2 s3 s4 t1 t2 t3 hq
        have d3 : decide ((l : Int) < (k : Int)) = true := by simp; omega
        rcases hylt with hys | hys
        all_goals
          rw [hys] at T3
          go_enter Try.func95, Try.ntmps95
          go_wp2_with (first
            | (go_at_call 106; first | (with_reducible refine (ct1 _).mono ?_; rintro e w' ⟨rfl, rfl⟩) | (with_reducible refine (ct2 _).mono ?_; rintro e w' ⟨rfl, rfl⟩))
            | (go_at_call 109; refine (cd _).mono ?_; rintro e w3 ⟨w2, ⟨r, rfl, rfl⟩, hx⟩))
          go_ret
          exact ⟨ret_i (by have := T3.out; simpa using this), hx⟩
      · obtain ⟨L, bo, H, bo2, s1, s2, s3, s4⟩ := sub_pair hl1 hk1 (by omega) (show h * 18446744073709551616 + k ≤ h * 18446744073709551616 + l by omega)
        obtain ⟨t1, t2, t3⟩ := hsq (H * 18446744073709551616 + L) true (by rw [v1, v2, s3]; first | (simp; done) | (simp; omega))
        have cd := fun w' => div64_any H L Y w' (lt_of_quo t2 hq2 hY) (by omega) s4
        rw [t1] at cd
        have T3 := Lib.hid t3
        have S3 := Lib.hid s3
        clear hsq v1 v2 s3 s4 t1 t2 t3 hq
        have d3 : decide ((l : Int) < (k : Int)) = false := by simp; omega
        rcases hylt with hys | hys
        all_goals
          rw [hys] at T3
          go_enter Try.func95, Try.ntmps95
          go_wp2_with (first
            | (go_at_call 106; first | (with_reducible refine (ct1 _).mono ?_; rintro e w' ⟨rfl, rfl⟩) | (with_reducible refine (ct2 _).mono ?_; rintro e w' ⟨rfl, rfl⟩))
            | (go_at_call 109; refine (cd _).mono ?_; rintro e w3 ⟨w2, ⟨r, rfl, rfl⟩, hx⟩))
          go_ret
          exact ⟨ret_i (by have := T3.out; simpa using this), hx⟩
      · obtain ⟨L, bo, H, bo2, s1, s2, s3, s4⟩ := sub_pair hl1 hk1 (by omega) (show i * 18446744073709551616 + k ≤ h * 18446744073709551616 + l by omega)
        obtain ⟨t1, t2, t3⟩ := hsq (H * 18446744073709551616 + L) true (by rw [v1, v2, s3]; first | (simp; done) | (simp; omega))
        have cd := fun w' => div64_any H L Y w' (lt_of_quo t2 hq2 hY) (by omega) s4
        rw [t1] at cd
        have T3 := Lib.hid t3
        have S3 := Lib.hid s3
        clear hsq v1 v2 s3 s4 t1 t2 t3 hq
        have d1 : decide ((h : Int) < (i : Int)) = false := by simp; omega
        have d2 : ((h : Int) == (i : Int)) = false := by simp; omega
        rcases hylt with hys | hys
        all_goals
          rw [hys] at T3
          go_enter Try.func95, Try.ntmps95
          go_wp2_with (first
            | (go_at_call 106; first | (with_reducible refine (ct1 _).mono ?_; rintro e w' ⟨rfl, rfl⟩) | (with_reducible refine (ct2 _).mono ?_; rintro e w' ⟨rfl, rfl⟩))
            | (go_at_call 109; refine (cd _).mono ?_; rintro e w3 ⟨w2, ⟨r, rfl, rfl⟩, hx⟩))
          go_ret
          exact ⟨ret_i (by have := T3.out; simpa using this), hx⟩

end Go.Proofs.Ytbclbcldplmppaa

/- solve: its loops' bodies. -/
namespace Go.Proofs.Ytbclbcldplmppaa
def blockOf (n : Nat) : Code → Option Code
  | .block k c => if k = n then some c else blockOf n c
  | .seq a b => match blockOf n a with
    | some c => some c
    | none => blockOf n b
  | .cond _ a b => match blockOf n a with
    | some c => some c
    | none => blockOf n b
  | .loop c => blockOf n c
  | .scope c => blockOf n c
  | _ => none
def loopBody : Code → Code
  | .loop c => c
  | _ => .skip
noncomputable def loop65_8 : Code := ((Try.f65.body.bind (blockOf 8)).map loopBody).getD .skip
noncomputable def loop65_10 : Code := ((Try.f65.body.bind (blockOf 10)).map loopBody).getD .skip
noncomputable def loop65_6 : Code := ((Try.f65.body.bind (blockOf 6)).map loopBody).getD .skip
end Go.Proofs.Ytbclbcldplmppaa
