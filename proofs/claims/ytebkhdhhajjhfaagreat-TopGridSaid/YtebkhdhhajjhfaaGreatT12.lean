/- The rank of a list of rows, over the whole numbers and modulo three primes. Plain Lean. -/
import Derived.Test.YtebkhdhhajjhfaaGreatT05
import Derived.Test.YtebkhdhhajjhfaaGreatT11
import Derived.Test.YtebkhdhhajjhfaaGreatT02
import Derived.Lib.Hide
import Derived.Test.YtebkhdhhajjhfaaGreatT08
import Derived.BigRegion
import Derived.WalkMore
import Derived.Test.YtebkhdhhajjhfaaGreatT10
import Derived.Test.YtebkhdhhajjhfaaGreatT04
import Derived.Deep.Upon
import Derived.Deep.AppendSrc
namespace Go.Proofs.YtebkhdhhajjhfaaGreat.Gr

structure RankIs (A : List (Nat → Int)) (n k : Nat) : Prop where
  ex : ∃ V R, (∀ v ∈ V, v ∈ A) ∧ V.length = k ∧ R.length = k ∧ (∀ r ∈ R, r < n) ∧ D V R ≠ 0
  no : ∀ V R, (∀ v ∈ V, v ∈ A) → k < V.length → (∀ r ∈ R, r < n) → D V R = 0

theorem RankIs.unique {A : List (Nat → Int)} {n k l : Nat} (h : RankIs A n k) (h' : RankIs A n l) : k = l := by
  rcases Nat.lt_trichotomy k l with hl | hl | hl
  · obtain ⟨V, R, h1, h2, _, h4, h5⟩ := h'.ex
    exact absurd (h.no V R h1 (by omega) h4) h5
  · exact hl
  · obtain ⟨V, R, h1, h2, _, h4, h5⟩ := h.ex
    exact absurd (h'.no V R h1 (by omega) h4) h5

/-- A family of vectors, and what it spans modulo m, at the first n indices. -/
def InSpan (m : Int) (n cnt : Nat) (Y : Nat → Nat → Int) (v : Nat → Int) : Prop := ∃ c : Nat → Int, ∀ j, j < n → m ∣ v j - S (List.range cnt) fun k => c k * Y k j

section
variable {m : Int} {n cnt : Nat} {Y : Nat → Nat → Int}
theorem S_single {l : List Nat} (hn : l.Nodup) {x : Nat} (hx : x ∈ l) (f : Nat → Int) : (S l fun k => if k = x then f k else 0) = f x := by
  induction l with
  | nil => cases hx
  | cons y l ih =>
    rw [List.nodup_cons] at hn
    rw [S_cons]
    by_cases h : y = x
    · subst h
      rw [if_pos rfl, S_zero fun z hz => if_neg (fun (e : z = y) => hn.1 (e ▸ hz)), Int.add_zero]
    · rw [if_neg h, ih hn.2 (by rcases List.mem_cons.1 hx with e | e; exact absurd e.symm h; exact e), Int.zero_add]
theorem InSpan.mem {k : Nat} (hk : k < cnt) : InSpan m n cnt Y (Y k) := ⟨fun x => if x = k then 1 else 0, fun j _ => by
  have : (S (List.range cnt) fun x => (if x = k then 1 else 0) * Y x j) = Y k j := by
    rw [← S_single List.nodup_range (List.mem_range.2 hk) (fun x => Y x j)]
    exact S_congr fun x _ => by split <;> simp
  rw [this, Int.sub_self]; exact Int.dvd_zero _⟩
theorem InSpan.congr {v u : Nat → Int} (h : InSpan m n cnt Y v) (he : ∀ j, j < n → m ∣ u j - v j) : InSpan m n cnt Y u := by
  obtain ⟨c, hc⟩ := h
  refine ⟨c, fun j hj => ?_⟩
  have := Int.dvd_add (he j hj) (hc j hj)
  rwa [show u j - v j + (v j - S (List.range cnt) fun k => c k * Y k j) = u j - S (List.range cnt) fun k => c k * Y k j by omega] at this
theorem InSpan.comb {v u : Nat → Int} (h : InSpan m n cnt Y v) (h' : InSpan m n cnt Y u) (a b : Int) : InSpan m n cnt Y (fun j => a * v j + b * u j) := by
  obtain ⟨c, hc⟩ := h
  obtain ⟨e, he⟩ := h'
  refine ⟨fun k => a * c k + b * e k, fun j hj => ?_⟩
  have h1 : S (List.range cnt) (fun k => (a * c k + b * e k) * Y k j) = a * S (List.range cnt) (fun k => c k * Y k j) + b * S (List.range cnt) (fun k => e k * Y k j) := by
    rw [← S_mul, ← S_mul, ← S_add]
    exact S_congr fun k _ => by rw [Int.add_mul, Int.mul_assoc, Int.mul_assoc]
  rw [h1]
  have h2 := Int.dvd_add (Int.dvd_trans (hc j hj) (Int.dvd_mul_left a _)) (Int.dvd_trans (he j hj) (Int.dvd_mul_left b _))
  rw [Int.mul_sub, Int.mul_sub] at h2
  rwa [show a * v j - a * S (List.range cnt) (fun k => c k * Y k j) + (b * u j - b * S (List.range cnt) fun k => e k * Y k j) = a * v j + b * u j - (a * S (List.range cnt) (fun k => c k * Y k j) + b * S (List.range cnt) fun k => e k * Y k j) by omega] at h2
theorem InSpan.zero : InSpan m n cnt Y (fun _ => 0) := ⟨fun _ => 0, fun j _ => by rw [S_zero fun _ _ => Int.zero_mul _, Int.sub_self]; exact Int.dvd_zero _⟩
theorem InSpan.sum {α : Type} {u : α → Nat → Int} (c : α → Int) : ∀ (l : List α), (∀ x ∈ l, InSpan m n cnt Y (u x)) → InSpan m n cnt Y (fun j => S l fun x => c x * u x j)
  | [], _ => InSpan.zero
  | x :: l, h => by
    have h1 := InSpan.comb (h x (by simp)) (InSpan.sum c l fun y hy => h y (by simp [hy])) (c x) 1
    refine h1.congr fun j _ => ?_
    simp only [S_cons, Int.one_mul, Int.sub_self]
    exact Int.dvd_zero _
/-- What a family spans is spanned by whatever spans the family. -/
theorem InSpan.trans {cnt' : Nat} {Y' : Nat → Nat → Int} {v : Nat → Int} (h : InSpan m n cnt Y v) (hY : ∀ k, k < cnt → InSpan m n cnt' Y' (Y k)) : InSpan m n cnt' Y' v := by
  obtain ⟨c, hc⟩ := h
  exact (InSpan.sum (u := Y) c (List.range cnt) fun k hk => hY k (List.mem_range.1 hk)).congr hc
end

/-- A family as a list. -/
def fam (cnt : Nat) (Y : Nat → Nat → Int) : List (Nat → Int) := (List.range cnt).map Y
theorem fam_length (cnt : Nat) (Y : Nat → Nat → Int) : (fam cnt Y).length = cnt := by simp [fam]
theorem fam_get (cnt : Nat) (Y : Nat → Nat → Int) (k : Nat) (h : k < cnt) : (fam cnt Y).getD k (fun _ => 0) = Y k := by simp [fam, List.getD, h]
theorem fam_mem {cnt : Nat} {Y : Nat → Nat → Int} {v : Nat → Int} : v ∈ fam cnt Y ↔ ∃ k, k < cnt ∧ Y k = v := by simp [fam]
theorem S_fam (cnt : Nat) (Y : Nat → Nat → Int) (c : Nat → Int) (j : Nat) : (S (List.range (fam cnt Y).length) fun k => c k * (fam cnt Y).getD k (fun _ => 0) j) = S (List.range cnt) fun k => c k * Y k j := by
  rw [fam_length]
  exact S_congr fun k hk => by rw [fam_get cnt Y k (List.mem_range.1 hk)]

theorem D_span_fam {m : Int} (hm : PrimeLike m) {n cnt : Nat} {Y : Nat → Nat → Int} (X : List (Nat → Int)) (R : List Nat) (hR : ∀ r ∈ R, r < n) (hX : ∀ x ∈ X, ∃ d : Int, ¬ m ∣ d ∧ InSpan m n cnt Y (fun j => d * x j)) (hl : cnt < X.length) : m ∣ D X R := by
  refine D_span_mod hm (fam cnt Y) X R (fun x hx => ?_) (by rw [fam_length]; exact hl)
  obtain ⟨d, hd, c, hc⟩ := hX x hx
  exact ⟨d, hd, c, fun r hr => by rw [S_fam]; exact hc r (hR r hr)⟩
theorem D_combo_fam {m : Int} (hm : PrimeLike m) (h1 : ¬ m ∣ 1) {n cnt : Nat} {Y : Nat → Nat → Int} (X : List (Nat → Int)) (R : List Nat) (hR : ∀ r ∈ R, r < n) (hX : ∀ x ∈ X, InSpan m n cnt Y x)
    (h : ¬ m ∣ D X R) : ∃ V : List (Nat → Int), (∀ v ∈ V, v ∈ fam cnt Y) ∧ V.length = X.length ∧ ¬ m ∣ D V R := by
  rcases Classical.em (∃ V : List (Nat → Int), (∀ v ∈ V, v ∈ fam cnt Y) ∧ V.length = X.length ∧ ¬ m ∣ D V R) with hh | hh
  · exact hh
  · refine absurd ?_ h
    have := D_combo_mod hm (fam cnt Y) X [] R (fun x hx => ?_) (by simp) (fun V hV hl => ?_)
    · simpa using this
    · obtain ⟨c, hc⟩ := hX x hx
      exact ⟨1, h1, c, fun r hr => by rw [S_fam, Int.one_mul]; exact hc r (hR r hr)⟩
    · rcases Classical.em (m ∣ D V R) with h2 | h2
      · exact h2
      · exact absurd ⟨V, hV, by simpa using hl, h2⟩ hh

theorem zero_not_one : ¬ (0 : Int) ∣ 1 := by rw [Int.zero_dvd]; decide

/-- A basis: k vectors with a determinant that is not 0, in the rows' span, each row (times a number) in theirs. -/
theorem rank_basis {n a k : Nat} {A Y : Nat → Nat → Int} (R : List Nat) (hR : ∀ r ∈ R, r < n) (hRl : R.length = k) (hD : D (fam k Y) R ≠ 0) (hY : ∀ i, i < k → InSpan 0 n a A (Y i)) {d : Int} (hd : d ≠ 0)
    (hA : ∀ x, x < a → InSpan 0 n k Y (fun j => d * A x j)) : RankIs (fam a A) n k := by
  constructor
  · obtain ⟨V, h1, h2, h3⟩ := D_combo_fam primeLike_zero zero_not_one (n := n) (cnt := a) (Y := A) (fam k Y) R hR (fun x hx => by
      obtain ⟨i, hi, rfl⟩ := fam_mem.1 hx
      exact hY i hi) (by rw [Int.zero_dvd]; exact hD)
    rw [fam_length] at h2
    rw [Int.zero_dvd] at h3
    exact ⟨V, R, h1, h2, hRl, hR, h3⟩
  · intro V R' hV hl hR'
    have := D_span_fam primeLike_zero (n := n) (cnt := k) (Y := Y) V R' hR' (fun x hx => by
      obtain ⟨i, hi, rfl⟩ := fam_mem.1 (hV x hx)
      exact ⟨d, by rw [Int.zero_dvd]; exact hd, hA i hi⟩) hl
    rwa [Int.zero_dvd] at this

/-! ### Elimination modulo p -/

section
variable {p : Int} {n a done : Nat} {A M M' : Nat → Nat → Int} {piv : List Nat}
/-- The triangle's determinant is not 0. -/
theorem tri_ne (hm : PrimeLike p) (h1 : ¬ p ∣ 1) : ∀ (l : List Nat) (k : Nat) (M : Nat → Nat → Int), (∀ i (hi : i < l.length), ¬ p ∣ M (k + i) l[i] ∧ ∀ x, i < x → x < l.length → p ∣ M (k + x) l[i]) →
    ¬ p ∣ D ((List.range l.length).map fun i => M (k + i)) l
  | [], _, _, _ => by simpa [D] using h1
  | c :: l, k, M, h => by
    -- make the column exactly 0 below
    have hz : p ∣ D ((List.range (c :: l).length).map fun i => M (k + i)) (c :: l) - D ((List.range (c :: l).length).map fun i => fun j => if 0 < i ∧ j = c then 0 else M (k + i) j) (c :: l) := by
      refine D_dvd _ _ _ (by simp) fun i h1 h2 r hr => ?_
      simp only [List.getElem_map, List.getElem_range]
      by_cases e : 0 < i ∧ r = c
      · rw [if_pos e, Int.sub_zero, e.2]
        exact (h 0 (by simp)).2 i e.1 (by simpa using h1)
      · rw [if_neg e, Int.sub_self]; exact Int.dvd_zero _
    have hsplit : (List.range (c :: l).length).map (fun i => fun j => if 0 < i ∧ j = c then 0 else M (k + i) j) = (fun j => M k j) :: (List.range l.length).map (fun i => fun j => if j = c then 0 else M (k + 1 + i) j) := by
      rw [List.length_cons, List.range_succ_eq_map, List.map_cons, List.map_map]
      congr 1
      refine List.map_congr_left fun i _ => ?_
      funext j
      simp [show k + (i + 1) = k + 1 + i by omega]
    rw [hsplit, D_tri _ _ c l (by simp) (fun u hu => by
      obtain ⟨i, _, rfl⟩ := List.mem_map.1 hu
      simp)] at hz
    have ih := tri_ne hm h1 l (k + 1) (fun x j => if j = c then 0 else M x j)
    -- on the rest: either its columns differ from c, or ..
    intro hdvd
    have h2 : p ∣ M k c * D ((List.range l.length).map fun i => fun j => if j = c then 0 else M (k + 1 + i) j) l := by
      have := Int.dvd_sub hdvd hz
      rwa [show ∀ x y : Int, x - (x - y) = y from fun x y => by omega] at this
    rcases hm _ _ h2 with h3 | h3
    · exact (h 0 (by simp)).1 (by simpa using h3)
    · refine ih (fun i hi => ⟨?_, fun x hx1 hx2 => ?_⟩) h3
      · have := (h (i + 1) (by simpa using hi))
        have hne : l[i] ≠ c := fun e => this.1 (by
          have := (h 0 (by simp)).2 (i + 1) (by omega) (by simpa using hi)
          simpa [e] using this)
        rw [if_neg hne]
        have := this.1
        simpa [show k + (i + 1) = k + 1 + i by omega] using this
      · split
        · exact Int.dvd_zero _
        · have := (h (i + 1) (by simpa using hi)).2 (x + 1) (by omega) (by simpa using hx2)
          simpa [show k + (x + 1) = k + 1 + x by omega] using this

end

end Go.Proofs.YtebkhdhhajjhfaaGreat.Gr

/- From solved equations to ranks. Plain Lean. -/
namespace Go.Proofs.YtebkhdhhajjhfaaGreat.Gr

theorem solved_exists (A : Nat → Nat → Int) (n m : Nat) (cols : List Nat) (hc : ∀ c ∈ cols, c < n) : ∃ σ pv M d, SolSt A n m cols σ pv M d := by
  have : ∀ k, k ≤ cols.length → ∃ σ pv M d, SolSt A n m (cols.take k) σ pv M d := by
    intro k
    induction k with
    | zero => intro _; exact ⟨_, _, _, _, by rw [List.take_zero]; exact SolSt.start A n m⟩
    | succ k ih =>
      intro hk
      obtain ⟨σ, pv, M, d, h⟩ := ih (by omega)
      have hk' : k < cols.length := by omega
      have ht : cols.take (k + 1) = cols.take k ++ [cols[k]] := List.take_succ_eq_append_getElem hk'
      rw [ht]
      rcases Classical.em (∃ i, pv.length ≤ i ∧ i < m ∧ M (σ i) cols[k] ≠ 0) with ⟨i, h1, h2, h3⟩ | hno
      · exact ⟨_, _, _, _, h.pivot h1 h2 (hc _ (List.getElem_mem hk')) h3⟩
      · exact ⟨_, _, _, _, h.skip fun i h1 h2 => Classical.byContradiction fun h3 => hno ⟨i, h1, h2, h3⟩⟩
  have := this cols.length (Nat.le_refl _)
  rwa [List.take_length] at this

section
variable {A : Nat → Nat → Int} {n m : Nat} {cols : List Nat} {σ : Nat → Nat} {pv : List (Nat × Nat)} {M : Nat → Nat → Int} {d : Int}

/-- What the rows have in a column that is a combination of others. -/
theorem Bar.lin {α : Type} (h : Bar A m pv M d) (Y : List α) (c : α → Int) (f : α → Nat) {j : Nat} (hj : ∀ x, x < m → A x j = S Y fun y => c y * A x (f y)) {x : Nat} (hx : x < m) : M x j = S Y fun y => c y * M x (f y) := by
  have hr : ∀ r ∈ rowsOf pv, r < m := fun r hr => by
    obtain ⟨q, hq, rfl⟩ := List.mem_map.1 hr
    exact h.lt q hq
  by_cases hp : x ∈ rowsOf pv
  · obtain ⟨q0, hq, rfl⟩ := List.mem_map.1 hp
    obtain ⟨pre, post, hpv⟩ := List.append_of_mem hq
    rw [h.pivot hpv, D_at (col A j) (fun r => S Y fun y => c y * col A (f y) r) _ _ _ (fun r hr' => hj r (hr r hr')), D_sum]
    exact S_congr fun y _ => by rw [h.pivot hpv]
  · rw [h.other hx hp, D_at (col A j) (fun r => S Y fun y => c y * col A (f y) r) [] _ _ (fun r hr' => by
      rcases List.mem_append.1 hr' with h1 | h1
      · exact hj r (hr r h1)
      · simp at h1; subst h1; exact hj r hx), D_sum]
    exact S_congr fun y _ => by rw [h.other hx hp]

theorem SolSt.row_at (h : SolSt A n m cols σ pv M d) {i : Nat} (hi : i < pv.length) : pv[i].1 = σ i := by
  have h1 : (rowsOf pv)[i]? = some pv[i].1 := by simp [rowsOf, hi]
  rw [h.row] at h1
  simp [hi] at h1
  exact h1.symm
theorem SolSt.red (h : SolSt A n m cols σ pv M d) {i l : Nat} (hi : i < pv.length) (hl : l < pv.length) : M (σ i) pv[l].2 = if i = l then d else 0 := by
  have hp : pv = pv.take i ++ pv[i] :: pv.drop (i + 1) := by simp
  rw [← h.row_at hi]
  by_cases e : i = l
  · subst e; rw [if_pos rfl]; exact h.bar.diag hp
  · rw [if_neg e]
    refine h.bar.off hp ?_
    by_cases e2 : l < i
    · exact .inl (List.mem_iff_getElem.2 ⟨l, by simp; omega, by simp⟩)
    · exact .inr (List.mem_iff_getElem.2 ⟨l - (i + 1), by simp; omega, by simp [show i + 1 + (l - (i + 1)) = l by omega]⟩)
end

/-- The matrix with a unit matrix beside it. -/
def augF (n : Nat) (A : Nat → Nat → Int) (x j : Nat) : Int := if j < n then A x j else if j - n = x then 1 else 0

section
variable {A : Nat → Nat → Int} {n m : Nat} {cols : List Nat} {σ : Nat → Nat} {pv : List (Nat × Nat)} {M : Nat → Nat → Int} {d : Int}
/-- Each row is the sum of the equations, each times its factor. -/
theorem SolSt.by_ (h : SolSt (augF n A) n m cols σ pv M d) {x j : Nat} (hx : x < m) (hj : j < n) : M x j = S (List.range m) fun y => A y j * M x (n + y) := by
  refine h.bar.lin (List.range m) (fun y => A y j) (fun y => n + y) (fun z hz => ?_) hx
  have e1 : augF n A z j = A z j := by unfold augF; rw [if_pos hj]
  rw [e1, ← S_single List.nodup_range (List.mem_range.2 hz) fun y => A y j]
  refine S_congr fun y _ => ?_
  have e2 : augF n A z (n + y) = if y = z then 1 else 0 := by unfold augF; rw [if_neg (by omega), Nat.add_sub_cancel_left]
  rw [e2]
  by_cases e : y = z
  · rw [if_pos e, if_pos e]; simp
  · rw [if_neg e, if_neg e]; simp
end

/-- A family with one vector more. -/
def snocF (a : Nat) (L : Nat → Nat → Int) (e : Nat → Int) (x : Nat) : Nat → Int := if x = a then e else L x
theorem snocF_lt {a : Nat} {L : Nat → Nat → Int} {e : Nat → Int} {x : Nat} (h : x < a) : snocF a L e x = L x := by unfold snocF; rw [if_neg (by omega)]
theorem snocF_at {a : Nat} {L : Nat → Nat → Int} {e : Nat → Int} : snocF a L e a = e := by unfold snocF; rw [if_pos rfl]

structure BasisOf (n a : Nat) (L Y : Nat → Nat → Int) (R : List Nat) (d : Int) : Prop where
  hR : ∀ r ∈ R, r < n
  tri : ∀ i (hi : i < R.length), Y i R[i] ≠ 0 ∧ ∀ x, i < x → x < R.length → Y x R[i] = 0
  hY : ∀ i, i < R.length → InSpan 0 n a L (Y i)
  hd : d ≠ 0
  hA : ∀ x, x < a → InSpan 0 n R.length Y (fun j => d * L x j)

theorem BasisOf.rank {n a : Nat} {L Y : Nat → Nat → Int} {R : List Nat} {d : Int} (h : BasisOf n a L Y R d) : RankIs (fam a L) n R.length := by
  refine rank_basis R h.hR rfl ?_ h.hY h.hd h.hA
  have := tri_ne primeLike_zero zero_not_one R 0 Y (fun i hi => ⟨by rw [Int.zero_dvd, Nat.zero_add]; exact (h.tri i hi).1, fun x h1 h2 => by rw [Int.zero_dvd, Nat.zero_add]; exact (h.tri i hi).2 x h1 h2⟩)
  rw [Int.zero_dvd] at this
  simpa only [fam, Nat.zero_add] using this

theorem InSpan.more {m : Int} {n a b : Nat} {L L' : Nat → Nat → Int} {v : Nat → Int} (h : InSpan m n a L v) (hab : a ≤ b) (hL : ∀ x, x < a → L' x = L x) : InSpan m n b L' v :=
  h.trans fun k hk => by rw [← hL k hk]; exact InSpan.mem (by omega)

theorem BasisOf.add_in {n a : Nat} {L Y : Nat → Nat → Int} {R : List Nat} {d : Int} (h : BasisOf n a L Y R d) {e : Nat → Int} (he : InSpan 0 n R.length Y (fun j => d * e j)) : BasisOf n (a + 1) (snocF a L e) Y R d :=
  ⟨h.hR, h.tri, fun i hi => (h.hY i hi).more (by omega) fun x hx => snocF_lt hx, h.hd, fun x hx => by
    by_cases hxa : x = a
    · subst hxa; rw [snocF_at]; exact he
    · rw [snocF_lt (by omega)]; exact h.hA x (by omega)⟩

theorem BasisOf.add_out {n a : Nat} {L Y : Nat → Nat → Int} {R : List Nat} {d : Int} (h : BasisOf n a L Y R d) {e : Nat → Int} {c : Nat} (hc : c < n) (he0 : ∀ r ∈ R, e r = 0) (hec : e c ≠ 0) :
    BasisOf n (a + 1) (snocF a L e) (snocF R.length Y e) (R ++ [c]) d := by
  refine ⟨fun r hr => ?_, fun i hi => ?_, fun i hi => ?_, h.hd, fun x hx => ?_⟩
  · rcases List.mem_append.1 hr with h1 | h1
    · exact h.hR r h1
    · simp at h1; omega
  · by_cases e1 : i < R.length
    · rw [List.getElem_append_left e1, snocF_lt e1]
      refine ⟨(h.tri i e1).1, fun x h1 h2 => ?_⟩
      by_cases e2 : x = R.length
      · subst e2; rw [snocF_at]; exact he0 _ (List.getElem_mem e1)
      · simp only [List.length_append, List.length_singleton] at h2
        rw [snocF_lt (by omega)]; exact (h.tri i e1).2 x h1 (by omega)
    · have : i = R.length := by simp at hi; omega
      subst this
      simp only [List.getElem_concat_length, snocF_at]
      exact ⟨hec, fun x h1 h2 => by simp at h2; omega⟩
  · by_cases e1 : i < R.length
    · rw [snocF_lt e1]; exact (h.hY i e1).more (by omega) fun x hx => snocF_lt hx
    · have : i = R.length := by simp at hi; omega
      subst this
      rw [snocF_at]
      have := InSpan.mem (m := 0) (n := n) (cnt := a + 1) (Y := snocF a L e) (k := a) (by omega)
      rwa [snocF_at] at this
  · rw [List.length_append, List.length_singleton]
    by_cases hxa : x = a
    · subst hxa; rw [snocF_at]
      have := InSpan.mem (m := 0) (n := n) (cnt := R.length + 1) (Y := snocF R.length Y e) (k := R.length) (by omega)
      rw [snocF_at] at this
      have := this.comb this d 0
      exact this.congr fun j _ => by rw [Int.zero_mul, Int.add_zero, Int.sub_self]; exact Int.dvd_zero _
    · rw [snocF_lt (by omega)]
      exact (h.hA x (by omega)).more (by omega) fun y hy => snocF_lt hy

section
variable {A : Nat → Nat → Int} {n m : Nat} {cols : List Nat} {σ : Nat → Nat} {pv : List (Nat × Nat)} {M : Nat → Nat → Int} {d : Int}
theorem colsP_get {pv : List (Nat × Nat)} {i : Nat} (hi : i < (colsP pv).length) : (colsP pv)[i] = (pv[i]'(by simpa [colsP] using hi)).2 := by simp [colsP]
theorem colsP_len (pv : List (Nat × Nat)) : (colsP pv).length = pv.length := by simp [colsP]

theorem SolSt.basis (h : SolSt (augF n A) n m cols σ pv M d) (hall : ∀ c, c < n → c ∈ cols) : BasisOf n m A (fun i => M (σ i)) (colsP pv) d := by
  have hle := h.le
  refine ⟨fun r hr => (h.cin r hr).2, fun i hi => ?_, fun i hi => ?_, h.bar.ne, fun x hx => ?_⟩
  · rw [colsP_get]
    rw [colsP_len] at hi
    refine ⟨by rw [h.red hi hi, if_pos rfl]; exact h.bar.ne, fun x h1 h2 => ?_⟩
    rw [colsP_len] at h2
    rw [h.red h2 hi, if_neg (by omega)]
  · rw [colsP_len] at hi
    refine ⟨fun y => M (σ i) (n + y), fun j hj => ?_⟩
    rw [h.by_ (h.lt i (by omega)) hj, S_congr (g := fun y => M (σ i) (n + y) * A y j) (fun y _ => Int.mul_comm _ _), Int.sub_self]
    exact Int.dvd_zero _
  · rw [colsP_len]
    refine ⟨fun i => if hi : i < pv.length then augF n A x pv[i].2 else 0, fun j hj => ?_⟩
    have e1 : augF n A x j = A x j := by unfold augF; rw [if_pos hj]
    have h1 : d * A x j = S pv fun q => augF n A x q.2 * M q.1 j := by
      rw [← e1]
      have := h.bar.rel x hx j
      by_cases hr : x ∈ rowsOf pv
      · rw [if_pos hr, Int.zero_add] at this; exact this
      · rw [if_neg hr] at this
        have hz : M x j = 0 := by
          -- x is some σ k behind the pivots
          have : ∃ k, k < m ∧ σ k = x := by
            have hnd : ((List.range m).map σ).Nodup := by
              refine List.pairwise_map.2 (List.Pairwise.imp_of_mem ?_ (List.nodup_range (n := m)))
              intro a b ha hb hab e
              exact hab (h.inj a b (List.mem_range.1 ha) (List.mem_range.1 hb) e)
            have hperm := perm_of_subset hnd (m := List.range m) (fun y hy => by
              obtain ⟨k, hk, rfl⟩ := List.mem_map.1 hy
              exact List.mem_range.2 (h.lt k (List.mem_range.1 hk))) (by simp)
            obtain ⟨k, hk, e⟩ := List.mem_map.1 (hperm.mem_iff.2 (List.mem_range.2 hx))
            exact ⟨k, List.mem_range.1 hk, e⟩
          obtain ⟨k, hk, rfl⟩ := this
          have hkp : pv.length ≤ k := by
            rcases Nat.lt_or_ge k pv.length with h3 | h3
            · exact absurd (by rw [h.row]; exact List.mem_map.2 ⟨k, List.mem_range.2 h3, rfl⟩) hr
            · exact h3
          exact h.zero k hkp hk j (hall j hj)
        rw [hz, Int.zero_add] at this; exact this
    show (0 : Int) ∣ d * A x j - S (List.range pv.length) fun i => (if hi : i < pv.length then augF n A x pv[i].2 else 0) * M (σ i) j
    rw [h1]
    have h3 : (S pv fun q => augF n A x q.2 * M q.1 j) = S (List.range pv.length) fun i => (if hi : i < pv.length then augF n A x pv[i].2 else 0) * M (σ i) j := by
      have e : pv = (List.range pv.length).map fun i => if hi : i < pv.length then pv[i] else (0, 0) := by
        apply List.ext_getElem?
        intro i
        by_cases hi : i < pv.length
        · simp [hi]
        · rw [List.getElem?_eq_none (by omega), List.getElem?_eq_none (by simp; omega)]
      have e2 : (S pv fun q => augF n A x q.2 * M q.1 j) = S ((List.range pv.length).map fun i => if hi : i < pv.length then pv[i] else (0, 0)) fun q => augF n A x q.2 * M q.1 j := by
        conv => lhs; rw [e]
      rw [e2, S_map]
      refine S_congr fun i hi => ?_
      rw [List.mem_range] at hi
      simp only [dif_pos hi]
      rw [h.row_at hi]
    rw [h3, Int.sub_self]
    exact Int.dvd_zero _
end

theorem rank_exists (A : Nat → Nat → Int) (a n : Nat) : ∃ k, RankIs (fam a A) n k := by
  obtain ⟨σ, pv, M, d, h⟩ := solved_exists (augF n A) n a (List.range n) (fun c hc => List.mem_range.1 hc)
  exact ⟨_, (h.basis fun c hc => List.mem_range.2 hc).rank⟩
/-- The rank of a rows of n numbers. -/
noncomputable def rkF (a n : Nat) (A : Nat → Nat → Int) : Nat := Classical.choose (rank_exists A a n)
theorem rkF_is (a n : Nat) (A : Nat → Nat → Int) : RankIs (fam a A) n (rkF a n A) := Classical.choose_spec (rank_exists A a n)
theorem rkF_eq {a n k : Nat} {A : Nat → Nat → Int} (h : RankIs (fam a A) n k) : rkF a n A = k := (rkF_is a n A).unique h
theorem BasisOf.rkF {n a : Nat} {L Y : Nat → Nat → Int} {R : List Nat} {d : Int} (h : BasisOf n a L Y R d) : rkF a n L = R.length := rkF_eq h.rank
end Go.Proofs.YtebkhdhhajjhfaaGreat.Gr

/- Jams and loose shafts, by ranks and by solved equations. Plain Lean. -/
namespace Go.Proofs.YtebkhdhhajjhfaaGreat.Gr

def eU (i j : Nat) : Int := if j = i then 1 else 0
theorem eU_ne {i j : Nat} (h : j ≠ i) : eU i j = 0 := if_neg h
theorem eU_same (i : Nat) : eU i i = 1 := if_pos rfl
/-- A shaft's turns are 0 in each motion: its unit line is in the equations' span. -/
def isJam (m n : Nat) (A : Nat → Nat → Int) (i : Nat) : Prop := rkF (m + 1) n (snocF m A (eU i)) = rkF m n A
def isLoose (m n : Nat) (A : Nat → Nat → Int) (i o : Nat) : Prop := rkF (m + 1 + 1) n (snocF (m + 1) (snocF m A (eU i)) (eU o)) ≠ rkF (m + 1) n (snocF m A (eU i))

section
variable {A : Nat → Nat → Int} {n m : Nat} {cols : List Nat} {σ : Nat → Nat} {pv : List (Nat × Nat)} {M : Nat → Nat → Int} {d : Int}

/-- The row of the last column, if this is a pivot's. -/
theorem SolSt.row_last (h : SolSt (augF n A) n m cols σ pv M d) (hall : ∀ c, c < n → c ∈ cols) {c1 : List Nat} {i : Nat} (hc : cols = c1 ++ [i]) (hn : cols.Nodup) {q : Nat × Nat} (hq : q ∈ pv) (hi : q.2 = i) (c : Nat) (hcn : c < n) : M q.1 c = if c = i then d else 0 := by
  by_cases e : c = i
  · rw [if_pos e, e, ← hi]
    obtain ⟨pre, post, hp⟩ := List.append_of_mem hq
    exact h.bar.diag hp
  · rw [if_neg e]
    have h1 : c ∈ c1 := by
      have := hall c hcn
      rw [hc] at this
      rcases List.mem_append.1 this with h1 | h1
      · exact h1
      · simp at h1; exact absurd h1 e
    obtain ⟨k, hk, hk2⟩ := List.mem_iff_getElem.1 h1
    refine h.left hn q hq k c1.length c hk ?_ ?_
    · rw [hc, hi]; simp
    · rw [hc, List.getElem?_append_left hk, ← hk2]; simp [hk]
/-- The row of the last column but one. -/
theorem SolSt.row_before (h : SolSt (augF n A) n m cols σ pv M d) (hall : ∀ c, c < n → c ∈ cols) {c1 : List Nat} {o i : Nat} (hc : cols = c1 ++ [o, i]) (hn : cols.Nodup) {q : Nat × Nat} (hq : q ∈ pv) (ho : q.2 = o) (c : Nat) (hcn : c < n) (hci : c ≠ i) : M q.1 c = if c = o then d else 0 := by
  by_cases e : c = o
  · rw [if_pos e, e, ← ho]
    obtain ⟨pre, post, hp⟩ := List.append_of_mem hq
    exact h.bar.diag hp
  · rw [if_neg e]
    have h1 : c ∈ c1 := by
      have := hall c hcn
      rw [hc] at this
      rcases List.mem_append.1 this with h1 | h1
      · exact h1
      · simp at h1; rcases h1 with h1 | h1
        · exact absurd h1 e
        · exact absurd h1 hci
    obtain ⟨k, hk, hk2⟩ := List.mem_iff_getElem.1 h1
    refine h.left hn q hq k c1.length c hk ?_ ?_
    · rw [hc, ho]; simp
    · rw [hc, List.getElem?_append_left hk, ← hk2]; simp [hk]

theorem SolSt.span_row (h : SolSt (augF n A) n m cols σ pv M d) {q : Nat × Nat} (hq : q ∈ pv) : InSpan 0 n (colsP pv).length (fun i => M (σ i)) (M q.1) := by
  obtain ⟨k, hk, rfl⟩ := List.getElem_of_mem hq
  rw [h.row_at hk, colsP_len]
  exact InSpan.mem (Y := fun i => M (σ i)) hk

theorem dvd_zero_of {u v : Int} (h : u = v) : (0 : Int) ∣ u - v := by rw [h, Int.sub_self]; exact Int.dvd_zero _

theorem SolSt.jam (h : SolSt (augF n A) n m cols σ pv M d) (hall : ∀ c, c < n → c ∈ cols) {c1 : List Nat} {i : Nat} (hc : cols = c1 ++ [i]) (hn : cols.Nodup) (hi : i < n) : isJam m n A i ↔ i ∈ colsP pv := by
  have hb := h.basis hall
  unfold isJam
  rw [hb.rkF]
  constructor
  · intro hr
    refine Classical.byContradiction fun hno => ?_
    rw [(hb.add_out hi (e := eU i) (fun r hr => eU_ne fun e => hno (e ▸ hr)) (by rw [eU_same]; decide)).rkF] at hr
    simp at hr
  · intro hm
    obtain ⟨q, hq, hqi⟩ := List.mem_map.1 hm
    exact (hb.add_in (e := eU i) ((h.span_row hq).congr fun j hj => dvd_zero_of (by
      rw [h.row_last hall hc hn hq hqi j hj]
      unfold eU
      split <;> simp))).rkF
/-- A shaft that is free: the equations with it held. -/
theorem SolSt.held (h : SolSt (augF n A) n m cols σ pv M d) (hall : ∀ c, c < n → c ∈ cols) {i : Nat} (hi : i < n) (hno : i ∉ colsP pv) :
    BasisOf n (m + 1) (snocF m A (eU i)) (snocF (colsP pv).length (fun i => M (σ i)) (eU i)) (colsP pv ++ [i]) d :=
  (h.basis hall).add_out hi (e := eU i) (fun r hr => eU_ne fun e => hno (e ▸ hr)) (by rw [eU_same]; decide)

theorem SolSt.loose_same (h : SolSt (augF n A) n m cols σ pv M d) (hall : ∀ c, c < n → c ∈ cols) {i : Nat} (hi : i < n) (hno : i ∉ colsP pv) : ¬ isLoose m n A i i := by
  have hb := h.held hall hi hno
  unfold isLoose
  rw [hb.rkF, (hb.add_in (e := eU i) ?_).rkF]
  · exact fun h => h rfl
  · rw [List.length_append, List.length_singleton]
    have := InSpan.mem (m := 0) (n := n) (cnt := (colsP pv).length + 1) (Y := snocF (colsP pv).length (fun i => M (σ i)) (eU i)) (k := (colsP pv).length) (by omega)
    rw [snocF_at] at this
    exact (this.comb this d 0).congr fun j _ => dvd_zero_of (by rw [Int.zero_mul, Int.add_zero])
theorem SolSt.loose (h : SolSt (augF n A) n m cols σ pv M d) (hall : ∀ c, c < n → c ∈ cols) {c1 : List Nat} {o i : Nat} (hc : cols = c1 ++ [o, i]) (hn : cols.Nodup) (hi : i < n) (ho : o < n) (hoi : o ≠ i) (hno : i ∉ colsP pv) : isLoose m n A i o ↔ o ∉ colsP pv := by
  have hb := h.held hall hi hno
  unfold isLoose
  rw [hb.rkF]
  constructor
  · intro hr hm
    refine hr ?_
    obtain ⟨q, hq, hqo⟩ := List.mem_map.1 hm
    refine (hb.add_in (e := eU o) ?_).rkF
    rw [List.length_append, List.length_singleton]
    have h1 := (h.span_row hq).more (b := (colsP pv).length + 1) (L' := snocF (colsP pv).length (fun i => M (σ i)) (eU i)) (by omega) (fun x hx => snocF_lt hx)
    have h2 := InSpan.mem (m := 0) (n := n) (cnt := (colsP pv).length + 1) (Y := snocF (colsP pv).length (fun i => M (σ i)) (eU i)) (k := (colsP pv).length) (by omega)
    rw [snocF_at] at h2
    refine (h1.comb h2 1 (- M q.1 i)).congr fun j hj => dvd_zero_of ?_
    by_cases e : j = i
    · subst e
      unfold eU
      rw [if_neg (fun e => hoi e.symm), if_pos rfl]
      simp
      omega
    · rw [h.row_before hall hc hn hq hqo j hj e]
      unfold eU
      rw [if_neg e]
      split <;> simp
  · intro hno2 hr
    rw [(hb.add_out ho (e := eU o) (fun r hr => by
      unfold eU
      rw [if_neg]
      rcases List.mem_append.1 hr with h1 | h1
      · exact fun e => hno2 (e ▸ h1)
      · simp at h1; rw [h1]; exact fun e => hoi e.symm) (by unfold eU; rw [if_pos rfl]; decide)).rkF] at hr
    simp at hr
end
end Go.Proofs.YtebkhdhhajjhfaaGreat.Gr

/- The reference's inverse modulo a prime: a power. -/
namespace Go.Proofs.YtebkhdhhajjhfaaGreat.Gr
open Go.RowKit

end Go.Proofs.YtebkhdhhajjhfaaGreat.Gr

/- Lists of lines in the call's own memory; the reference's rows. -/
namespace Go.Proofs.YtebkhdhhajjhfaaGreat.Gr
open Go.RowKit


end Go.Proofs.YtebkhdhhajjhfaaGreat.Gr

/- Rows of numbers in own memory, as a function of row and column (the reference's elimination). -/
namespace Go.Proofs.YtebkhdhhajjhfaaGreat.Gr
open Go.RowKit

end Go.Proofs.YtebkhdhhajjhfaaGreat.Gr

/- The reference's numbers modulo a prime. -/
namespace Go.Proofs.YtebkhdhhajjhfaaGreat.Gr
open Go.RowKit

end Go.Proofs.YtebkhdhhajjhfaaGreat.Gr

/- rankOf: the loops that clear a column. -/
namespace Go.Proofs.YtebkhdhhajjhfaaGreat.Gr
open Go.RowKit

end Go.Proofs.YtebkhdhhajjhfaaGreat.Gr

/- rankOf: the loop over the rows. -/
namespace Go.Proofs.YtebkhdhhajjhfaaGreat.Gr
open Go.RowKit

end Go.Proofs.YtebkhdhhajjhfaaGreat.Gr

/- rankOf: what its elimination keeps; lines to be read. -/
namespace Go.Proofs.YtebkhdhhajjhfaaGreat.Gr
open Go.RowKit

end Go.Proofs.YtebkhdhhajjhfaaGreat.Gr

/- rankOf: the walk. -/
namespace Go.Proofs.YtebkhdhhajjhfaaGreat.Gr
open Go.RowKit

end Go.Proofs.YtebkhdhhajjhfaaGreat.Gr

/- The reference's Rank: the greatest of the ranks modulo three primes. -/
namespace Go.Proofs.YtebkhdhhajjhfaaGreat.Gr
open Go.RowKit

end Go.Proofs.YtebkhdhhajjhfaaGreat.Gr

/- 'append(l, x)', where l is read afterwards: what is old stays; regions whose other operations only read or make new memory. -/
namespace Go.Proofs.YtebkhdhhajjhfaaGreat.Gr
open Go.RowKit

/-! ### The growth -/

theorem grownBy_refl (w : World) (r : Option Nat) : w.grownBy w r := ⟨rfl, rfl, rfl, Nat.le_refl _, fun _ _ _ => rfl⟩
section
variable {w0 w w' : World} {v : Value} {n S : Nat} {cells : List Value} {xs : List Int} {base : Nat}
theorem _root_.Go.Proofs.YtebkhdhhajjhfaaGreat.Ext.grownBy (h : Ext w w') (r : Option Nat) : w.grownBy w' r := ⟨h.os, h.tape, h.output, h.le, fun k hk _ => h.block k hk⟩
end
end Go.Proofs.YtebkhdhhajjhfaaGreat.Gr

/- The reference's unit line. -/
namespace Go.Proofs.YtebkhdhhajjhfaaGreat.Gr
open Go.RowKit

end Go.Proofs.YtebkhdhhajjhfaaGreat.Gr

/- Lines to be read, out of lists of lines; their numbers are small. -/
namespace Go.Proofs.YtebkhdhhajjhfaaGreat.Gr
open Go.RowKit

/-- The equations as a matrix. -/
def gearL (ms : List Msh) (S k j : Nat) : Int := getI (lineI ms S k) j
theorem getI_set_abs {L : List Int} {b : Nat} (h : ∀ j, (getI L j).natAbs ≤ b) (a : Nat) {v : Int} (hv : v.natAbs ≤ b) (j : Nat) : (getI (L.set a v) j).natAbs ≤ b := by
  have := h j
  unfold getI at *
  rw [List.getElem?_set]
  by_cases e : a = j
  · subst e
    by_cases hl : a < L.length
    · rw [if_pos rfl, if_pos hl]; exact hv
    · rw [if_pos rfl, if_neg hl]; simp
  · rw [if_neg e]; exact this
theorem getI_zeros (n b j : Nat) : (getI (List.replicate n 0) j).natAbs ≤ b := by
  unfold getI
  by_cases h : j < n
  · rw [List.getElem?_replicate, if_pos h]; simp
  · rw [List.getElem?_replicate, if_neg h]; simp
theorem facS_48 {x : Msh} {n : Nat} (h : validB x (n : Int) = true) (j : Nat) : (getI (facS x n) j).natAbs ≤ 48 := by
  have hv : validP x n := of_decide_eq_true h
  have ht : teethS x.kind = true → (1 ≤ x.n ∧ x.n ≤ 24) ∧ (1 ≤ x.m ∧ x.m ≤ 24) := fun e => by
    have := hv.2.2.2.2
    rwa [if_pos e] at this
  have h0 := getI_zeros n 48
  unfold facS
  split
  · rename_i h1
    have := ht (by simp [teethS, h1])
    exact getI_set_abs (getI_set_abs h0 _ (by omega)) _ (by omega) j
  split
  · rename_i _ h1
    have := ht (by simp [teethS, h1])
    exact getI_set_abs (getI_set_abs h0 _ (by omega)) _ (by omega) j
  split
  · exact getI_set_abs h0 _ (by decide) j
  split
  · exact getI_set_abs (getI_set_abs (getI_set_abs h0 _ (by decide)) _ (by decide)) _ (by decide) j
  split
  · rename_i h1
    have := ht (by simp [teethS, h1])
    exact getI_set_abs (getI_set_abs (getI_set_abs h0 _ (by omega)) _ (by omega)) _ (by omega) j
  · exact getI_set_abs (getI_set_abs h0 _ (by decide)) _ (by decide) j

end Go.Proofs.YtebkhdhhajjhfaaGreat.Gr

/- A train's equations, solved: the code's three calls brought together. -/
namespace Go.Proofs.YtebkhdhhajjhfaaGreat.Gr
open Go.RowKit

/-! ### The order of columns, as natural numbers -/
def ordN (S : Nat) (ex tl : List Nat) : List Nat := (List.range S).filter (fun k => decide (k ∉ ex)) ++ tl
theorem ordP_nat (ex : List Nat) : ∀ S, ordP (ex.map fun (k : Nat) => (k : Int)) S = ((List.range S).filter (fun k => decide (k ∉ ex))).map fun (k : Nat) => (k : Int)
  | 0 => rfl
  | S + 1 => by
    have hm : memB (ex.map fun (k : Nat) => (k : Int)) (S : Int) = decide (S ∈ ex) := by
      unfold memB
      simp only [List.mem_map, decide_eq_decide]
      constructor
      · rintro ⟨a, h1, h2⟩
        have : a = S := by omega
        exact this ▸ h1
      · intro h; exact ⟨S, h, rfl⟩
    rw [List.range_succ, List.filter_append, List.map_append, ← ordP_nat ex S]
    by_cases h : S ∈ ex
    · rw [ordP_skip (by rw [hm]; simpa using h)]; simp [h]
    · rw [ordP_take (by rw [hm]; simpa using h)]; simp [h]
theorem ordS_one (S i : Nat) : ordS S [(i : Int)] = (ordN S [i] [i]).map fun (k : Nat) => (k : Int) := by
  have := ordP_nat [i] S
  unfold ordS ordN
  rw [List.map_append, ← this]
  rfl
theorem ordS_same (S i : Nat) : ordS S [(i : Int), (i : Int)] = (ordN S [i] [i]).map fun (k : Nat) => (k : Int) := by
  have h1 : ∀ S, ordP [(i : Int), (i : Int)] S = ordP [(i : Int)] S := by
    intro S
    induction S with
    | zero => rfl
    | succ S ih => unfold ordP; rw [ih]; simp [memB]
  rw [← ordS_one]
  unfold ordS
  rw [h1]
  simp
theorem ordS_two {S o i : Nat} (h : o ≠ i) : ordS S [(o : Int), (i : Int)] = (ordN S [o, i] [o, i]).map fun (k : Nat) => (k : Int) := by
  have := ordP_nat [o, i] S
  unfold ordS ordN
  rw [List.map_append, ← this]
  have hne : ¬ ((o : Int) = (i : Int)) := by omega
  simp [hne]
theorem ordN_lt {S : Nat} {ex tl : List Nat} (ht : ∀ c ∈ tl, c < S) : ∀ c ∈ ordN S ex tl, c < S := fun c hc => by
  rcases List.mem_append.1 hc with h | h
  · exact List.mem_range.1 (List.mem_filter.1 h).1
  · exact ht c h
theorem ordN_all {S : Nat} {ex tl : List Nat} (ht : ∀ c ∈ ex, c ∈ tl) : ∀ c, c < S → c ∈ ordN S ex tl := fun c hc => by
  by_cases h : c ∈ ex
  · exact List.mem_append.2 (.inr (ht c h))
  · exact List.mem_append.2 (.inl (List.mem_filter.2 ⟨List.mem_range.2 hc, by simpa using h⟩))
theorem ordN_nodup {S : Nat} {ex tl : List Nat} (ht : ∀ c ∈ tl, c ∈ ex) (hn : tl.Nodup) : (ordN S ex tl).Nodup :=
  List.nodup_append.2 ⟨List.nodup_range.filter _, hn, fun a ha b hb e => by
    subst e
    have := (List.mem_filter.1 ha).2
    simp at this
    exact this (ht a hb)⟩
/-! ### The rows, as solve reads them -/
theorem augA_eq (ms : List Msh) (S : Nat) : augA S (lineI ms S) = augF S (gearL ms S) := rfl
theorem lineOf_aug {ms : List Msh} {S k : Nat} (hk : k < ms.length) : lineOf (augA S (lineI ms S)) S k = lineI ms S k := by
  have hl : (lineI ms S k).length = S := by rw [lineI_eq hk]; exact facS_length _ _
  apply List.ext_getElem?
  intro j
  unfold lineOf
  by_cases hj : j < S
  · simp [hj, augA, getI, hl]
  · rw [List.getElem?_eq_none (by simpa using hj), List.getElem?_eq_none (by omega)]
theorem byOf_aug {ms : List Msh} {S m k : Nat} : byOf (augA S (lineI ms S)) S m k = unitL m k := by
  apply List.ext_getElem?
  intro j
  unfold byOf unitL
  by_cases hj : j < m
  · have hh : augA S (lineI ms S) k (S + j) = if j = k then 1 else 0 := by unfold augA; rw [if_neg (by omega), Nat.add_sub_cancel_left]
    by_cases e : j = k
    · subst e; rw [if_pos rfl] at hh; simp [hj, hh]
    · have e' : ¬ k = j := fun h => e h.symm
      rw [if_neg e] at hh
      simp [hj, hh, e']
  · rw [List.getElem?_eq_none (by simpa using hj), List.getElem?_eq_none (by simpa using hj)]

theorem Mat.rin {b w : World} {A : Option Addr} {k c S : Nat} {ms : List Msh} {rs : List RowM} (h : Mat b w (.slice A k c) S ms.length rs) (hr : RowsOf ms S ms.length rs) :
    RIn w A S ms.length (fun k => lineOf (augA S (lineI ms S)) S k) (fun k => byOf (augA S (lineI ms S)) S ms.length k) := fun k hk => by
  have hk' : k < rs.length := by rw [hr.len]; exact hk
  obtain ⟨ad, e1, hc⟩ := Row.struct (w := w) (size := 2) (rows := rs.map (RowM.cells S ms.length)) h.own.row (by simp [RowM.cells]) (k := k) (by simpa using hk') (by omega)
  have hrow := h.rows rs[k] (List.getElem_mem hk')
  refine ⟨ad, some ⟨rs[k].g, 0, none⟩, some ⟨rs[k].h, 0, none⟩, e1, fun w' he => ?_, fun w' he => ?_, fun w' he => ?_, fun w' he => ?_, ?_, ?_⟩
  · have := hc 0 (by omega) w' he
    rw [add_zero_] at this
    simpa [RowM.cells] using this
  · have := hc 1 (by omega) w' he
    rw [add_lit _ _ (by omega)] at this
    simpa [RowM.cells] using this
  · show Ints w' _ (lineOf (augA S (lineI ms S)) S k)
    rw [lineOf_aug hk, ← hr.l k hk']
    exact (hrow.gl.later he).ints
  · show Ints w' _ (byOf (augA S (lineI ms S)) S ms.length k)
    rw [byOf_aug, ← hr.b k hk']
    exact (hrow.hb.later he).ints
  · exact lineOf_length
  · exact byOf_length

def isRows (b : World) (ms : List Msh) (S : Nat) (v : Value) (w : World) : Prop := ∃ rs, Mat b w v S ms.length rs ∧ RowsOf ms S ms.length rs
def isNats (l : List Nat) (v : Value) (w : World) : Prop := isInts (l.map fun (k : Nat) => (k : Int)) v w
/-- A value of the type 'solved'. -/
def isSolved (b : World) (ms : List Msh) (S : Nat) (cols : List Nat) (u : Value) (w : World) : Prop :=
  ∃ v ordv mb g h σ pv M d D, u = .agg #[v, .map (some mb), ordv, .int .i64 d] ∧ SolSt (augF S (gearL ms S)) S ms.length cols σ pv M d ∧
    MF b w v S ms.length ms.length g h (fun k => lineOf M S (σ k)) (fun k => byOf M S ms.length (σ k)) ∧ MapI w mb pv.length D ∧ MapIs D (colsP pv) ∧ isNats cols ordv w
theorem MapI.later {w w' : World} {mb cnt : Nat} {D : DataW Unit} (h : MapI w mb cnt D) (he : Ext w w') : MapI w' mb cnt D := by
  obtain ⟨es, clock, hb, r⟩ := h
  exact ⟨es, clock, he.heap hb, r⟩
theorem isRows.later {b w w' : World} {ms : List Msh} {S : Nat} {v : Value} (h : isRows b ms S v w) (he : Ext w w') : isRows b ms S v w' := by
  obtain ⟨rs, h1, h2⟩ := h
  exact ⟨rs, h1.later he, h2⟩
theorem isNats.later {l : List Nat} {v : Value} {w w' : World} (h : isNats l v w) (he : Ext w w') : isNats l v w' := isInts.ext he h
theorem MF.since {b0 b w : World} {v : Value} {n m c : Nat} {g h : Nat → Nat} {L B : Nat → List Int} (hm : MF b w v n m c g h L B) (he : Ext b0 b) : MF b0 w v n m c g h L B :=
  ⟨hm.own.since he, fun k hk => ⟨(hm.gl k hk).1.since he, (hm.gl k hk).2⟩, fun k hk => ⟨(hm.hb k hk).1.since he, (hm.hb k hk).2⟩, hm.gg, hm.hh, hm.gh⟩
theorem isSolved.later {b w w' : World} {ms : List Msh} {S : Nat} {cols : List Nat} {u : Value} (h : isSolved b ms S cols u w) (he : Ext w w') : isSolved b ms S cols u w' := by
  obtain ⟨v, ordv, mb, g, h, σ, pv, M, d, D, e, hs, hm, hp, hd, ho⟩ := h
  exact ⟨v, ordv, mb, g, h, σ, pv, M, d, D, e, hs, hm.later he, hp.later he, hd, ho.later he⟩
theorem rows_is (A : Option Addr) (c S : Nat) (ms : List Msh) (w : World) (hA : MRow w A ms) (ht : trainP S ms) :
    Calls Tryz.prog 48 #[.agg #[.int .i64 S, .slice A ms.length c]] w fun e w' => ∃ v, e = .returned v ∧ Ext w w' ∧ isRows w ms S v w' :=
  (rows_any A c S ms w hA ht).mono fun e w' h => by
    obtain ⟨v, rs, rfl, h1, h2⟩ := h
    exact ⟨v, rfl, h1.own.ext, rs, h1, h2⟩

theorem solve_is {b w : World} {S : Nat} {ms : List Msh} {cols : List Nat} {rv ov : Value} (ht : trainP S ms) (hr : isRows b ms S rv w) (ho : isNats cols ov w) (hc : ∀ c ∈ cols, c < S) (hcl : cols.length ≤ 1000) :
    Calls Tryz.prog 47 #[rv, ov] w fun e w' => ∃ v, e = .returned v ∧ Ext w w' ∧ isSolved w ms S cols v w' := by
  obtain ⟨rs, h1, h2⟩ := hr
  obtain ⟨A, c, rfl⟩ := h1.own.form
  obtain ⟨Or, oc, rfl, hoi⟩ := ho
  have hrl : rs.length = ms.length := h2.len
  have hl : (cols.map fun (k : Nat) => (k : Int)).length = cols.length := by simp
  rw [hrl, hl]
  rw [hrl] at h1
  refine (solve_any A c S ms.length (augA S (lineI ms S)) Or oc cols w (h1.rin h2) hoi hc hcl (by have := ht.2.1; omega) ht.2.2.1 fun x hx C hC => aug_small (by rw [lineI_eq hx]; exact facS_small (ht.2.2.2 x hx)) C hC).mono fun e w' h => ?_
  obtain ⟨v, mb, g, h, σ, pv, M, d, D, rfl, hs, hm, hp, hd, _⟩ := h
  refine ⟨_, rfl, hm.ext, v, _, mb, g, h, σ, pv, M, d, D, rfl, hs, hm, hp, hd, Or, oc, by rw [hl], hoi.ext hm.ext⟩
end Go.Proofs.YtebkhdhhajjhfaaGreat.Gr

/- What a solved train proves: bounds, and products with motions. Plain Lean. -/
namespace Go.Proofs.YtebkhdhhajjhfaaGreat.Gr

theorem D_small8 {A : Nat → Nat → Int} {m : Nat} (hA : ∀ x, x < m → ∀ C : List Nat, C.Nodup → S C (fun j => ((A x j).natAbs : Int)) ≤ 97) (C R : List Nat) (hC : C.Nodup) (hR : ∀ r ∈ R, r < m) (hl : C.length = R.length) (h8 : R.length ≤ 8) :
    (D (C.map (col A)) R).natAbs ≤ 9007199254740992 := by
  have h1 := (D_bound (C.map (col A)) R).resolve_right (by simpa using hl)
  have h2 : P' R (fun r => S (C.map (col A)) fun v => ((v r).natAbs : Int)) ≤ (97 : Int) ^ R.length := P_const fun r hr => ⟨S_abs_nonneg _ r, by
    rw [S_map]
    exact hA r (hR r hr) C hC⟩
  have h3 : (97 : Int) ^ R.length ≤ 97 ^ 8 := by
    have hn : 97 ^ R.length ≤ 97 ^ 8 := Nat.pow_le_pow_right (by decide) h8
    have hc : ∀ k : Nat, ((97 ^ k : Nat) : Int) = (97 : Int) ^ k := fun k => Int.natCast_pow 97 k
    rw [← hc, ← hc]
    exact Int.ofNat_le.2 hn
  have h4 : ((D (C.map (col A)) R).natAbs : Int) ≤ 97 ^ 8 := Int.le_trans h1 (Int.le_trans h2 h3)
  have h5 : (97 : Int) ^ 8 ≤ 9007199254740992 := by decide +kernel
  omega

/-- The pivots' rows fit into a proof. -/
theorem Bar.fits {A : Nat → Nat → Int} {m : Nat} {pv : List (Nat × Nat)} {M : Nat → Nat → Int} {d : Int} (h : Bar A m pv M d)
    (hA : ∀ x, x < m → ∀ C : List Nat, C.Nodup → S C (fun j => ((A x j).natAbs : Int)) ≤ 97) (hc : (colsP pv).Nodup) (h8 : pv.length ≤ 8) :
    d.natAbs ≤ 9007199254740992 ∧ ∀ q ∈ pv, ∀ j, (M q.1 j).natAbs ≤ 9007199254740992 := by
  have hR : ∀ r ∈ rowsOf pv, r < m := fun r hr => by
    obtain ⟨q, hq, rfl⟩ := List.mem_map.1 hr
    exact h.lt q hq
  refine ⟨?_, fun q0 hq0 j => ?_⟩
  · rw [h.det, colsOf_eq]
    exact D_small8 hA _ _ hc hR (by simp [colsP, rowsOf]) (by rw [rowsOf_length]; omega)
  · obtain ⟨pre, post, hpp⟩ := List.append_of_mem hq0
    rw [h.pivot hpp j]
    by_cases hj : j ∈ colsP pre ∨ j ∈ colsP post
    · have : D (colsOf A pre ++ col A j :: colsOf A post) (rowsOf pv) = 0 := by
        rcases hj with hj | hj
        · obtain ⟨q, hq, rfl⟩ := List.mem_map.1 hj
          exact D_mem_left (mem_cols hq) _ _
        · obtain ⟨q, hq, rfl⟩ := List.mem_map.1 hj
          exact D_mem_right (mem_cols hq) _ _
      rw [this]; decide
    · have e : colsOf A pre ++ col A j :: colsOf A post = (colsP pre ++ j :: colsP post).map (col A) := by simp [colsOf_eq]
      rw [e]
      refine D_small8 hA _ _ ?_ hR (by rw [hpp]; simp [colsP, rowsOf]) (by rw [rowsOf_length]; omega)
      have hc' : (colsP pre ++ q0.2 :: colsP post).Nodup := by rw [hpp] at hc; simpa [colsP] using hc
      rw [List.nodup_append] at hc' ⊢
      obtain ⟨n1, n2, n3⟩ := hc'
      rw [List.nodup_cons] at n2 ⊢
      refine ⟨n1, ⟨fun hm => hj (.inr hm), n2.2⟩, fun a ha b hb => ?_⟩
      rcases List.mem_cons.1 hb with rfl | hb
      · intro e; subst e; exact hj (.inl ha)
      · exact n3 a ha b (by simp [hb])

/-! ### Sums and products, as loops make them -/
/-- The sum of the first i equations, each times a factor, at a shaft. -/
def sumT (F : List Int) (L : Nat → Nat → Int) : Nat → Nat → Int
  | 0, _ => 0
  | i + 1, k => sumT F L i k + getI F i * L i k
/-- The product of a list with an equation, over the first k shafts. -/
def dotT (x : List Int) (c : Nat → Int) : Nat → Int
  | 0 => 0
  | k + 1 => dotT x c k + getI x k * c k

theorem dotT_zero (x : List Int) : ∀ k, dotT x (fun _ => 0) k = 0
  | 0 => rfl
  | k + 1 => by simp [dotT, dotT_zero x k]
theorem dotT_add (x : List Int) (a b : Nat → Int) (u : Int) : ∀ k, dotT x (fun j => a j + u * b j) k = dotT x a k + u * dotT x b k
  | 0 => by simp [dotT]
  | k + 1 => by
    simp only [dotT, dotT_add x a b u k]
    rw [Int.mul_add, Int.mul_add, Int.mul_left_comm]
    omega
theorem dotT_congr {x : List Int} {a b : Nat → Int} : ∀ {k}, (∀ j, j < k → a j = b j) → dotT x a k = dotT x b k
  | 0, _ => rfl
  | k + 1, h => by rw [dotT, dotT, dotT_congr fun j hj => h j (by omega), h k (by omega)]
/-- A sum of equations is 0 in each motion. -/
theorem dot_sum {x F : List Int} {L : Nat → Nat → Int} {n : Nat} : ∀ {m : Nat}, (∀ i, i < m → dotT x (L i) n = 0) → dotT x (sumT F L m) n = 0
  | 0, _ => by
    have : sumT F L 0 = fun _ => 0 := by funext k; rfl
    rw [this, dotT_zero]
  | m + 1, h => by
    have : sumT F L (m + 1) = fun k => sumT F L m k + getI F m * L m k := by funext k; rfl
    rw [this, dotT_add, dot_sum fun i hi => h i (by omega), h m (by omega)]
    simp
theorem dot_one {x : List Int} {c : Nat → Int} {i : Nat} : ∀ {n}, (∀ k, k < n → k ≠ i → c k = 0) → dotT x c n = if i < n then getI x i * c i else 0
  | 0, _ => by simp [dotT]
  | n + 1, h => by
    rw [dotT, dot_one fun k hk => h k (by omega)]
    by_cases e : i = n
    · subst e; rw [if_neg (by omega), if_pos (by omega)]; simp
    · rw [h n (by omega) (fun e' => e e'.symm)]
      by_cases e2 : i < n
      · rw [if_pos e2, if_pos (by omega)]; simp
      · rw [if_neg e2, if_neg (by omega)]; simp
theorem dot_two {x : List Int} {c : Nat → Int} {i o : Nat} (ho : i ≠ o) : ∀ {n}, (∀ k, k < n → k ≠ i → k ≠ o → c k = 0) → dotT x c n = (if i < n then getI x i * c i else 0) + (if o < n then getI x o * c o else 0)
  | 0, _ => by simp [dotT]
  | n + 1, h => by
    rw [dotT, dot_two ho fun k hk => h k (by omega)]
    by_cases e : i = n
    · subst e
      rw [if_neg (show ¬ i < i by omega), if_pos (show i < i + 1 by omega)]
      by_cases e2 : o < i
      · rw [if_pos e2, if_pos (show o < i + 1 by omega)]; omega
      · rw [if_neg e2, if_neg (show ¬ o < i + 1 by omega)]; omega
    · by_cases e3 : o = n
      · subst e3
        rw [if_neg (show ¬ o < o by omega), if_pos (show o < o + 1 by omega)]
        by_cases e2 : i < o
        · rw [if_pos e2, if_pos (show i < o + 1 by omega)]; omega
        · rw [if_neg e2, if_neg (show ¬ i < o + 1 by omega)]; omega
      · rw [h n (by omega) (fun e' => e e'.symm) (fun e' => e3 e'.symm)]
        have a1 : i < n ↔ i < n + 1 := by omega
        have a2 : o < n ↔ o < n + 1 := by omega
        simp only [a1, a2]
        simp

/-! ### Proofs -/
def sizedP (l : List Int) (n : Nat) : Prop := l.length = n ∧ ∀ x ∈ l, -9007199254740992 ≤ x ∧ x ≤ 9007199254740992
instance (l : List Int) (n : Nat) : Decidable (sizedP l n) := by unfold sizedP; infer_instance
def movesP (L : Nat → Nat → Int) (m n : Nat) (x : List Int) : Prop := sizedP x n ∧ ∀ i, i < m → dotT x (L i) n = 0
instance (L : Nat → Nat → Int) (m n : Nat) (x : List Int) : Decidable (movesP L m n x) := by unfold movesP; infer_instance
def jamPr (L : Nat → Nat → Int) (m n i : Nat) (F M T : List Int) : Prop := sizedP F m ∧ M.length = 0 ∧ T.length = 0 ∧ (∀ k, k < n → k ≠ i → sumT F L m k = 0) ∧ 0 < sumT F L m i
def loosePr (L : Nat → Nat → Int) (m n i o : Nat) (F M T : List Int) : Prop := F.length = 0 ∧ movesP L m n M ∧ movesP L m n T ∧ 0 < getI M i ∧ getI T i = 0 ∧ 0 < getI T o
def ratPr (L : Nat → Nat → Int) (m n i o : Nat) (num den : Int) (F M T : List Int) : Prop :=
  sizedP F m ∧ T.length = 0 ∧ movesP L m n M ∧ 0 < getI M i ∧ 1 ≤ den ∧ num.gcd den = 1 ∧
    (if i = o then (∀ k, k < n → sumT F L m k = 0) ∧ num = 1 ∧ den = 1
    else (∀ k, k < n → k ≠ i → k ≠ o → sumT F L m k = 0) ∧ (sumT F L m o).tmod den = 0 ∧ 1 ≤ (sumT F L m o).tdiv den ∧
      (sumT F L m i).tmod ((sumT F L m o).tdiv den) = 0 ∧ -(sumT F L m i).tdiv ((sumT F L m o).tdiv den) = num)
instance (L : Nat → Nat → Int) (m n i o : Nat) (num den : Int) (F M T : List Int) : Decidable (ratPr L m n i o num den F M T) := by unfold ratPr; infer_instance

section
variable {L : Nat → Nat → Int} {m n i o : Nat}
/-- A jam: no motion turns the shaft. -/
theorem jamPr.still {F M T x : List Int} (h : jamPr L m n i F M T) (hi : i < n) (hx : ∀ j, j < m → dotT x (L j) n = 0) : getI x i = 0 := by
  have h1 := dot_sum (F := F) hx
  rw [dot_one h.2.2.2.1, if_pos hi] at h1
  have := h.2.2.2.2
  rcases Int.mul_eq_zero.1 h1 with h2 | h2
  · exact h2
  · omega
/-- What a ratio's proof says of each motion. -/
theorem ratPr.turns {num den : Int} {F M T x : List Int} (h : ratPr L m n i o num den F M T) (hi : i < n) (ho : o < n) (hx : ∀ j, j < m → dotT x (L j) n = 0) : getI x o * den = getI x i * num := by
  obtain ⟨_, _, _, _, hd, _, h7⟩ := h
  by_cases e : i = o
  · rw [if_pos e] at h7
    rw [e, h7.2.1, h7.2.2]
  · rw [if_neg e] at h7
    obtain ⟨h1, h2, h3, h4, h5⟩ := h7
    have h0 := dot_sum (F := F) hx
    rw [dot_two e h1, if_pos hi, if_pos ho] at h0
    have e1 := Int.tdiv_mul_add_tmod (sumT F L m o) den
    have e2 := Int.tdiv_mul_add_tmod (sumT F L m i) ((sumT F L m o).tdiv den)
    rw [h2] at e1
    rw [h4] at e2
    generalize (sumT F L m o).tdiv den = s at *
    generalize (sumT F L m i).tdiv s = u at *
    have e1' : sumT F L m o = s * den := by omega
    have e2' : sumT F L m i = u * s := by omega
    rw [e1', e2'] at h0
    rw [← h5]
    have h6 : s * (getI x i * u + getI x o * den) = 0 := by
      rw [← h0, Int.mul_add, Int.mul_left_comm s (getI x i) u, Int.mul_comm s u, Int.mul_left_comm s (getI x o) den]
    rcases Int.mul_eq_zero.1 h6 with h7 | h7
    · omega
    · rw [Int.mul_neg]; omega
theorem dvd_cop {a b c : Int} (h : b ∣ a * c) (hg : a.gcd b = 1) : b ∣ c := by
  rw [← Int.natAbs_dvd_natAbs, Int.natAbs_mul] at h
  rw [← Int.natAbs_dvd_natAbs]
  exact (Nat.Coprime.dvd_of_dvd_mul_left (show b.natAbs.Coprime a.natAbs by rw [Nat.coprime_comm]; exact hg) h)
theorem lowest_eq {a b c d : Int} (hb : 1 ≤ b) (hd : 1 ≤ d) (h1 : a.gcd b = 1) (h2 : c.gcd d = 1) (h : a * d = c * b) : a = c ∧ b = d := by
  have e1 : b ∣ d := by
    have : b ∣ a * d := ⟨c, by rw [h, Int.mul_comm]⟩
    exact dvd_cop this h1
  have e2 : d ∣ b := by
    have : d ∣ c * b := ⟨a, by rw [← h, Int.mul_comm]⟩
    exact dvd_cop this h2
  have hbd : b = d := Int.le_antisymm (Int.le_of_dvd (by omega) e1) (Int.le_of_dvd (by omega) e2)
  subst hbd
  exact ⟨Int.eq_of_mul_eq_mul_right (by omega) h, rfl⟩
/-- Two ratios are one. -/
theorem ratPr.same {num den num' den' : Int} {F M T F' M' T' : List Int} (h : ratPr L m n i o num den F M T) (h' : ratPr L m n i o num' den' F' M' T') (hi : i < n) (ho : o < n) : num = num' ∧ den = den' := by
  have h1 := h.turns hi ho h.2.2.1.2
  have h2 := h'.turns hi ho h.2.2.1.2
  have hM := h.2.2.2.1
  refine lowest_eq h.2.2.2.2.1 h'.2.2.2.2.1 h.2.2.2.2.2.1 h'.2.2.2.2.2.1 ?_
  have : getI M i * (num * den') = getI M i * (num' * den) := by
    rw [← Int.mul_assoc, ← h1, ← Int.mul_assoc, ← h2, Int.mul_assoc, Int.mul_assoc, Int.mul_comm den den']
  exact Int.eq_of_mul_eq_mul_left (by omega) this
theorem jam_no_ratio {num den : Int} {F M T F' M' T' : List Int} (h : jamPr L m n i F M T) (h' : ratPr L m n i o num den F' M' T') (hi : i < n) : False := by
  have := h.still hi h'.2.2.1.2
  have := h'.2.2.2.1
  omega
theorem ratio_no_loose {num den : Int} {F M T F' M' T' : List Int} (h : ratPr L m n i o num den F M T) (h' : loosePr L m n i o F' M' T') (hi : i < n) (ho : o < n) : False := by
  have h1 := h.turns hi ho h'.2.2.1.2
  have h2 := h'.2.2.2.2.1
  have h3 := h'.2.2.2.2.2
  have hd := h.2.2.2.2.1
  rw [h2, Int.zero_mul] at h1
  rcases Int.mul_eq_zero.1 h1 with h4 | h4 <;> omega
end
end Go.Proofs.YtebkhdhhajjhfaaGreat.Gr

/- What a solved train proves. Plain Lean. -/
namespace Go.Proofs.YtebkhdhhajjhfaaGreat.Gr

theorem dotT_S (x : List Int) (c : Nat → Int) : ∀ n, dotT x c n = S (List.range n) fun k => getI x k * c k
  | 0 => rfl
  | n + 1 => by rw [dotT, dotT_S x c n, List.range_succ, S_append, S_cons, S_nil, Int.add_zero]
theorem sumT_S (F : List Int) (L : Nat → Nat → Int) (k : Nat) : ∀ m, sumT F L m k = S (List.range m) fun y => getI F y * L y k
  | 0 => rfl
  | m + 1 => by rw [sumT, sumT_S F L k m, List.range_succ, S_append, S_cons, S_nil, Int.add_zero]

theorem mul4 (a b c d : Int) : (a * b) * (c * d) = (a * c) * (b * d) := by rw [Int.mul_assoc, Int.mul_left_comm b c d, ← Int.mul_assoc]
/-- The sign of a scale. -/
def sg (d : Int) : Int := if d < 0 then -1 else 1
theorem sg_mul (d : Int) : sg d * d = (d.natAbs : Int) := by unfold sg; split <;> omega
theorem sg_cases (d : Int) : sg d = 1 ∨ sg d = -1 := by unfold sg; split <;> simp
theorem sg_pos {d : Int} (h : d ≠ 0) : 0 < sg d * d := by rw [sg_mul]; omega

/-- A motion in which a free shaft turns. -/
def MotOf (n : Nat) (pv : List (Nat × Nat)) (M : Nat → Nat → Int) (d : Int) (f : Nat) (x : List Int) : Prop :=
  x.length = n ∧ getI x f = sg d * d ∧ (∀ q ∈ pv, getI x q.2 = -sg d * M q.1 f) ∧ ∀ j, j < n → j ≠ f → j ∉ colsP pv → getI x j = 0
/-- A row's factors, with a sign. -/
def FacOf (n m : Nat) (M : Nat → Nat → Int) (d : Int) (q : Nat × Nat) (F : List Int) : Prop := F.length = m ∧ ∀ y, y < m → getI F y = sg d * M q.1 (n + y)

section
variable {A : Nat → Nat → Int} {n m : Nat} {cols : List Nat} {σ : Nat → Nat} {pv : List (Nat × Nat)} {M : Nat → Nat → Int} {d : Int}

theorem SolSt.red' (h : SolSt (augF n A) n m cols σ pv M d) {q q' : Nat × Nat} (hq : q ∈ pv) (hq' : q' ∈ pv) : M q.1 q'.2 = if q = q' then d else 0 := by
  obtain ⟨i, hi, rfl⟩ := List.getElem_of_mem hq
  obtain ⟨l, hl, rfl⟩ := List.getElem_of_mem hq'
  rw [h.row_at hi, h.red hi hl]
  by_cases e : i = l
  · subst e; simp
  · rw [if_neg e, if_neg]
    intro e'
    have h2 : (colsP pv)[i]'(by rw [colsP_len]; exact hi) = (colsP pv)[l]'(by rw [colsP_len]; exact hl) := by rw [colsP_get, colsP_get, e']
    exact e ((List.getElem_inj h.cnd).1 h2)

/-- A row times such a motion is 0. -/
theorem SolSt.row_dot (h : SolSt (augF n A) n m cols σ pv M d) {f : Nat} {x : List Int} (hf : f < n) (hfo : f ∉ colsP pv) (hx : MotOf n pv M d f x) {q : Nat × Nat} (hq : q ∈ pv) : S (List.range n) (fun j => getI x j * M q.1 j) = 0 := by
  have hqn : q.2 < n := (h.cin q.2 (List.mem_map.2 ⟨q, hq, rfl⟩)).2
  have hne : q.2 ≠ f := fun e => hfo (e ▸ List.mem_map.2 ⟨q, hq, rfl⟩)
  have h1 : S (List.range n) (fun j => getI x j * M q.1 j) = S (List.range n) fun j => (if j = f then getI x j * M q.1 j else 0) + (if j = q.2 then getI x j * M q.1 j else 0) := S_congr fun j hj => by
    have hj := List.mem_range.1 hj
    by_cases e1 : j = f
    · rw [if_pos e1, if_neg (fun e => hne (e.symm.trans e1)), Int.add_zero]
    · rw [if_neg e1, Int.zero_add]
      by_cases e2 : j = q.2
      · rw [if_pos e2]
      · rw [if_neg e2]
        by_cases hc : j ∈ colsP pv
        · obtain ⟨q', hq', rfl⟩ := List.mem_map.1 hc
          rw [h.red' hq hq', if_neg (fun e => e2 (by rw [e])), Int.mul_zero]
        · rw [hx.2.2.2 j hj e1 hc, Int.zero_mul]
  rw [h1, S_add, S_single List.nodup_range (List.mem_range.2 hf) (fun j => getI x j * M q.1 j), S_single List.nodup_range (List.mem_range.2 hqn) (fun j => getI x j * M q.1 j)]
  rw [hx.2.1, hx.2.2.1 q hq, h.red' hq hq, if_pos rfl, Int.neg_mul, Int.neg_mul, Int.mul_assoc, Int.mul_assoc, Int.mul_comm d (M q.1 f)]
  omega

theorem SolSt.motion (h : SolSt (augF n A) n m cols σ pv M d) (hall : ∀ c, c < n → c ∈ cols) {f : Nat} {x : List Int} (hf : f < n) (hfo : f ∉ colsP pv) (hx : MotOf n pv M d f x) {i : Nat} (hi : i < m) : dotT x (A i) n = 0 := by
  obtain ⟨cf, hcf⟩ := (h.basis hall).hA i hi
  have h1 : d * dotT x (A i) n = 0 := by
    rw [dotT_S, ← S_mul]
    have h2 : S (List.range n) (fun j => d * (getI x j * A i j)) = S (List.range n) fun j => S (List.range (colsP pv).length) fun k => cf k * (getI x j * M (σ k) j) := S_congr fun j hj => by
      have h3 := Int.eq_of_sub_eq_zero (Int.zero_dvd.1 (hcf j (List.mem_range.1 hj)))
      have h3 : d * A i j = S (List.range (colsP pv).length) fun k => cf k * M (σ k) j := h3
      have h4 : d * (getI x j * A i j) = getI x j * (d * A i j) := Int.mul_left_comm _ _ _
      rw [h4, h3, ← S_mul]
      exact S_congr fun k _ => Int.mul_left_comm _ _ _
    rw [h2, S_comm]
    refine S_zero fun k hk => ?_
    rw [S_mul]
    have hk' : k < pv.length := by have := List.mem_range.1 hk; rwa [colsP_len] at this
    have h5 := h.row_dot hf hfo hx (List.getElem_mem hk')
    rw [h.row_at hk'] at h5
    rw [h5, Int.mul_zero]
  rcases Int.mul_eq_zero.1 h1 with h2 | h2
  · exact absurd h2 h.bar.ne
  · exact h2

theorem SolSt.factor (h : SolSt (augF n A) n m cols σ pv M d) {q : Nat × Nat} (hq : q ∈ pv) {F : List Int} (hF : FacOf n m M d q F) {k : Nat} (hk : k < n) : sumT F A m k = sg d * M q.1 k := by
  rw [sumT_S, h.by_ (h.bar.lt q hq) hk, ← S_mul]
  refine S_congr fun y hy => ?_
  rw [hF.2 y (List.mem_range.1 hy), Int.mul_assoc, Int.mul_comm (A y k)]

/-! ### The proofs -/
theorem fits_of {a : Int} {s : Int} (h : a.natAbs ≤ 9007199254740992) (hs : s = 1 ∨ s = -1) : -9007199254740992 ≤ s * a ∧ s * a ≤ 9007199254740992 := by
  rcases hs with rfl | rfl <;> omega
theorem SolSt.facSized (_h : SolSt (augF n A) n m cols σ pv M d) (hB : d.natAbs ≤ 9007199254740992 ∧ ∀ q ∈ pv, ∀ j, (M q.1 j).natAbs ≤ 9007199254740992) {q : Nat × Nat} (hq : q ∈ pv) {F : List Int} (hF : FacOf n m M d q F) : sizedP F m := by
  refine ⟨hF.1, fun x hx => ?_⟩
  obtain ⟨k, hk, rfl⟩ := List.getElem_of_mem hx
  have := hF.2 k (by rw [← hF.1]; exact hk)
  rw [getI_eq hk] at this
  rw [this]
  exact fits_of (hB.2 q hq _) (sg_cases d)
theorem SolSt.motSized (hB : d.natAbs ≤ 9007199254740992 ∧ ∀ q ∈ pv, ∀ j, (M q.1 j).natAbs ≤ 9007199254740992) {f : Nat} {x : List Int} (hx : MotOf n pv M d f x) : sizedP x n := by
  refine ⟨hx.1, fun y hy => ?_⟩
  obtain ⟨k, hk, rfl⟩ := List.getElem_of_mem hy
  have e : x[k] = getI x k := (getI_eq hk).symm
  rw [e]
  by_cases e1 : k = f
  · rw [e1, hx.2.1]; exact fits_of hB.1 (sg_cases d)
  · by_cases e2 : k ∈ colsP pv
    · obtain ⟨q, hq, rfl⟩ := List.mem_map.1 e2
      rw [hx.2.2.1 q hq]
      exact fits_of (hB.2 q hq _) (by rcases sg_cases d with h | h <;> rw [h] <;> simp)
    · rw [hx.2.2.2 k (by rw [← hx.1]; exact hk) e1 e2]; omega
theorem SolSt.moves (h : SolSt (augF n A) n m cols σ pv M d) (hall : ∀ c, c < n → c ∈ cols) (hB : d.natAbs ≤ 9007199254740992 ∧ ∀ q ∈ pv, ∀ j, (M q.1 j).natAbs ≤ 9007199254740992) {f : Nat} {x : List Int} (hf : f < n) (hfo : f ∉ colsP pv) (hx : MotOf n pv M d f x) : movesP A m n x ∧ 0 < getI x f :=
  ⟨⟨SolSt.motSized hB hx, fun _ hi => h.motion hall hf hfo hx hi⟩, by rw [hx.2.1]; exact sg_pos h.bar.ne⟩

theorem SolSt.provesJam (h : SolSt (augF n A) n m cols σ pv M d) (hall : ∀ c, c < n → c ∈ cols) (hB : d.natAbs ≤ 9007199254740992 ∧ ∀ q ∈ pv, ∀ j, (M q.1 j).natAbs ≤ 9007199254740992) {c1 : List Nat} {i : Nat} (hc : cols = c1 ++ [i]) (hn : cols.Nodup) (hi : i < n) {q : Nat × Nat} (hq : q ∈ pv) (hqi : q.2 = i) {F : List Int} (hF : FacOf n m M d q F) : jamPr A m n i F [] [] := by
  refine ⟨h.facSized hB hq hF, rfl, rfl, fun k hk hki => ?_, ?_⟩
  · rw [h.factor hq hF hk, h.row_last hall hc hn hq hqi k hk, if_neg hki, Int.mul_zero]
  · rw [h.factor hq hF hi, h.row_last hall hc hn hq hqi i hi, if_pos rfl]
    exact sg_pos h.bar.ne

theorem SolSt.provesLoose (h : SolSt (augF n A) n m cols σ pv M d) (hall : ∀ c, c < n → c ∈ cols) (hB : d.natAbs ≤ 9007199254740992 ∧ ∀ q ∈ pv, ∀ j, (M q.1 j).natAbs ≤ 9007199254740992) {i o : Nat} (hi : i < n) (ho : o < n) (hio : i ≠ o) (hni : i ∉ colsP pv) (hno : o ∉ colsP pv) {x y : List Int} (hx : MotOf n pv M d i x) (hy : MotOf n pv M d o y) : loosePr A m n i o [] x y := by
  obtain ⟨m1, p1⟩ := h.moves hall hB hi hni hx
  obtain ⟨m2, p2⟩ := h.moves hall hB ho hno hy
  exact ⟨rfl, m1, m2, p1, hy.2.2.2 i hi hio hni, p2⟩

theorem SolSt.provesSame (h : SolSt (augF n A) n m cols σ pv M d) (hall : ∀ c, c < n → c ∈ cols) (hB : d.natAbs ≤ 9007199254740992 ∧ ∀ q ∈ pv, ∀ j, (M q.1 j).natAbs ≤ 9007199254740992) {i : Nat} (hi : i < n) (hni : i ∉ colsP pv) {x : List Int} (hx : MotOf n pv M d i x) : ratPr A m n i i 1 1 (List.replicate m 0) x [] := by
  obtain ⟨m1, p1⟩ := h.moves hall hB hi hni hx
  have hz : ∀ y, getI (List.replicate m 0) y = 0 := fun y => by
    unfold getI
    rw [List.getElem?_replicate]
    split <;> rfl
  refine ⟨⟨List.length_replicate, fun y hy => by rw [(List.mem_replicate.1 hy).2]; omega⟩, rfl, m1, p1, by omega, rfl, ?_⟩
  rw [if_pos rfl]
  refine ⟨fun k _ => ?_, rfl, rfl⟩
  rw [sumT_S]
  exact S_zero fun y _ => by rw [hz, Int.zero_mul]

theorem SolSt.provesRatio (h : SolSt (augF n A) n m cols σ pv M d) (hall : ∀ c, c < n → c ∈ cols) (hB : d.natAbs ≤ 9007199254740992 ∧ ∀ q ∈ pv, ∀ j, (M q.1 j).natAbs ≤ 9007199254740992) {c1 : List Nat} {i o : Nat} (hc : cols = c1 ++ [o, i]) (hn : cols.Nodup) (hi : i < n) (ho : o < n) (hio : i ≠ o) (hni : i ∉ colsP pv) {q : Nat × Nat} (hq : q ∈ pv) (hqo : q.2 = o) {F x : List Int} (hF : FacOf n m M d q F) (hx : MotOf n pv M d i x) :
    ratPr A m n i o ((-M q.1 i).tdiv (sg d * (Int.gcd (M q.1 i) d : Int))) (d.tdiv (sg d * (Int.gcd (M q.1 i) d : Int))) F x [] := by
  obtain ⟨m1, p1⟩ := h.moves hall hB hi hni hx
  have hd := h.bar.ne
  have hso : sumT F A m o = sg d * d := by
    rw [h.factor hq hF ho, ← hqo, h.red' hq hq, if_pos rfl]
  have hsi : sumT F A m i = sg d * M q.1 i := h.factor hq hF hi
  have hoth : ∀ k, k < n → k ≠ i → k ≠ o → sumT F A m k = 0 := fun k hk h1 h2 => by
    rw [h.factor hq hF hk, h.row_before hall hc hn hq hqo k hk h1, if_neg h2, Int.mul_zero]
  generalize M q.1 i = r at *
  have hg0 : (Int.gcd r d : Int) ≠ 0 := by
    have : Int.gcd r d ≠ 0 := fun e => hd (Int.gcd_eq_zero_iff.1 e).2
    omega
  have hgp : 0 < (Int.gcd r d : Int) := by omega
  obtain ⟨u, hu⟩ := Int.gcd_dvd_left r d
  obtain ⟨v, hv⟩ := Int.gcd_dvd_right r d
  generalize hgg : (Int.gcd r d : Int) = g at *
  have huv : Int.gcd u v = 1 := by
    have h1 : Int.gcd (g * u) (g * v) = g.natAbs * Int.gcd u v := Int.gcd_mul_left g u v
    rw [← hu, ← hv] at h1
    have h2 : (Int.gcd r d) = g.natAbs := by omega
    rw [h2] at h1
    have h3 : 0 < g.natAbs := by omega
    have h4 : g.natAbs * 1 = g.natAbs * Int.gcd u v := by omega
    exact (Nat.eq_of_mul_eq_mul_left h3 h4).symm
  have hgs : sg d * g ≠ 0 := by rcases sg_cases d with e | e <;> rw [e] <;> omega
  have hss : sg d * sg d = 1 := by rcases sg_cases d with e | e <;> rw [e] <;> rfl
  have hden : d.tdiv (sg d * g) = sg d * v := by
    have : d = (sg d * v) * (sg d * g) := by
      conv => lhs; rw [hv]
      rw [mul4, hss, Int.one_mul, Int.mul_comm]
    conv => lhs; rw [this]
    rw [← this]
    conv => lhs; arg 1; rw [this]
    exact Int.mul_tdiv_cancel _ hgs
  have hnum : (-r).tdiv (sg d * g) = -(sg d * u) := by
    have : -r = (-(sg d * u)) * (sg d * g) := by
      conv => lhs; rw [hu]
      rw [Int.neg_mul, mul4, hss, Int.one_mul, Int.mul_comm u]
    rw [this]
    exact Int.mul_tdiv_cancel _ hgs
  rw [hden, hnum]
  have hvp : 0 < sg d * v := by
    have h1 := sg_pos hd
    have h2 : g * (sg d * v) = sg d * d := by rw [Int.mul_left_comm, ← hv]
    rw [← h2] at h1
    exact Int.pos_of_mul_pos_right h1 hgp
  have e1 : sumT F A m o = g * (sg d * v) := by rw [hso, Int.mul_left_comm, ← hv]
  have e2 : sumT F A m i = g * (sg d * u) := by rw [hsi, Int.mul_left_comm, ← hu]
  have e3 : (sumT F A m o).tdiv (sg d * v) = g := by rw [e1]; exact Int.mul_tdiv_cancel _ (by omega)
  refine ⟨h.facSized hB hq hF, rfl, m1, p1, by omega, ?_, ?_⟩
  · show (-(sg d * u)).natAbs.gcd (sg d * v).natAbs = 1
    have h1 : (-(sg d * u)).natAbs = u.natAbs := by rcases sg_cases d with e | e <;> rw [e] <;> omega
    have h2 : (sg d * v).natAbs = v.natAbs := by rcases sg_cases d with e | e <;> rw [e] <;> omega
    rw [h1, h2]
    exact huv
  · rw [if_neg hio, e3]
    refine ⟨hoth, ?_, by omega, ?_, ?_⟩
    · rw [e1]; exact Int.tmod_eq_zero_of_dvd ⟨g, Int.mul_comm _ _⟩
    · rw [e2]; exact Int.tmod_eq_zero_of_dvd ⟨_, rfl⟩
    · rw [e2, Int.mul_comm, Int.mul_tdiv_cancel _ hg0]
end
end Go.Proofs.YtebkhdhhajjhfaaGreat.Gr

/- Sums of equations: lists that loops fill; bounds. No program in sight but the table of types. -/
namespace Go.Proofs.YtebkhdhhajjhfaaGreat.Gr
open Go.RowKit

theorem NewInts.put {w w' : World} {g : Nat} {xs : List Int} (h : NewInts w w' g xs) (k : Nat) (v : Int) : NewInts w (w'.setCell ⟨g, k, none⟩ (vint v)) g (xs.set k v) := by
  refine ⟨h.1.setCell h.2.1 _, h.2.1, ?_⟩
  unfold World.setCell
  simp only [Array.getElem?_modify, if_true, h.2.2, Option.map_some]
  simp
theorem NewInts.frz {w w' : World} {g : Nat} {xs : List Int} (h : NewInts w w' g xs) (k : Nat) : w'.frozen? ⟨g, k, none⟩ = false := by simp [World.frozen?, h.2.2]

theorem heap_other {w : World} {p : Addr} {u : Value} {k : Nat} (h : ¬ p.block = k) : (w.setCell p u).heap[k]? = w.heap[k]? := by
  unfold World.setCell
  simp only [Array.getElem?_modify, if_neg h]

def outL (n : Nat) (f : Nat → Int) : List Int := (List.range n).map f
theorem outL_len (n : Nat) (f : Nat → Int) : (outL n f).length = n := by simp [outL]
theorem outL_get {n : Nat} {f : Nat → Int} {k : Nat} (h : k < n) : getI (outL n f) k = f k := by simp [outL, getI, h]
theorem outL_congr {n : Nat} {f g : Nat → Int} (h : ∀ k, k < n → f k = g k) : outL n f = outL n g := List.map_congr_left fun k hk => h k (List.mem_range.1 hk)
theorem outL_set {n : Nat} {f : Nat → Int} {k : Nat} {v : Int} : (outL n f).set k v = outL n fun j => if j = k then v else f j := by
  apply List.ext_getElem?
  intro j
  rw [List.getElem?_set]
  unfold outL
  by_cases hj : j < n
  · by_cases e : k = j
    · subst e; simp [hj]
    · rw [if_neg e]
      have e' : ¬ j = k := fun h => e h.symm
      simp [hj, e']
  · rw [List.getElem?_eq_none (l := List.map f (List.range n)) (by simp; omega), List.getElem?_eq_none (l := List.map _ (List.range n)) (by simp; omega)]
    simp only [List.length_map, List.length_range]
    split
    · rw [if_neg (by omega)]
    · rfl
theorem outL_zero (n : Nat) : outL n (fun _ => 0) = List.replicate n 0 := by
  apply List.ext_getElem?
  intro j
  unfold outL
  by_cases hj : j < n
  · simp [hj]
  · rw [List.getElem?_eq_none (by simp; omega), List.getElem?_eq_none (by simp; omega)]

/-- The sum of equations, where equation i has been added up to shaft k. -/
def accT (F : List Int) (L : Nat → Nat → Int) (i k j : Nat) : Int := if j < k then sumT F L (i + 1) j else sumT F L i j
theorem accT_zero (F : List Int) (L : Nat → Nat → Int) (i n : Nat) : outL n (accT F L i 0) = outL n (sumT F L i) := outL_congr fun j _ => if_neg (Nat.not_lt_zero j)
theorem accT_full (F : List Int) (L : Nat → Nat → Int) (i n : Nat) : outL n (accT F L i n) = outL n (sumT F L (i + 1)) := outL_congr fun _ hj => if_pos hj
theorem accT_at (F : List Int) (L : Nat → Nat → Int) (i k : Nat) : accT F L i k k = sumT F L i k := if_neg (Nat.lt_irrefl k)
theorem accT_step {F : List Int} {L : Nat → Nat → Int} {i k n : Nat} : (outL n (accT F L i k)).set k (sumT F L i k + getI F i * L i k) = outL n (accT F L i (k + 1)) := by
  rw [outL_set]
  refine outL_congr fun j _ => ?_
  unfold accT
  by_cases e : j = k
  · subst e; rw [if_pos rfl, if_pos (by omega)]; rfl
  · rw [if_neg e]
    have : j < k ↔ j < k + 1 := by omega
    simp only [this]

/-- The bounds of a sum. -/
def boundF (F : List Int) : Prop := ∀ y, (getI F y).natAbs ≤ 9007199254740992
def boundL (L : Nat → Nat → Int) (m n : Nat) : Prop := ∀ i, i < m → ∀ k, k < n → (L i k).natAbs ≤ 48
theorem sizedP.bound {l : List Int} {n : Nat} (h : sizedP l n) : boundF l := fun y => by
  by_cases hy : y < l.length
  · have := h.2 _ (List.getElem_mem hy)
    rw [getI_eq hy]
    omega
  · have : getI l y = 0 := by unfold getI; rw [List.getElem?_eq_none (by omega)]; rfl
    rw [this]; decide
theorem gearL_bound {S : Nat} {ms : List Msh} (ht : trainP S ms) : boundL (gearL ms S) ms.length S := fun i hi k _ => by
  unfold gearL
  rw [lineI_eq hi]
  exact facS_48 (ht.2.2.2 i hi) k
theorem mul_bound {a b : Int} (ha : a.natAbs ≤ 9007199254740992) (hb : b.natAbs ≤ 48) : (a * b).natAbs ≤ 432345564227567616 := by
  rw [Int.natAbs_mul]
  exact Nat.le_trans (Nat.mul_le_mul ha hb) (by decide)
theorem sumT_bound {F : List Int} {L : Nat → Nat → Int} {m n : Nat} (hF : boundF F) (hL : boundL L m n) {k : Nat} (hk : k < n) : ∀ {i}, i ≤ m → (sumT F L i k).natAbs ≤ i * 432345564227567616
  | 0, _ => by simp [sumT]
  | i + 1, hi => by
    have h1 := sumT_bound hF hL hk (i := i) (by omega)
    have h2 := mul_bound (hF i) (hL i (by omega) k hk)
    unfold sumT
    omega
theorem dotT_bound {x : List Int} {c : Nat → Int} (hx : boundF x) : ∀ {k}, (∀ j, j < k → (c j).natAbs ≤ 48) → (dotT x c k).natAbs ≤ k * 432345564227567616
  | 0, _ => by simp [dotT]
  | k + 1, h => by
    have h1 := dotT_bound hx (k := k) fun j hj => h j (by omega)
    have h2 := mul_bound (hx k) (h k (by omega))
    unfold dotT
    omega

/-- What 'sum' hands back. -/
def SumRes (w : World) (l : List Int) (e : Ending) (w' : World) : Prop := ∃ g, e = .returned (sl g l.length) ∧ NewInts w w' g l
end Go.Proofs.YtebkhdhhajjhfaaGreat.Gr

/- The sum of equations, by the code. -/
namespace Go.Proofs.YtebkhdhhajjhfaaGreat.Gr
open Go.RowKit

set_option maxRecDepth 100000 in
set_option maxHeartbeats 4000000 in
theorem sum_any (A : Option Addr) (c S : Nat) (ms : List Msh) (B : Option Addr) (d : Nat) (F : List Int) (w : World) (hA : MRow w A ms) (ht : trainP S ms) (hB : Ints w B F) (hF : sizedP F ms.length) :
    Calls Tryz.prog 119 #[.agg #[.int .i64 S, .slice A ms.length c], .slice B F.length d] w (SumRes w (outL S (sumT F (gearL ms S) ms.length))) := by
  have ha := fun k (hk : k < ms.length) => hA.at_ hk
  have ce := fun (k : Nat) (hk : k < ms.length) (w' : World) => equation_any ms[k] S w' (ht.2.2.2 k hk) (by have := ht.2.1; omega)
  have hl16 := ht.2.2.1
  have h8 : S ≤ 8 := by have := ht.2.1; omega
  have hfl := fun (k : Nat) (hk : k < ms.length) => facS_length ms[k] S
  have hFl : F.length = ms.length := hF.1
  have hb1 := fun (i k : Nat) (hi : i < ms.length) (hk : k < S) => mul_bound (hF.bound i) (gearL_bound ht i hi k hk)
  have hb2 := fun (i k : Nat) (hi : i ≤ ms.length) (hk : k < S) => sumT_bound hF.bound (gearL_bound ht) hk hi
  have hgl := fun (i k : Nat) (hi : i < ms.length) => (show gearL ms S i k = getI (facS ms[i] S) k by unfold gearL; rw [lineI_eq hi])
  have hb := fun (i : Nat) (hi : i < ms.length) => hB.some_ (by rw [hFl]; omega)
  rw [hFl] at hb
  have Ha := Lib.hid ha
  have Ce := Lib.hid ce
  have Hfl := Lib.hid hfl
  have Hb1 := Lib.hid hb1
  have Hb2 := Lib.hid hb2
  have Hgl := Lib.hid hgl
  have Hb := Lib.hid hb
  rw [hFl]
  clear ha ce hfl hb1 hb2 hgl hb hA ht hB hF hFl
  generalize gearL ms S = L at *
  obtain ⟨m, hm⟩ : ∃ m, m = ms.length := ⟨_, rfl⟩
  rw [← hm] at hl16 ⊢
  have Hm := Lib.hid hm
  clear hm
  go_enter Tryz.func119, Tryz.ntmps119
  have hexb : Ext w (w.alloc (.cells #[.int .i64 S, .slice A m c] 46)) := by simp
  have hp0 : ∀ w', Ext (w.alloc (.cells #[.int .i64 S, .slice A m c] 46)) w' → w'.cell? ⟨w.heap.size, 0, none⟩ = some (.int .i64 S) := fun w' he => he.cell (by simp)
  have hp1 : ∀ w', Ext (w.alloc (.cells #[.int .i64 S, .slice A m c] 46)) w' → w'.cell? ⟨w.heap.size, 1, none⟩ = some (.slice A m c) := fun w' he => he.cell (by simp)
  generalize hwb : w.alloc (.cells #[.int .i64 S, .slice A m c] 46) = wb at *
  go_wp2_with (first
    | (refine own_make (w1 := wb) int_elem rfl _ _ rfl Tryz.underlying128 _ S rfl rfl (by omega) (by unfold maxLen; omega) (Ext.refl _) ?_; intro w2 hown hx2; rw [made_ints] at hown; have hnew := NewInts.of_own hown))
  have Hexb := Lib.hid hexb
  have Hp0 := Lib.hid hp0
  have Hstart := Lib.hid hnew
  have hx2' := hx2
  clear hexb hp0 hp1 hown hnew hwb hx2 hx2'
  generalize wb.heap.size = g0 at *
  generalize w.heap.size = bx at *
  go_loopw [16] (fun i wr => ∃ k : Nat, k ≤ m ∧ i = .int .i64 k ∧ NewInts wb wr g0 (outL S (sumT F L k))) (fun i _ => m - (intOf i).toNat)
  case atStart => exact ⟨0, by omega, rfl, by have h := Hstart.out; rw [← outL_zero] at h; exact h⟩
  case round =>
    clear Hstart
    obtain ⟨wo, rfl⟩ : ∃ wo : World, wo = wr := ⟨_, rfl⟩
    obtain ⟨i, hi, rfl, hacc⟩ := hrel
    have hexw := Hexb.out.trans hacc.ext
    have hp0 : ∀ w', Ext wo w' → w'.cell? ⟨bx, 0, none⟩ = some (.int .i64 S) := fun w' he => Hp0.out w' (hacc.ext.trans he)
    by_cases hlt : i < m
    · have hip : i < ms.length := by rw [← Hm.out]; exact hlt
      obtain ⟨ad, rfl, q0, q1, q2, q3, q4, q5⟩ := Ha.out i hip
      obtain ⟨bd, rfl, hFc⟩ := Hb.out i hip
      have q0 := q0 wo hexw
      have q1 := q1 wo hexw
      have q2 := q2 wo hexw
      have q3 := q3 wo hexw
      have q4 := q4 wo hexw
      have q5 := q5 wo hexw
      have hFi := fun w' (he : Ext w w') => hFc i hip w' he
      have hce := Ce.out i hip
      have hfl := Hfl.out i hip
      have hb1 := fun k hk => Hb1.out i k hip hk
      have hb2 := fun k hk => Hb2.out i k (by omega) hk
      have hb3 := fun k hk => Hb2.out (i + 1) k (by omega) hk
      have hgl := fun k => Hgl.out i k hip
      have hki : (i : Int) < (m : Int) := by omega
      have HFi := Lib.hid hFi
      have Hce := Lib.hid hce
      have Hfl' := Lib.hid hfl
      have B1 := Lib.hid hb1
      have B2 := Lib.hid hb2
      have B3 := Lib.hid hb3
      have Hgl' := Lib.hid hgl
      have Hacc := Lib.hid hacc
      clear hce hfl hb1 hb2 hb3 hgl hFi hFc hacc Ha Ce Hfl Hb1 Hb2 Hgl Hb
      generalize facS ms[i] S = l at *
      generalize ms[i] = x at *
      obtain ⟨kind, xa, xb, xc, xn, xm⟩ := x
      simp only [Msh.val] at *
      have hx00 : Ext wo (wo.alloc (.cells #[.int .u8 kind, .int .i64 xa, .int .i64 xb, .int .i64 xc, .int .i64 xn, .int .i64 xm] 104)) := by simp
      go_wp2_with (first
        | (go_at_call 85; refine (Hce.out _).mono ?_; rintro e w3 ⟨gf, rfl, hof⟩; have hnf := NewInts.of_own hof))
      have hll : l.length = S := Hfl'.out
      have hxo3 : Ext wo w3 := hx00.trans hnf.ext
      have hgf : g0 < gf := by
        have h1 := Hacc.out.lt
        have h2 := hx00.le
        have h3 := hnf.2.1
        omega
      have hacc3 := Hacc.out.later hxo3
      have hf3 := hnf.2.2
      have Hacc3 := Lib.hid hacc3
      have Hf3 := Lib.hid hf3
      have Hll := Lib.hid hll
      clear hnf hof hx00 hxo3 hacc3 hf3 Hacc q0 q1 q2 q3 q4 q5 hp0 Hce
      simp only [hll]
      clear hll
      go_loopw [26] (fun k wr => ∃ j : Nat, j ≤ S ∧ k = .int .i64 j ∧ NewInts wb wr g0 (outL S (accT F L i j)) ∧ wr.heap[gf]? = some (.cells (l.map vint).toArray 3)) (fun k _ => S - (intOf k).toNat)
      case atStart => exact ⟨0, by omega, rfl, by rw [accT_zero]; exact Hacc3.out, Hf3.out⟩
      case round =>
        clear Hacc3 Hf3
        obtain ⟨k, hk, rfl, hacc, hf⟩ := hrel
        by_cases hlk : k < S
        · have hcf : wr.cell? ⟨gf, k, none⟩ = some (vint (getI l k)) := by
            rw [cell_heap hf, List.getElem?_toArray, List.getElem?_map]
            have hkl : k < l.length := by rw [Hll.out]; exact hlk
            rw [getI_eq hkl]
            simp [hkl]
          have hca : ∀ w', Ext wr w' → w'.cell? ⟨g0, k, none⟩ = some (vint (sumT F L i k)) := fun w' he => by
            have := hacc.cell (k := k) (by rw [outL_len]; exact hlk)
            rw [outL_get hlk, accT_at] at this
            exact he.cell this
          have hfa : ∀ w', Ext wr w' → w'.frozen? ⟨g0, k, none⟩ = false := fun w' he => (hacc.later he).frz k
          have hcF : ∀ w', Ext wr w' → w'.cell? (bd.add i) = some (vint (getI F i)) := fun w' he => HFi.out w' (Hexb.out.trans (hacc.ext.trans he))
          have c1 := B1.out k hlk
          have c2 := B2.out k hlk
          have c3 := B3.out k hlk
          have hst := accT_step (F := F) (L := L) (i := i) (k := k) (n := S)
          have hsum : sumT F L (i + 1) k = sumT F L i k + getI F i * L i k := rfl
          have hL := Hgl'.out k
          rw [← hL] at hcf
          rw [hsum] at c3
          have em : IntKind.i64.wrap (getI F i * L i k) = getI F i * L i k := by rw [IntKind.wrap_i64]; omega
          have ea : IntKind.i64.wrap (sumT F L i k + getI F i * L i k) = sumT F L i k + getI F i * L i k := by rw [IntKind.wrap_i64]; omega
          have Hst := Lib.hid hst
          have Hac := Lib.hid hacc
          have Hhf := Lib.hid hf
          have Hlt := Lib.hid hgf
          clear c1 c2 c3 hst hsum hL hacc hf hgf
          generalize getI F i = y at *
          generalize L i k = z at *
          generalize sumT F L i k = a at *
          have hki2 : (k : Int) < (S : Int) := by omega
          go_wp2
          refine Cf.wp_region_calm (p := Cf.extPre) (fr := fun _ => false) 12 (fun _ _ _ _ => True) (fun _ _ _ _ _ _ h => h) (by kernel_rfl) (by kernel_rfl) ?_
          simp only [List.take_succ_cons, List.take_zero, List.drop_succ_cons, List.drop_zero]
          refine Cf.calm_quiet Cf.calm_mono_final wr (fun _ h => h) 12 (by kernel_rfl) ?_
          simp only [List.take_succ_cons, List.take_zero, List.drop_succ_cons, List.drop_zero]
          repeat (go_big_quiet_step (fail))
          refine wpQuiet_nil ?_
          refine Cf.calm_nil fun w4 he4 hF => ?_
          clear hF
          have hca4 := hca w4 he4
          have hfa4 := hfa w4 he4
          go_wp2
          go_roundw
          case rel => exact ⟨k + 1, by omega, by go_num, by rw [← Hst.out]; exact (Hac.out.later he4).put k _, by rw [heap_other (by simp; have := Hlt.out; omega)]; exact he4.heap Hhf.out⟩
          case measure => simp [intOf]; omega
        · obtain rfl : k = S := by omega
          have hacc' := hacc
          rw [accT_full] at hacc'
          have Hac := Lib.hid hacc'
          clear hacc hacc' hf
          go_wp2
          go_roundw
          case rel => exact ⟨i + 1, by omega, by go_num, Hac.out⟩
          case measure => simp [intOf]; omega
    · obtain rfl : i = m := by omega
      have Hac := Lib.hid hacc
      clear hacc Ha Ce Hfl Hb1 Hb2 Hgl Hb
      go_wp2
      go_ret
      exact ⟨g0, by rw [outL_len]; rfl, (Hac.out.since Hexb.out)⟩
end Go.Proofs.YtebkhdhhajjhfaaGreat.Gr

/- Whether a list's numbers fit, and whether it is a motion: by the code. -/
namespace Go.Proofs.YtebkhdhhajjhfaaGreat.Gr
open Go.RowKit

def fitB (x : Int) : Bool := decide (-9007199254740992 ≤ x ∧ x ≤ 9007199254740992)
def fitsP (l : List Int) : Prop := ∀ k, k < l.length → fitB (getI l k) = true
instance (l : List Int) : Decidable (fitsP l) := by unfold fitsP; infer_instance
theorem sizedP_iff {l : List Int} {n : Nat} : sizedP l n ↔ l.length = n ∧ ∀ k, k < l.length → fitB (getI l k) = true := by
  unfold sizedP fitB
  constructor
  · rintro ⟨h1, h2⟩
    refine ⟨h1, fun k hk => decide_eq_true ?_⟩
    rw [getI_eq hk]
    exact h2 _ (List.getElem_mem hk)
  · rintro ⟨h1, h2⟩
    refine ⟨h1, fun x hx => ?_⟩
    obtain ⟨k, hk, rfl⟩ := List.getElem_of_mem hx
    have := of_decide_eq_true (h2 k hk)
    rwa [getI_eq hk] at this

set_option maxRecDepth 100000 in
theorem fit_any (x : Int) (w : World) : Calls Tryz.prog 161 #[.int .i64 x] w fun e w' => e = .returned (.bool (!fitB x)) ∧ w = w' := by
  have h : fitB x = decide (-9007199254740992 ≤ x ∧ x ≤ 9007199254740992) := rfl
  generalize fitB x = b at *
  by_cases h1 : x < -9007199254740992
  · have hb : b = false := by rw [h]; simp; omega
    subst hb
    clear h
    go_enter Tryz.func161, Tryz.ntmps161
    go_wp2
    go_ret
    exact ⟨rfl, rfl⟩
  · by_cases h2 : 9007199254740992 < x
    · have hb : b = false := by rw [h]; simp; omega
      subst hb
      clear h
      go_enter Tryz.func161, Tryz.ntmps161
      go_wp2
      go_ret
      exact ⟨rfl, rfl⟩
    · have hb : b = true := by rw [h]; simp; omega
      subst hb
      clear h
      go_enter Tryz.func161, Tryz.ntmps161
      go_wp2
      go_ret
      exact ⟨rfl, rfl⟩

set_option maxRecDepth 100000 in
set_option maxHeartbeats 1000000 in
theorem indexFunc_any (B : Option Addr) (d : Nat) (l : List Int) (w : World) (hB : Ints w B l) (hl : l.length ≤ 1000000) :
    Calls Tryz.prog 183 #[.slice B l.length d, .func (.func 161) #[] #[]] w fun e w' => ∃ r : Int, e = .returned (.int .i64 r) ∧ (0 ≤ r ↔ ¬ fitsP l) ∧ w = w' := by
  have hb := fun (i : Nat) (hi : i < l.length) => hB.some_ (by omega)
  have hgood : (∀ k, k < l.length → fitB (getI l k) = true) → ((0 : Int) ≤ -1 ↔ ¬ fitsP l) := fun h => ⟨fun h' => absurd h' (by decide), fun h' => absurd h h'⟩
  have hbad : ∀ k : Nat, k < l.length → fitB (getI l k) = false → ((0 : Int) ≤ (k : Int) ↔ ¬ fitsP l) := fun k hk h => ⟨fun _ h' => (by rw [h' k hk] at h; cases h), fun _ => (by omega)⟩
  have Hb := Lib.hid hb
  have Hgood := Lib.hid hgood
  have Hbad := Lib.hid hbad
  clear hb hgood hbad hB
  generalize fitsP l = Q at *
  generalize l.length = n at *
  go_enter Tryz.func183, Tryz.ntmps183
  go_wp2
  go_loop [8] (fun i => ∃ k : Nat, k ≤ n ∧ i = .int .i64 k ∧ ∀ j, j < k → fitB (getI l j) = true) (fun i => n - (intOf i).toNat)
  case atStart => exact ⟨0, by omega, rfl, fun j hj => by omega⟩
  case round =>
    obtain ⟨k, hk, rfl, hall⟩ := hrel
    have Hall := Lib.hid hall
    clear hall
    by_cases hlt : k < n
    · obtain ⟨bd, rfl, hc0⟩ := Hb.out k hlt
      have hc := hc0 k hlt w (Ext.refl w)
      clear hc0
      have hbad := Hbad.out k hlt
      have hst : fitB (getI l k) = true → ∀ j, j < k + 1 → fitB (getI l j) = true := fun h j hj => by
        by_cases e : j = k
        · subst e; exact h
        · exact Hall.out j (by omega)
      have Hst := Lib.hid hst
      have Hbad' := Lib.hid hbad
      have CF := Lib.hid (fit_any (getI l k) w)
      clear hst hbad Hb Hgood Hbad
      generalize getI l k = y at *
      generalize fitB y = b at *
      have hki : (k : Int) < (n : Int) := by omega
      cases b
      · go_wp2_with (first
          | (go_at_call 161; (with_reducible refine CF.out.mono ?_); rintro e w1 ⟨rfl, rfl⟩; simp only [Bool.not_false]))
        go_ret
        exact ⟨k, rfl, Hbad'.out (by trivial), rfl⟩
      · go_wp2_with (first
          | (go_at_call 161; (with_reducible refine CF.out.mono ?_); rintro e w1 ⟨rfl, rfl⟩; simp only [Bool.not_true]))
        go_round
        case rel => exact ⟨k + 1, by omega, by go_num, Hst.out (by trivial)⟩
        case measure => simp [intOf]; omega
    · obtain rfl : k = n := by omega
      clear Hb
      go_wp2
      go_ret
      exact ⟨-1, rfl, Hgood.out Hall.out, rfl⟩


set_option maxRecDepth 100000 in
theorem containsFunc_any (B : Option Addr) (d : Nat) (l : List Int) (w : World) (hB : Ints w B l) (hl : l.length ≤ 1000000) :
    Calls Tryz.prog 160 #[.slice B l.length d, .func (.func 161) #[] #[]] w fun e w' => e = .returned (.bool (!decide (fitsP l))) ∧ w = w' := by
  have Ci := Lib.hid (indexFunc_any B d l w hB hl)
  have hq : fitsP l ↔ decide (fitsP l) = true := by simp
  have Hq := Lib.hid hq
  clear hq hB
  generalize decide (fitsP l) = b at *
  generalize fitsP l = Q at *
  generalize l.length = n at *
  go_enter Tryz.func160, Tryz.ntmps160
  go_wp2_with (first
    | (go_at_call 183; refine Ci.out.mono ?_; rintro e w1 ⟨r, rfl, hr, rfl⟩))
  go_ret
  refine ⟨?_, rfl⟩
  have : decide (0 ≤ r) = !b := by
    rw [Bool.eq_iff_iff, decide_eq_true_iff, hr, Hq.out]
    simp
  rw [← this]
  rfl

set_option maxRecDepth 100000 in
set_option maxHeartbeats 1000000 in
theorem sized_any (B : Option Addr) (d : Nat) (l : List Int) (n : Nat) (w : World) (hB : Ints w B l) (hl : l.length ≤ 1000000) :
    Calls Tryz.prog 117 #[.slice B l.length d, .int .i64 n] w fun e w' => e = .returned (.bool (decide (sizedP l n))) ∧ w = w' := by
  have Ci := Lib.hid (containsFunc_any B d l w hB hl)
  by_cases h : l.length = n
  · have hs : decide (sizedP l n) = decide (fitsP l) := by
      rw [decide_eq_decide, sizedP_iff]
      exact ⟨fun h' => h'.2, fun h' => ⟨h, h'⟩⟩
    rw [hs]
    clear hs hB
    subst h
    generalize decide (fitsP l) = b at *
    generalize l.length = q at *
    cases b
    all_goals
      go_enter Tryz.func117, Tryz.ntmps117
      go_wp2_with (first
        | (go_at_call 160; refine Ci.out.mono ?_; rintro e w1 ⟨rfl, rfl⟩; simp only [Bool.not_true, Bool.not_false]))
      go_ret
      exact ⟨rfl, rfl⟩
  · have hs : decide (sizedP l n) = false := decide_eq_false fun h' => h h'.1
    rw [hs]
    clear hs hB Ci
    have hi : ¬ ((l.length : Int) = (n : Int)) := by omega
    generalize l.length = q at *
    go_enter Tryz.func117, Tryz.ntmps117
    go_wp2
    go_ret
    exact ⟨rfl, rfl⟩

set_option maxRecDepth 100000 in
set_option maxHeartbeats 4000000 in
theorem moves_any (A : Option Addr) (c S : Nat) (ms : List Msh) (B : Option Addr) (d : Nat) (x : List Int) (w : World) (hA : MRow w A ms) (ht : trainP S ms) (hB : Ints w B x) (hxl : x.length ≤ 1000000) :
    Calls Tryz.prog 118 #[.agg #[.int .i64 S, .slice A ms.length c], .slice B x.length d] w fun e w' => e = .returned (.bool (decide (movesP (gearL ms S) ms.length S x))) ∧ Ext w w' := by
  have cs := fun (w' : World) (he : Ext w w') => sized_any B d x S w' (hB.ext he) hxl
  by_cases hsz : sizedP x S
  · have e1 : decide (sizedP x S) = true := decide_eq_true hsz
    rw [e1] at cs
    have ha := fun k (hk : k < ms.length) => hA.at_ hk
    have ce := fun (k : Nat) (hk : k < ms.length) (w' : World) => equation_any ms[k] S w' (ht.2.2.2 k hk) (by have := ht.2.1; omega)
    have hl16 := ht.2.2.1
    have h8 : S ≤ 8 := by have := ht.2.1; omega
    have hfl := fun (k : Nat) (hk : k < ms.length) => facS_length ms[k] S
    have hgl := fun (i k : Nat) (hi : i < ms.length) => (show gearL ms S i k = getI (facS ms[i] S) k by unfold gearL; rw [lineI_eq hi])
    have hb1 := fun (i k : Nat) (hi : i < ms.length) (hk : k < S) => mul_bound (hsz.bound k) (gearL_bound ht i hi k hk)
    have hb2 := fun (i k : Nat) (hi : i < ms.length) (hk : k ≤ S) => dotT_bound (c := gearL ms S i) hsz.bound (k := k) fun j hj => gearL_bound ht i hi j (by omega)
    have hb := fun (k : Nat) (hk : k < S) => hB.some_ (by rw [hsz.1]; omega)
    have hxS : x.length = S := hsz.1
    have hbad : ∀ i, i < ms.length → dotT x (gearL ms S i) S ≠ 0 → false = decide (movesP (gearL ms S) ms.length S x) := fun i hi h => (decide_eq_false fun h' => h (h'.2 i hi)).symm
    have hgood : (∀ i, i < ms.length → dotT x (gearL ms S i) S = 0) → true = decide (movesP (gearL ms S) ms.length S x) := fun h => (decide_eq_true ⟨hsz, h⟩).symm
    rw [hxS] at hb cs ⊢
    have Ha := Lib.hid ha
    have Ce := Lib.hid ce
    have Hfl := Lib.hid hfl
    have Hgl := Lib.hid hgl
    have Hb1 := Lib.hid hb1
    have Hb2 := Lib.hid hb2
    have Hb := Lib.hid hb
    have Hbad := Lib.hid hbad
    have Hgood := Lib.hid hgood
    have Cs := Lib.hid cs
    clear ha ce hfl hgl hb1 hb2 hb hbad hgood cs e1 hA ht hB hsz hxS hxl
    generalize decide (movesP (gearL ms S) ms.length S x) = res at *
    generalize gearL ms S = L at *
    obtain ⟨m, hm⟩ : ∃ m, m = ms.length := ⟨_, rfl⟩
    rw [← hm] at hl16 ⊢
    have Hm := Lib.hid hm
    clear hm
    go_enter Tryz.func118, Tryz.ntmps118
    have hexb : Ext w (w.alloc (.cells #[.int .i64 S, .slice A m c] 46)) := by simp
    have hp0 : ∀ w', Ext (w.alloc (.cells #[.int .i64 S, .slice A m c] 46)) w' → w'.cell? ⟨w.heap.size, 0, none⟩ = some (.int .i64 S) := fun w' he => he.cell (by simp)
    have hp1 : ∀ w', Ext (w.alloc (.cells #[.int .i64 S, .slice A m c] 46)) w' → w'.cell? ⟨w.heap.size, 1, none⟩ = some (.slice A m c) := fun w' he => he.cell (by simp)
    go_wp2_with (first
      | (go_at_call 117; refine (Cs.out _ (by simp)).mono ?_; rintro e w1 ⟨rfl, rfl⟩))
    generalize w.alloc (.cells #[.int .i64 S, .slice A m c] 46) = wb at *
    generalize w.heap.size = bx at *
    have Hexb := Lib.hid hexb
    have Hp0 := Lib.hid hp0
    clear hexb hp0 hp1 Cs
    go_loopw [18] (fun i wr => ∃ k : Nat, k ≤ m ∧ i = .int .i64 k ∧ Ext wb wr ∧ ∀ j, j < k → dotT x (L j) S = 0) (fun i _ => m - (intOf i).toNat)
    case atStart => exact ⟨0, by omega, rfl, Ext.refl _, fun j hj => by omega⟩
    case round =>
      obtain ⟨wo, rfl⟩ : ∃ wo : World, wo = wr := ⟨_, rfl⟩
      obtain ⟨i, hi, rfl, hex, hall⟩ := hrel
      have Hall := Lib.hid hall
      clear hall
      have hexw := Hexb.out.trans hex
      have hp0 : ∀ w', Ext wo w' → w'.cell? ⟨bx, 0, none⟩ = some (.int .i64 S) := fun w' he => Hp0.out w' (hex.trans he)
      by_cases hlt : i < m
      · have hip : i < ms.length := by rw [← Hm.out]; exact hlt
        obtain ⟨ad, rfl, q0, q1, q2, q3, q4, q5⟩ := Ha.out i hip
        have q0 := q0 wo hexw
        have q1 := q1 wo hexw
        have q2 := q2 wo hexw
        have q3 := q3 wo hexw
        have q4 := q4 wo hexw
        have q5 := q5 wo hexw
        have hce := Ce.out i hip
        have hfl := Hfl.out i hip
        have hb1 := fun k hk => Hb1.out i k hip hk
        have hb2 := fun k hk => Hb2.out i k hip hk
        have hgl := fun k => Hgl.out i k hip
        have hbad := Hbad.out i hip
        have hst : dotT x (L i) S = 0 → ∀ j, j < i + 1 → dotT x (L j) S = 0 := fun h j hj => by
          by_cases e : j = i
          · subst e; exact h
          · exact Hall.out j (by omega)
        have hki : (i : Int) < (m : Int) := by omega
        have Hce := Lib.hid hce
        have Hfl' := Lib.hid hfl
        have B1 := Lib.hid hb1
        have B2 := Lib.hid hb2
        have Hgl' := Lib.hid hgl
        have Hbad' := Lib.hid hbad
        have Hst := Lib.hid hst
        clear hce hfl hb1 hb2 hgl hbad hst Ha Ce Hfl Hb1 Hb2 Hgl Hbad Hgood
        generalize facS ms[i] S = l at *
        generalize ms[i] = y at *
        obtain ⟨kind, xa, xb, xc, xn, xm⟩ := y
        simp only [Msh.val] at *
        have hx00 : Ext wo (wo.alloc (.cells #[.int .u8 kind, .int .i64 xa, .int .i64 xb, .int .i64 xc, .int .i64 xn, .int .i64 xm] 104)) := by simp
        go_wp2_with (first
          | (go_at_call 85; refine (Hce.out _).mono ?_; rintro e w3 ⟨gf, rfl, hof⟩; have hnf := NewInts.of_own hof))
        have hll : l.length = S := Hfl'.out
        have hxo3 : Ext wo w3 := hx00.trans hnf.ext
        have Hf3 := Lib.hid hnf.2.2
        have Hx3 := Lib.hid (hex.trans hxo3)
        have Hxw3 := Lib.hid (hexw.trans hxo3)
        have Hll := Lib.hid hll
        clear hnf hof hx00 hxo3 q0 q1 q2 q3 q4 q5 hp0 Hce hex hexw
        simp only [hll]
        clear hll
        go_loop [27, 7] (fun k n => ∃ j : Nat, j ≤ S ∧ k = .int .i64 j ∧ n = .int .i64 (dotT x (L i) j)) (fun k _ => S - (intOf k).toNat)
        case atStart => exact ⟨0, by omega, rfl, rfl⟩
        case round =>
          obtain ⟨k, hk, rfl, rfl⟩ := hrel
          by_cases hlk : k < S
          · obtain ⟨bd, rfl, hxc⟩ := Hb.out k hlk
            have hcf : w3.cell? ⟨gf, k, none⟩ = some (vint (getI l k)) := by
              rw [cell_heap Hf3.out, List.getElem?_toArray, List.getElem?_map]
              have hkl : k < l.length := by rw [Hll.out]; exact hlk
              rw [getI_eq hkl]
              simp [hkl]
            have hcx := hxc k hlk w3 Hxw3.out
            have c1 := B1.out k hlk
            have c2 := B2.out k (by omega)
            have c3 := B2.out (k + 1) (by omega)
            have hsum : dotT x (L i) (k + 1) = dotT x (L i) k + getI x k * L i k := rfl
            have hL := Hgl'.out k
            rw [← hL] at hcf
            have Hsum := Lib.hid hsum
            rw [hsum] at c3
            have em : IntKind.i64.wrap (getI x k * L i k) = getI x k * L i k := by rw [IntKind.wrap_i64]; omega
            have ea : IntKind.i64.wrap (dotT x (L i) k + getI x k * L i k) = dotT x (L i) k + getI x k * L i k := by rw [IntKind.wrap_i64]; omega
            have hki2 : (k : Int) < (S : Int) := by omega
            clear c1 c2 c3 hsum hL hxc Hb
            generalize getI x k = y at *
            generalize L i k = z at *
            generalize dotT x (L i) k = a at *
            go_wp2
            go_round
            case rel => exact ⟨k + 1, by omega, by go_num, by rw [Hsum.out]⟩
            case measure => simp [intOf]; omega
          · obtain rfl : k = S := by omega
            clear Hb
            generalize dotT x (L i) k = v at *
            by_cases hv : v = 0
            · subst hv
              go_wp2
              go_roundw
              case rel => exact ⟨i + 1, by omega, by go_num, Hx3.out, Hst.out rfl⟩
              case measure => simp [intOf]; omega
            · have hv' : (v == 0) = false := by simpa using hv
              go_wp2
              go_ret
              exact ⟨ret_b (Hbad'.out hv), Hxw3.out⟩
      · obtain rfl : i = m := by omega
        have Hg := Lib.hid (Hgood.out fun j hj => Hall.out j (by rw [Hm.out]; exact hj))
        clear Ha Ce Hfl Hb1 Hb2 Hgl Hb Hbad Hgood
        go_wp2
        go_ret
        exact ⟨ret_b Hg.out, hexw⟩
  · have e1 : decide (sizedP x S) = false := decide_eq_false hsz
    have e2 : decide (movesP (gearL ms S) ms.length S x) = false := decide_eq_false fun h => hsz h.1
    rw [e1] at cs
    rw [e2]
    have Cs := Lib.hid cs
    clear cs e1 e2 hsz hA hB ht
    generalize ms.length = m at *
    generalize x.length = q at *
    go_enter Tryz.func118, Tryz.ntmps118
    go_wp2_with (first
      | (go_at_call 117; refine (Cs.out _ (by simp)).mono ?_; rintro e w1 ⟨rfl, rfl⟩))
    go_ret
    exact ⟨rfl, by simp⟩
end Go.Proofs.YtebkhdhhajjhfaaGreat.Gr

/- The reference's Jammed. -/
namespace Go.Proofs.YtebkhdhhajjhfaaGreat.Gr
open Go.RowKit

noncomputable def jamB (m n : Nat) (L : Nat → Nat → Int) (i : Nat) : Bool := rkF (m + 1) n (snocF m L (eU i)) == rkF m n L

end Go.Proofs.YtebkhdhhajjhfaaGreat.Gr

/- The clutches that slip: a search, written plainly. No program in sight. -/
namespace Go.Proofs.YtebkhdhhajjhfaaGreat.Gr
open Go.RowKit

variable {J : List Nat → Bool}
/-- The error of a train and shafts. -/
def askE (s : Int) (ms : List Msh) (l : List Int) : Int := if trainB s ms = true then if (∀ x ∈ l, 0 ≤ x ∧ x < s) then 0 else 2 else 40
end Go.Proofs.YtebkhdhhajjhfaaGreat.Gr

/- The errors of a train and shafts, both sides. -/
namespace Go.Proofs.YtebkhdhhajjhfaaGreat.Gr
open Go.RowKit

theorem askE_bad {s : Int} {ms : List Msh} {l : List Int} (h : trainB s ms = false) : askE s ms l = 40 := by unfold askE; rw [h, if_neg (by decide)]
theorem askE_ok {s : Int} {ms : List Msh} {l : List Int} (h : trainB s ms = true) (hl : ∀ x ∈ l, 0 ≤ x ∧ x < s) : askE s ms l = 0 := by unfold askE; rw [h, if_pos rfl, if_pos hl]
theorem askE_out {s : Int} {ms : List Msh} {l : List Int} (h : trainB s ms = true) {x : Int} (hx : x ∈ l) (ho : ¬ (0 ≤ x ∧ x < s)) : askE s ms l = 2 := by unfold askE; rw [h, if_pos rfl, if_neg (fun h => ho (h x hx))]
theorem askE_at {s : Int} {ms : List Msh} {l : List Int} (h : trainB s ms = true) {k : Nat} (hk : k < l.length) (ho : ¬ (0 ≤ getI l k ∧ getI l k < s)) : askE s ms l = 2 :=
  askE_out h (x := getI l k) (by rw [getI_eq hk]; exact List.getElem_mem hk) ho
theorem askE_all {s : Int} {ms : List Msh} {l : List Int} (h : trainB s ms = true) (ho : ∀ k, k < l.length → 0 ≤ getI l k ∧ getI l k < s) : askE s ms l = 0 :=
  askE_ok h fun x hx => by
    obtain ⟨k, hk, e⟩ := List.getElem_of_mem hx
    have := ho k hk
    rwa [getI_eq hk, e] at this

set_option maxRecDepth 100000 in
set_option maxHeartbeats 2000000 in
theorem asked_any (A : Option Addr) (c : Nat) (s : Int) (ms : List Msh) (B : Option Addr) (d : Nat) (l : List Int) (w : World) (hA : MRow w A ms) (hl : ms.length ≤ 1000000) (hB : Ints w B l) (hl2 : l.length ≤ 1000000) :
    Calls Tryz.prog 46 #[.agg #[.int .i64 s, .slice A ms.length c], .slice B l.length d] w fun e w' => e = .returned (.int .i64 (askE s ms l)) ∧ Ext w w' := by
  have c0 := fun (w' : World) (he : Ext w w') => check_any A c s ms w' (hA.ext he) hl
  have hb := fun (k : Nat) (hk : k < l.length) => hB.some_ (by omega)
  have Hb := Lib.hid hb
  clear hb hB
  cases hT : trainB s ms
  case false =>
    have e2 : trainE s ms = 40 := by unfold trainE; rw [hT, if_neg (by decide)]
    rw [askE_bad hT]
    rw [e2] at c0
    have C0 := Lib.hid c0
    clear c0 e2 hA hT Hb
    generalize ms.length = m at *
    generalize l.length = n at *
    go_enter Tryz.func46, Tryz.ntmps46
    go_wp2_with (first
      | (go_at_call 82; refine (C0.out _ (by simp)).mono ?_; rintro e w1 ⟨rfl, hx1⟩))
    go_ret
    exact ⟨rfl, Ext.trans (by simp) hx1⟩
  case true =>
    have e2 : trainE s ms = 0 := by unfold trainE; rw [hT, if_pos rfl]
    have hbad := fun (k : Nat) (hk : k < l.length) => askE_at (l := l) hT hk
    have hgood := askE_all (l := l) hT
    rw [e2] at c0
    have C0 := Lib.hid c0
    have Hbad := Lib.hid hbad
    have Hgood := Lib.hid hgood
    clear c0 e2 hA hT hbad hgood
    generalize askE s ms l = res at *
    generalize ms.length = m at *
    generalize l.length = n at *
    go_enter Tryz.func46, Tryz.ntmps46
    have hexb : Ext w (w.alloc (.cells #[.int .i64 s, .slice A m c] 46)) := by simp
    have hp0 : ∀ w', Ext (w.alloc (.cells #[.int .i64 s, .slice A m c] 46)) w' → w'.cell? ⟨w.heap.size, 0, none⟩ = some (.int .i64 s) := fun w' he => he.cell (by simp)
    go_wp2_with (first
      | (go_at_call 82; refine (C0.out _ (by simp)).mono ?_; rintro e w1 ⟨rfl, hx1⟩))
    generalize w.alloc (.cells #[.int .i64 s, .slice A m c] 46) = wb0 at *
    have hp0 := hp0 w1 hx1
    have hexw : Ext w w1 := hexb.trans hx1
    generalize w.heap.size = bx at *
    clear hexb hx1 C0
    go_loop [15, 7] (fun i _ => ∃ k : Nat, k ≤ n ∧ i = .int .i64 k ∧ ∀ j, j < k → 0 ≤ getI l j ∧ getI l j < s) (fun i _ => n - (intOf i).toNat)
    case atStart => exact ⟨0, by omega, rfl, fun j hj => by omega⟩
    case round =>
      obtain ⟨k, hk, rfl, hall⟩ := hrel
      by_cases hlt : k < n
      · obtain ⟨ad, rfl, hcell⟩ := Hb.out k hlt
        have hck := hcell k hlt w1 hexw
        have hbad := Hbad.out k hlt
        have hstep : 0 ≤ getI l k ∧ getI l k < s → ∀ j, j < k + 1 → 0 ≤ getI l j ∧ getI l j < s := fun h j hj => by
          by_cases e : j = k
          · subst e; exact h
          · exact hall j (by omega)
        have Hst := Lib.hid hstep
        have Hbad' := Lib.hid hbad
        clear hstep hbad hall hcell Hbad Hgood Hb
        generalize getI l k = y at *
        cases d1 : decide (y < 0)
        · cases d2 : decide (s ≤ y)
          · have h1 : 0 ≤ y := by simpa using d1
            have h2 : y < s := by simpa using d2
            go_wp2
            go_round
            case rel => exact ⟨k + 1, by omega, by go_num, Hst.out ⟨h1, h2⟩⟩
            case measure => simp [intOf]; omega
          · have h2 : s ≤ y := by simpa using d2
            go_wp2
            go_ret
            exact ⟨ret_i (Hbad'.out (by omega)).symm, hexw⟩
        · have h1 : y < 0 := by simpa using d1
          go_wp2
          go_ret
          exact ⟨ret_i (Hbad'.out (by omega)).symm, hexw⟩
      · obtain rfl : k = n := by omega
        have H0 := Lib.hid (Hgood.out hall)
        clear hall Hgood Hbad Hb
        go_wp2
        go_ret
        exact ⟨ret_i H0.out.symm, hexw⟩

end Go.Proofs.YtebkhdhhajjhfaaGreat.Gr

/- Appending numbers: what is old stays; a growth under which the own slices of certain numbers stay. No program in sight but the table of types. -/
namespace Go.Proofs.YtebkhdhhajjhfaaGreat.Gr
open Go.RowKit


end Go.Proofs.YtebkhdhhajjhfaaGreat.Gr
