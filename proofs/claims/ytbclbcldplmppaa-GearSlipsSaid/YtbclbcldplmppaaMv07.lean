/- From solved equations to ranks. Plain Lean. -/
import Derived.Lib.Hide
import Derived.BigRegion
import Derived.WalkMore
import Derived.Test.YtbclbcldplmppaaMv06
namespace Go.Proofs.Ytbclbcldplmppaa

theorem solved_exists (A : Nat → Nat → Int) (n m : Nat) (cols : List Nat) (hc : ∀ c ∈ cols, c < n) : ∃ σ pv M d, SolSt A n m cols σ pv M d := by
  have : ∀ k, k ≤ cols.length → ∃ σ pv M d, SolSt A n m (cols.take k) σ pv M d := by
    intro k
    induction k with
    | zero => intro _; exact ⟨_, _, _, _, by rw [List.take_zero]; exact SolSt.start A n m⟩
    | succ k ih =>
      intro hk
      obtain ⟨σ, pv, M, d, h⟩ := ih (by omega)
      have hk' : k < cols.length := by omega
      have ht : cols.take (k + 1) = cols.take k ++ [cols[k]] := List.take_succ_eq_append_getElem hk'
      rw [ht]
      rcases Classical.em (∃ i, pv.length ≤ i ∧ i < m ∧ M (σ i) cols[k] ≠ 0) with ⟨i, h1, h2, h3⟩ | hno
      · exact ⟨_, _, _, _, h.pivot h1 h2 (hc _ (List.getElem_mem hk')) h3⟩
      · exact ⟨_, _, _, _, h.skip fun i h1 h2 => Classical.byContradiction fun h3 => hno ⟨i, h1, h2, h3⟩⟩
  have := this cols.length (Nat.le_refl _)
  rwa [List.take_length] at this

section
variable {A : Nat → Nat → Int} {n m : Nat} {cols : List Nat} {σ : Nat → Nat} {pv : List (Nat × Nat)} {M : Nat → Nat → Int} {d : Int}

/-- What the rows have in a column that is a combination of others. -/
theorem Bar.lin {α : Type} (h : Bar A m pv M d) (Y : List α) (c : α → Int) (f : α → Nat) {j : Nat} (hj : ∀ x, x < m → A x j = S Y fun y => c y * A x (f y)) {x : Nat} (hx : x < m) : M x j = S Y fun y => c y * M x (f y) := by
  have hr : ∀ r ∈ rowsOf pv, r < m := fun r hr => by
    obtain ⟨q, hq, rfl⟩ := List.mem_map.1 hr
    exact h.lt q hq
  by_cases hp : x ∈ rowsOf pv
  · obtain ⟨q0, hq, rfl⟩ := List.mem_map.1 hp
    obtain ⟨pre, post, hpv⟩ := List.append_of_mem hq
    rw [h.pivot hpv, D_at (col A j) (fun r => S Y fun y => c y * col A (f y) r) _ _ _ (fun r hr' => hj r (hr r hr')), D_sum]
    exact S_congr fun y _ => by rw [h.pivot hpv]
  · rw [h.other hx hp, D_at (col A j) (fun r => S Y fun y => c y * col A (f y) r) [] _ _ (fun r hr' => by
      rcases List.mem_append.1 hr' with h1 | h1
      · exact hj r (hr r h1)
      · simp at h1; subst h1; exact hj r hx), D_sum]
    exact S_congr fun y _ => by rw [h.other hx hp]

theorem SolSt.row_at (h : SolSt A n m cols σ pv M d) {i : Nat} (hi : i < pv.length) : pv[i].1 = σ i := by
  have h1 : (rowsOf pv)[i]? = some pv[i].1 := by simp [rowsOf, hi]
  rw [h.row] at h1
  simp [hi] at h1
  exact h1.symm
theorem SolSt.red (h : SolSt A n m cols σ pv M d) {i l : Nat} (hi : i < pv.length) (hl : l < pv.length) : M (σ i) pv[l].2 = if i = l then d else 0 := by
  have hp : pv = pv.take i ++ pv[i] :: pv.drop (i + 1) := by simp
  rw [← h.row_at hi]
  by_cases e : i = l
  · subst e; rw [if_pos rfl]; exact h.bar.diag hp
  · rw [if_neg e]
    refine h.bar.off hp ?_
    by_cases e2 : l < i
    · exact .inl (List.mem_iff_getElem.2 ⟨l, by simp; omega, by simp⟩)
    · exact .inr (List.mem_iff_getElem.2 ⟨l - (i + 1), by simp; omega, by simp [show i + 1 + (l - (i + 1)) = l by omega]⟩)
end

/-- The matrix with a unit matrix beside it. -/
def augF (n : Nat) (A : Nat → Nat → Int) (x j : Nat) : Int := if j < n then A x j else if j - n = x then 1 else 0

section
variable {A : Nat → Nat → Int} {n m : Nat} {cols : List Nat} {σ : Nat → Nat} {pv : List (Nat × Nat)} {M : Nat → Nat → Int} {d : Int}
/-- Each row is the sum of the equations, each times its factor. -/
theorem SolSt.by_ (h : SolSt (augF n A) n m cols σ pv M d) {x j : Nat} (hx : x < m) (hj : j < n) : M x j = S (List.range m) fun y => A y j * M x (n + y) := by
  refine h.bar.lin (List.range m) (fun y => A y j) (fun y => n + y) (fun z hz => ?_) hx
  have e1 : augF n A z j = A z j := by unfold augF; rw [if_pos hj]
  rw [e1, ← S_single List.nodup_range (List.mem_range.2 hz) fun y => A y j]
  refine S_congr fun y _ => ?_
  have e2 : augF n A z (n + y) = if y = z then 1 else 0 := by unfold augF; rw [if_neg (by omega), Nat.add_sub_cancel_left]
  rw [e2]
  by_cases e : y = z
  · rw [if_pos e, if_pos e]; simp
  · rw [if_neg e, if_neg e]; simp
end

/-- A family with one vector more. -/
def snocF (a : Nat) (L : Nat → Nat → Int) (e : Nat → Int) (x : Nat) : Nat → Int := if x = a then e else L x
theorem snocF_lt {a : Nat} {L : Nat → Nat → Int} {e : Nat → Int} {x : Nat} (h : x < a) : snocF a L e x = L x := by unfold snocF; rw [if_neg (by omega)]
theorem snocF_at {a : Nat} {L : Nat → Nat → Int} {e : Nat → Int} : snocF a L e a = e := by unfold snocF; rw [if_pos rfl]

structure BasisOf (n a : Nat) (L Y : Nat → Nat → Int) (R : List Nat) (d : Int) : Prop where
  hR : ∀ r ∈ R, r < n
  tri : ∀ i (hi : i < R.length), Y i R[i] ≠ 0 ∧ ∀ x, i < x → x < R.length → Y x R[i] = 0
  hY : ∀ i, i < R.length → InSpan 0 n a L (Y i)
  hd : d ≠ 0
  hA : ∀ x, x < a → InSpan 0 n R.length Y (fun j => d * L x j)

theorem BasisOf.rank {n a : Nat} {L Y : Nat → Nat → Int} {R : List Nat} {d : Int} (h : BasisOf n a L Y R d) : RankIs (fam a L) n R.length := by
  refine rank_basis R h.hR rfl ?_ h.hY h.hd h.hA
  have := tri_ne primeLike_zero zero_not_one R 0 Y (fun i hi => ⟨by rw [Int.zero_dvd, Nat.zero_add]; exact (h.tri i hi).1, fun x h1 h2 => by rw [Int.zero_dvd, Nat.zero_add]; exact (h.tri i hi).2 x h1 h2⟩)
  rw [Int.zero_dvd] at this
  simpa only [fam, Nat.zero_add] using this

theorem InSpan.more {m : Int} {n a b : Nat} {L L' : Nat → Nat → Int} {v : Nat → Int} (h : InSpan m n a L v) (hab : a ≤ b) (hL : ∀ x, x < a → L' x = L x) : InSpan m n b L' v :=
  h.trans fun k hk => by rw [← hL k hk]; exact InSpan.mem (by omega)

theorem BasisOf.add_in {n a : Nat} {L Y : Nat → Nat → Int} {R : List Nat} {d : Int} (h : BasisOf n a L Y R d) {e : Nat → Int} (he : InSpan 0 n R.length Y (fun j => d * e j)) : BasisOf n (a + 1) (snocF a L e) Y R d :=
  ⟨h.hR, h.tri, fun i hi => (h.hY i hi).more (by omega) fun x hx => snocF_lt hx, h.hd, fun x hx => by
    by_cases hxa : x = a
    · subst hxa; rw [snocF_at]; exact he
    · rw [snocF_lt (by omega)]; exact h.hA x (by omega)⟩

theorem BasisOf.add_out {n a : Nat} {L Y : Nat → Nat → Int} {R : List Nat} {d : Int} (h : BasisOf n a L Y R d) {e : Nat → Int} {c : Nat} (hc : c < n) (he0 : ∀ r ∈ R, e r = 0) (hec : e c ≠ 0) :
    BasisOf n (a + 1) (snocF a L e) (snocF R.length Y e) (R ++ [c]) d := by
  refine ⟨fun r hr => ?_, fun i hi => ?_, fun i hi => ?_, h.hd, fun x hx => ?_⟩
  · rcases List.mem_append.1 hr with h1 | h1
    · exact h.hR r h1
    · simp at h1; omega
  · by_cases e1 : i < R.length
    · rw [List.getElem_append_left e1, snocF_lt e1]
      refine ⟨(h.tri i e1).1, fun x h1 h2 => ?_⟩
      by_cases e2 : x = R.length
      · subst e2; rw [snocF_at]; exact he0 _ (List.getElem_mem e1)
      · simp only [List.length_append, List.length_singleton] at h2
        rw [snocF_lt (by omega)]; exact (h.tri i e1).2 x h1 (by omega)
    · have : i = R.length := by simp at hi; omega
      subst this
      simp only [List.getElem_concat_length, snocF_at]
      exact ⟨hec, fun x h1 h2 => by simp at h2; omega⟩
  · by_cases e1 : i < R.length
    · rw [snocF_lt e1]; exact (h.hY i e1).more (by omega) fun x hx => snocF_lt hx
    · have : i = R.length := by simp at hi; omega
      subst this
      rw [snocF_at]
      have := InSpan.mem (m := 0) (n := n) (cnt := a + 1) (Y := snocF a L e) (k := a) (by omega)
      rwa [snocF_at] at this
  · rw [List.length_append, List.length_singleton]
    by_cases hxa : x = a
    · subst hxa; rw [snocF_at]
      have := InSpan.mem (m := 0) (n := n) (cnt := R.length + 1) (Y := snocF R.length Y e) (k := R.length) (by omega)
      rw [snocF_at] at this
      have := this.comb this d 0
      exact this.congr fun j _ => by rw [Int.zero_mul, Int.add_zero, Int.sub_self]; exact Int.dvd_zero _
    · rw [snocF_lt (by omega)]
      exact (h.hA x (by omega)).more (by omega) fun y hy => snocF_lt hy

section
variable {A : Nat → Nat → Int} {n m : Nat} {cols : List Nat} {σ : Nat → Nat} {pv : List (Nat × Nat)} {M : Nat → Nat → Int} {d : Int}
theorem colsP_get {pv : List (Nat × Nat)} {i : Nat} (hi : i < (colsP pv).length) : (colsP pv)[i] = (pv[i]'(by simpa [colsP] using hi)).2 := by simp [colsP]
theorem colsP_len (pv : List (Nat × Nat)) : (colsP pv).length = pv.length := by simp [colsP]

theorem SolSt.basis (h : SolSt (augF n A) n m cols σ pv M d) (hall : ∀ c, c < n → c ∈ cols) : BasisOf n m A (fun i => M (σ i)) (colsP pv) d := by
  have hle := h.le
  refine ⟨fun r hr => (h.cin r hr).2, fun i hi => ?_, fun i hi => ?_, h.bar.ne, fun x hx => ?_⟩
  · rw [colsP_get]
    rw [colsP_len] at hi
    refine ⟨by rw [h.red hi hi, if_pos rfl]; exact h.bar.ne, fun x h1 h2 => ?_⟩
    rw [colsP_len] at h2
    rw [h.red h2 hi, if_neg (by omega)]
  · rw [colsP_len] at hi
    refine ⟨fun y => M (σ i) (n + y), fun j hj => ?_⟩
    rw [h.by_ (h.lt i (by omega)) hj, S_congr (g := fun y => M (σ i) (n + y) * A y j) (fun y _ => Int.mul_comm _ _), Int.sub_self]
    exact Int.dvd_zero _
  · rw [colsP_len]
    refine ⟨fun i => if hi : i < pv.length then augF n A x pv[i].2 else 0, fun j hj => ?_⟩
    have e1 : augF n A x j = A x j := by unfold augF; rw [if_pos hj]
    have h1 : d * A x j = S pv fun q => augF n A x q.2 * M q.1 j := by
      rw [← e1]
      have := h.bar.rel x hx j
      by_cases hr : x ∈ rowsOf pv
      · rw [if_pos hr, Int.zero_add] at this; exact this
      · rw [if_neg hr] at this
        have hz : M x j = 0 := by
          -- x is some σ k behind the pivots
          have : ∃ k, k < m ∧ σ k = x := by
            have hnd : ((List.range m).map σ).Nodup := by
              refine List.pairwise_map.2 (List.Pairwise.imp_of_mem ?_ (List.nodup_range (n := m)))
              intro a b ha hb hab e
              exact hab (h.inj a b (List.mem_range.1 ha) (List.mem_range.1 hb) e)
            have hperm := perm_of_subset hnd (m := List.range m) (fun y hy => by
              obtain ⟨k, hk, rfl⟩ := List.mem_map.1 hy
              exact List.mem_range.2 (h.lt k (List.mem_range.1 hk))) (by simp)
            obtain ⟨k, hk, e⟩ := List.mem_map.1 (hperm.mem_iff.2 (List.mem_range.2 hx))
            exact ⟨k, List.mem_range.1 hk, e⟩
          obtain ⟨k, hk, rfl⟩ := this
          have hkp : pv.length ≤ k := by
            rcases Nat.lt_or_ge k pv.length with h3 | h3
            · exact absurd (by rw [h.row]; exact List.mem_map.2 ⟨k, List.mem_range.2 h3, rfl⟩) hr
            · exact h3
          exact h.zero k hkp hk j (hall j hj)
        rw [hz, Int.zero_add] at this; exact this
    show (0 : Int) ∣ d * A x j - S (List.range pv.length) fun i => (if hi : i < pv.length then augF n A x pv[i].2 else 0) * M (σ i) j
    rw [h1]
    have h3 : (S pv fun q => augF n A x q.2 * M q.1 j) = S (List.range pv.length) fun i => (if hi : i < pv.length then augF n A x pv[i].2 else 0) * M (σ i) j := by
      have e : pv = (List.range pv.length).map fun i => if hi : i < pv.length then pv[i] else (0, 0) := by
        apply List.ext_getElem?
        intro i
        by_cases hi : i < pv.length
        · simp [hi]
        · rw [List.getElem?_eq_none (by omega), List.getElem?_eq_none (by simp; omega)]
      have e2 : (S pv fun q => augF n A x q.2 * M q.1 j) = S ((List.range pv.length).map fun i => if hi : i < pv.length then pv[i] else (0, 0)) fun q => augF n A x q.2 * M q.1 j := by
        conv => lhs; rw [e]
      rw [e2, S_map]
      refine S_congr fun i hi => ?_
      rw [List.mem_range] at hi
      simp only [dif_pos hi]
      rw [h.row_at hi]
    rw [h3, Int.sub_self]
    exact Int.dvd_zero _
end

theorem rank_exists (A : Nat → Nat → Int) (a n : Nat) : ∃ k, RankIs (fam a A) n k := by
  obtain ⟨σ, pv, M, d, h⟩ := solved_exists (augF n A) n a (List.range n) (fun c hc => List.mem_range.1 hc)
  exact ⟨_, (h.basis fun c hc => List.mem_range.2 hc).rank⟩
/-- The rank of a rows of n numbers. -/
noncomputable def rkF (a n : Nat) (A : Nat → Nat → Int) : Nat := Classical.choose (rank_exists A a n)
theorem rkF_is (a n : Nat) (A : Nat → Nat → Int) : RankIs (fam a A) n (rkF a n A) := Classical.choose_spec (rank_exists A a n)
theorem rkF_eq {a n k : Nat} {A : Nat → Nat → Int} (h : RankIs (fam a A) n k) : rkF a n A = k := (rkF_is a n A).unique h
theorem BasisOf.rkF {n a : Nat} {L Y : Nat → Nat → Int} {R : List Nat} {d : Int} (h : BasisOf n a L Y R d) : rkF a n L = R.length := rkF_eq h.rank
end Go.Proofs.Ytbclbcldplmppaa

/- Jams and loose shafts, by ranks and by solved equations. Plain Lean. -/
namespace Go.Proofs.Ytbclbcldplmppaa

def eU (i j : Nat) : Int := if j = i then 1 else 0
theorem eU_ne {i j : Nat} (h : j ≠ i) : eU i j = 0 := if_neg h
theorem eU_same (i : Nat) : eU i i = 1 := if_pos rfl
/-- A shaft's turns are 0 in each motion: its unit line is in the equations' span. -/
def isJam (m n : Nat) (A : Nat → Nat → Int) (i : Nat) : Prop := rkF (m + 1) n (snocF m A (eU i)) = rkF m n A
def isLoose (m n : Nat) (A : Nat → Nat → Int) (i o : Nat) : Prop := rkF (m + 1 + 1) n (snocF (m + 1) (snocF m A (eU i)) (eU o)) ≠ rkF (m + 1) n (snocF m A (eU i))

section
variable {A : Nat → Nat → Int} {n m : Nat} {cols : List Nat} {σ : Nat → Nat} {pv : List (Nat × Nat)} {M : Nat → Nat → Int} {d : Int}

theorem SolSt.rk (h : SolSt (augF n A) n m cols σ pv M d) (hall : ∀ c, c < n → c ∈ cols) : rkF m n A = pv.length := by
  rw [(h.basis hall).rkF, colsP_len]

/-- The row of the last column, if this is a pivot's. -/
theorem SolSt.row_last (h : SolSt (augF n A) n m cols σ pv M d) (hall : ∀ c, c < n → c ∈ cols) {c1 : List Nat} {i : Nat} (hc : cols = c1 ++ [i]) (hn : cols.Nodup) {q : Nat × Nat} (hq : q ∈ pv) (hi : q.2 = i) (c : Nat) (hcn : c < n) : M q.1 c = if c = i then d else 0 := by
  by_cases e : c = i
  · rw [if_pos e, e, ← hi]
    obtain ⟨pre, post, hp⟩ := List.append_of_mem hq
    exact h.bar.diag hp
  · rw [if_neg e]
    have h1 : c ∈ c1 := by
      have := hall c hcn
      rw [hc] at this
      rcases List.mem_append.1 this with h1 | h1
      · exact h1
      · simp at h1; exact absurd h1 e
    obtain ⟨k, hk, hk2⟩ := List.mem_iff_getElem.1 h1
    refine h.left hn q hq k c1.length c hk ?_ ?_
    · rw [hc, hi]; simp
    · rw [hc, List.getElem?_append_left hk, ← hk2]; simp [hk]
/-- The row of the last column but one. -/
theorem SolSt.row_before (h : SolSt (augF n A) n m cols σ pv M d) (hall : ∀ c, c < n → c ∈ cols) {c1 : List Nat} {o i : Nat} (hc : cols = c1 ++ [o, i]) (hn : cols.Nodup) {q : Nat × Nat} (hq : q ∈ pv) (ho : q.2 = o) (c : Nat) (hcn : c < n) (hci : c ≠ i) : M q.1 c = if c = o then d else 0 := by
  by_cases e : c = o
  · rw [if_pos e, e, ← ho]
    obtain ⟨pre, post, hp⟩ := List.append_of_mem hq
    exact h.bar.diag hp
  · rw [if_neg e]
    have h1 : c ∈ c1 := by
      have := hall c hcn
      rw [hc] at this
      rcases List.mem_append.1 this with h1 | h1
      · exact h1
      · simp at h1; rcases h1 with h1 | h1
        · exact absurd h1 e
        · exact absurd h1 hci
    obtain ⟨k, hk, hk2⟩ := List.mem_iff_getElem.1 h1
    refine h.left hn q hq k c1.length c hk ?_ ?_
    · rw [hc, ho]; simp
    · rw [hc, List.getElem?_append_left hk, ← hk2]; simp [hk]

theorem SolSt.span_row (h : SolSt (augF n A) n m cols σ pv M d) {q : Nat × Nat} (hq : q ∈ pv) : InSpan 0 n (colsP pv).length (fun i => M (σ i)) (M q.1) := by
  obtain ⟨k, hk, rfl⟩ := List.getElem_of_mem hq
  rw [h.row_at hk, colsP_len]
  exact InSpan.mem (Y := fun i => M (σ i)) hk

theorem dvd_zero_of {u v : Int} (h : u = v) : (0 : Int) ∣ u - v := by rw [h, Int.sub_self]; exact Int.dvd_zero _

theorem SolSt.jam (h : SolSt (augF n A) n m cols σ pv M d) (hall : ∀ c, c < n → c ∈ cols) {c1 : List Nat} {i : Nat} (hc : cols = c1 ++ [i]) (hn : cols.Nodup) (hi : i < n) : isJam m n A i ↔ i ∈ colsP pv := by
  have hb := h.basis hall
  unfold isJam
  rw [hb.rkF]
  constructor
  · intro hr
    refine Classical.byContradiction fun hno => ?_
    rw [(hb.add_out hi (e := eU i) (fun r hr => eU_ne fun e => hno (e ▸ hr)) (by rw [eU_same]; decide)).rkF] at hr
    simp at hr
  · intro hm
    obtain ⟨q, hq, hqi⟩ := List.mem_map.1 hm
    exact (hb.add_in (e := eU i) ((h.span_row hq).congr fun j hj => dvd_zero_of (by
      rw [h.row_last hall hc hn hq hqi j hj]
      unfold eU
      split <;> simp))).rkF
/-- A shaft that is free: the equations with it held. -/
theorem SolSt.held (h : SolSt (augF n A) n m cols σ pv M d) (hall : ∀ c, c < n → c ∈ cols) {i : Nat} (hi : i < n) (hno : i ∉ colsP pv) :
    BasisOf n (m + 1) (snocF m A (eU i)) (snocF (colsP pv).length (fun i => M (σ i)) (eU i)) (colsP pv ++ [i]) d :=
  (h.basis hall).add_out hi (e := eU i) (fun r hr => eU_ne fun e => hno (e ▸ hr)) (by rw [eU_same]; decide)

theorem SolSt.loose_same (h : SolSt (augF n A) n m cols σ pv M d) (hall : ∀ c, c < n → c ∈ cols) {i : Nat} (hi : i < n) (hno : i ∉ colsP pv) : ¬ isLoose m n A i i := by
  have hb := h.held hall hi hno
  unfold isLoose
  rw [hb.rkF, (hb.add_in (e := eU i) ?_).rkF]
  · exact fun h => h rfl
  · rw [List.length_append, List.length_singleton]
    have := InSpan.mem (m := 0) (n := n) (cnt := (colsP pv).length + 1) (Y := snocF (colsP pv).length (fun i => M (σ i)) (eU i)) (k := (colsP pv).length) (by omega)
    rw [snocF_at] at this
    exact (this.comb this d 0).congr fun j _ => dvd_zero_of (by rw [Int.zero_mul, Int.add_zero])
theorem SolSt.loose (h : SolSt (augF n A) n m cols σ pv M d) (hall : ∀ c, c < n → c ∈ cols) {c1 : List Nat} {o i : Nat} (hc : cols = c1 ++ [o, i]) (hn : cols.Nodup) (hi : i < n) (ho : o < n) (hoi : o ≠ i) (hno : i ∉ colsP pv) : isLoose m n A i o ↔ o ∉ colsP pv := by
  have hb := h.held hall hi hno
  unfold isLoose
  rw [hb.rkF]
  constructor
  · intro hr hm
    refine hr ?_
    obtain ⟨q, hq, hqo⟩ := List.mem_map.1 hm
    refine (hb.add_in (e := eU o) ?_).rkF
    rw [List.length_append, List.length_singleton]
    have h1 := (h.span_row hq).more (b := (colsP pv).length + 1) (L' := snocF (colsP pv).length (fun i => M (σ i)) (eU i)) (by omega) (fun x hx => snocF_lt hx)
    have h2 := InSpan.mem (m := 0) (n := n) (cnt := (colsP pv).length + 1) (Y := snocF (colsP pv).length (fun i => M (σ i)) (eU i)) (k := (colsP pv).length) (by omega)
    rw [snocF_at] at h2
    refine (h1.comb h2 1 (- M q.1 i)).congr fun j hj => dvd_zero_of ?_
    by_cases e : j = i
    · subst e
      unfold eU
      rw [if_neg (fun e => hoi e.symm), if_pos rfl]
      simp
      omega
    · rw [h.row_before hall hc hn hq hqo j hj e]
      unfold eU
      rw [if_neg e]
      split <;> simp
  · intro hno2 hr
    rw [(hb.add_out ho (e := eU o) (fun r hr => by
      unfold eU
      rw [if_neg]
      rcases List.mem_append.1 hr with h1 | h1
      · exact fun e => hno2 (e ▸ h1)
      · simp at h1; rw [h1]; exact fun e => hoi e.symm) (by unfold eU; rw [if_pos rfl]; decide)).rkF] at hr
    simp at hr
end
end Go.Proofs.Ytbclbcldplmppaa

/- The reference's inverse modulo a prime: a power. -/
namespace Go.Proofs.Ytbclbcldplmppaa
open Go.RowKit

theorem pow_half (x y n p : Nat) : ((if n % 2 = 1 then y * x % p else y) * (x * x % p) ^ (n / 2)) % p = (y * x ^ n) % p := by
  have h1 : ∀ z, (z * (x * x % p) ^ (n / 2)) % p = (z * x ^ (2 * (n / 2))) % p := fun z => by
    rw [Nat.mul_mod, Nat.pow_mod, Nat.mod_mod, ← Nat.pow_mod, ← Nat.mul_mod, Nat.pow_mul, Nat.pow_two]
  rw [h1]
  by_cases h : n % 2 = 1
  · rw [if_pos h, Nat.mul_mod, Nat.mod_mod, ← Nat.mul_mod, Nat.mul_assoc, ← Nat.pow_succ']
    congr 3
    omega
  · rw [if_neg h]
    congr 3
    omega

def pinv (a p : Nat) : Nat := a ^ (p - 2) % p

theorem pinv_mul {a p : Nat} (hp : IsPrime p) (h2 : 2 < p) (ha : ¬ p ∣ a) : a * pinv a p % p = 1 := by
  have h := fermat hp ha
  rw [pinv, Nat.mul_mod, Nat.mod_mod, ← Nat.mul_mod, ← Nat.pow_succ', show (p - 2).succ = p - 1 by omega]
  exact h
theorem pinv_lt {a p : Nat} (h2 : 2 < p) : pinv a p < p := Nat.mod_lt _ (by omega)

set_option maxRecDepth 100000 in
theorem inverse_any (a p : Nat) (w : World) (ha : a < p) (hp : 2 < p) (hp2 : p ≤ 2147483647) :
    Calls Try.prog 111 #[.int .i64 a, .int .i64 p] w fun e w' => e = .returned (.int .i64 ((pinv a p : Nat) : Int)) ∧ w = w' := by
  have h2 : IntKind.i64.wrap ((p : Int) - 2) = ((p - 2 : Nat) : Int) := by rw [IntKind.wrap_i64]; omega
  have hp0 : ¬ ((p : Int) = 0) := by omega
  go_enter Try.func111, Try.ntmps111
  go_wp2
  go_loop [0, 5, 6] (fun xv yv nv => ∃ x y n : Nat, xv = .int .i64 x ∧ yv = .int .i64 y ∧ nv = .int .i64 n ∧ x < p ∧ y < p ∧ n ≤ p ∧ (y * x ^ n) % p = pinv a p) (fun _ _ nv => (intOf nv).toNat)
  case atStart => exact ⟨a, 1, p - 2, rfl, rfl, rfl, ha, by omega, by omega, by rw [Nat.one_mul]; rfl⟩
  case round =>
    obtain ⟨x, y, n, rfl, rfl, rfl, hx, hy, hn, hI⟩ := hrel
    have s1 : (y * x) < 4611686018427387904 := Nat.lt_of_le_of_lt (Nat.mul_le_mul (show y ≤ 2147483647 by omega) (show x ≤ 2147483647 by omega)) (by decide)
    have s2 : (x * x) < 4611686018427387904 := Nat.lt_of_le_of_lt (Nat.mul_le_mul (show x ≤ 2147483647 by omega) (show x ≤ 2147483647 by omega)) (by decide)
    have m1 : IntKind.i64.wrap ((y : Int) * x) = ((y * x : Nat) : Int) := by rw [IntKind.wrap_i64]; simp only [Int.natCast_mul] at *; omega
    have m2 : IntKind.i64.wrap ((x : Int) * x) = ((x * x : Nat) : Int) := by rw [IntKind.wrap_i64]; omega
    have s3 := Nat.mod_lt (y * x) (show 0 < p by omega)
    have s4 := Nat.mod_lt (x * x) (show 0 < p by omega)
    have r1 : (((y * x : Nat) : Int)).tmod p = ((y * x % p : Nat) : Int) := (Int.ofNat_tmod _ _).symm
    have r2 : (((x * x : Nat) : Int)).tmod p = ((x * x % p : Nat) : Int) := (Int.ofNat_tmod _ _).symm
    have r3 : ((n : Int)).tmod 2 = ((n % 2 : Nat) : Int) := (Int.ofNat_tmod _ _).symm
    have r4 : ((n : Int)).tdiv 2 = ((n / 2 : Nat) : Int) := (Int.ofNat_tdiv _ _).symm
    go_wp2
    · rename_i h0 h1
      have h1' : n % 2 = 1 := by simp at h1; omega
      refine ⟨⟨x * x % p, y * x % p, n / 2, by simp, by simp, by simp, s4, s3, by omega, ?_⟩, by simp [intOf]; omega⟩
      have := pow_half x y n p
      rw [if_pos h1'] at this
      rw [this, hI]
    · rename_i h0 h1
      have h1' : ¬ n % 2 = 1 := by simp at h1; omega
      refine ⟨⟨x * x % p, y, n / 2, by simp, rfl, by simp, s4, hy, by omega, ?_⟩, by simp [intOf]; omega⟩
      have := pow_half x y n p
      rw [if_neg h1'] at this
      rw [this, hI]
    · rename_i h0 _
      have : n = 0 := by omega
      subst this
      have : y = pinv a p := by
        rw [← hI, Nat.pow_zero, Nat.mul_one, Nat.mod_eq_of_lt hy]
      subst this
      go_ret
      exact ⟨rfl, rfl⟩
end Go.Proofs.Ytbclbcldplmppaa

/- Lists of lines in the call's own memory; the reference's rows. -/
namespace Go.Proofs.Ytbclbcldplmppaa
open Go.RowKit

theorem slice_elem : ElemInfo 22 (.slice none 0 0) 1 24 := ⟨info_parts (by kernel_rfl), rfl, by decide⟩

abbrev slL (m : Nat) (gs : List Nat) : List Value := gs.map fun g => sl g m
/-- A slice of lines, all of m numbers, all in memory that is new since b. -/
structure LMat (b w : World) (v : Value) (m : Nat) (gs : List Nat) (ls : List (List Int)) : Prop where
  own : Own b w 22 1 v ls.length (slL m gs)
  gl : gs.length = ls.length
  rows : ∀ i (h1 : i < gs.length) (h2 : i < ls.length), NewInts b w gs[i] ls[i] ∧ ls[i].length = m

section
variable {b w w' : World} {v : Value} {m : Nat} {gs : List Nat} {ls : List (List Int)}
theorem LMat.later (h : LMat b w v m gs ls) (he : Ext w w') : LMat b w' v m gs ls := ⟨h.own.later he, h.gl, fun i h1 h2 => ⟨(h.rows i h1 h2).1.later he, (h.rows i h1 h2).2⟩⟩
theorem LMat.since {b0 : World} (h : LMat b w v m gs ls) (he : Ext b0 b) : LMat b0 w v m gs ls := ⟨h.own.since he, h.gl, fun i h1 h2 => ⟨(h.rows i h1 h2).1.since he, (h.rows i h1 h2).2⟩⟩
theorem LMat.start (he : Ext b w) (m : Nat) : LMat b w (.slice none 0 0) m [] [] := ⟨Own.nil' he _ _, rfl, fun i h1 => by simp at h1⟩
/-- The slice's own block is no line's. -/
theorem LMat.apart (h : LMat b w v m gs ls) {k : Nat} {xs : List Int} {b' : World} (hk : NewInts b' w k xs) : v.ownBlock ≠ some k := fun e => by
  rcases h.own.2.2 with ⟨rfl, _⟩ | ⟨g, cap, cur, rfl, _, hh, _⟩
  · cases e
  · injection e with e
    simp only at e
    subst e
    have := hk.2.2
    rw [hh] at this
    injection this with this
    injection this with _ ht
    exact absurd ht (by decide)
/-- One line more. -/
theorem LMat.append {w1 w2 : World} {v' : Value} {g : Nat} {l : List Int} (hm : LMat b w v m gs ls) (he : Ext w w1) (hg : NewInts b w1 g l) (hl : l.length = m)
    (ho : Own b w2 22 1 v' (ls.length + 1) (slL m gs ++ [sl g m])) (hgr : w1.grownBy w2 v.ownBlock) : LMat b w2 v' m (gs ++ [g]) (ls ++ [l]) := by
  have hm1 := hm.later he
  have keep : ∀ k xs, NewInts b w1 k xs → NewInts b w2 k xs := fun k xs hk => ⟨ho.ext, hk.2.1, by
    rw [hgr.block k hk.lt (fun e => hm1.apart hk e.symm)]; exact hk.2.2⟩
  refine ⟨by simpa [slL] using ho, by simp [hm.gl], fun i h1 h2 => ?_⟩
  by_cases e : i < ls.length
  · have e' : i < gs.length := by rw [hm.gl]; exact e
    rw [List.getElem_append_left e, List.getElem_append_left e']
    exact ⟨keep _ _ (hm1.rows i e' e).1, (hm1.rows i e' e).2⟩
  · have : i = ls.length := by simp at h2; omega
    subst this
    have hgl := hm.gl
    rw [List.getElem_append_right (Nat.le_refl _), List.getElem_append_right (by rw [hgl]; exact Nat.le_refl _)]
    simp [hgl]
    exact ⟨keep _ _ hg, hl⟩
end

def LRes (w : World) (m : Nat) (ls : List (List Int)) (e : Ending) (w' : World) : Prop := ∃ v gs, e = .returned v ∧ LMat w w' v m gs ls

set_option maxRecDepth 100000 in
set_option maxHeartbeats 4000000 in
theorem rows_ref (A : Option Addr) (c S : Nat) (ms : List Msh) (w : World) (hA : MRow w A ms) (ht : trainP S ms) :
    Calls Try.prog 69 #[.agg #[.int .i64 S, .slice A ms.length c]] w (LRes w S (ms.map fun x => facS x S)) := by
  have ha := fun k (hk : k < ms.length) => hA.at_ hk
  have ce := fun (k : Nat) (hk : k < ms.length) (w' : World) => factors_any ms[k] S w' (ht.2.2.2 k hk) (by have := ht.2.1; omega)
  have hl16 := ht.2.2.1
  have h8 : S ≤ 8 := by have := ht.2.1; omega
  have hfl := fun (k : Nat) (hk : k < ms.length) => facS_length ms[k] S
  have hln : (ms.map fun x => facS x S).length = ms.length := by simp
  have Ha := Lib.hid ha
  have Ce := Lib.hid ce
  have Hfl := Lib.hid hfl
  clear ha ce hfl hA ht
  generalize hL : (ms.map fun x => facS x S) = L at *
  have HL := Lib.hid hL
  clear hL
  obtain ⟨m, hm⟩ : ∃ m, m = ms.length := ⟨_, rfl⟩
  rw [← hm] at hl16 hln ⊢
  have Hm := Lib.hid hm
  clear hm
  go_enter Try.func69, Try.ntmps69
  go_wp2
  have hexb : Ext w (w.alloc (.cells #[.int .i64 S, .slice A m c] 41)) := by simp
  have hp0 : ∀ w', Ext (w.alloc (.cells #[.int .i64 S, .slice A m c] 41)) w' → w'.cell? ⟨w.heap.size, 0, none⟩ = some (.int .i64 S) := fun w' he => he.cell (by simp)
  have hp1 : ∀ w', Ext (w.alloc (.cells #[.int .i64 S, .slice A m c] 41)) w' → w'.cell? ⟨w.heap.size, 1, none⟩ = some (.slice A m c) := fun w' he => he.cell (by simp)
  generalize w.alloc (.cells #[.int .i64 S, .slice A m c] 41) = wb at *
  have Hexb := Lib.hid hexb
  have Hp0 := Lib.hid hp0
  have Hp1 := Lib.hid hp1
  clear hexb hp0 hp1
  generalize w.heap.size = bx at *
  go_loopw [4, 3] (fun i t wr => ∃ k : Nat, k ≤ m ∧ i = .int .i64 k ∧ ∃ gs, LMat wb wr t S gs (L.take k)) (fun i _ _ => m - (intOf i).toNat)
  case atStart => exact ⟨0, by omega, rfl, [], by rw [List.take_zero]; exact LMat.start (Ext.refl _) _⟩
  case round =>
    obtain ⟨k, hk, rfl, gs, hmat⟩ := hrel
    obtain ⟨Av, cv, hv⟩ := hmat.own.form
    subst hv
    have hexw := Hexb.out.trans hmat.own.ext
    have hp0 : ∀ w', Ext wr w' → w'.cell? ⟨bx, 0, none⟩ = some (.int .i64 S) := fun w' he => Hp0.out w' (hmat.own.ext.trans he)
    have hp1 : ∀ w', Ext wr w' → w'.cell? ⟨bx, 1, none⟩ = some (.slice A m c) := fun w' he => Hp1.out w' (hmat.own.ext.trans he)
    have hlt' : (L.take k).length = k := by simp; omega
    rw [hlt'] at hmat ⊢
    by_cases hlt : k < m
    · have hkp : k < ms.length := by rw [← Hm.out]; exact hlt
      obtain ⟨ad, rfl, q0, q1, q2, q3, q4, q5⟩ := Ha.out k hkp
      have q0 : ∀ w', Ext wr w' → _ := fun w' he => q0 w' (hexw.trans he)
      have q1 : ∀ w', Ext wr w' → _ := fun w' he => q1 w' (hexw.trans he)
      have q2 : ∀ w', Ext wr w' → _ := fun w' he => q2 w' (hexw.trans he)
      have q3 : ∀ w', Ext wr w' → _ := fun w' he => q3 w' (hexw.trans he)
      have q4 : ∀ w', Ext wr w' → _ := fun w' he => q4 w' (hexw.trans he)
      have q5 : ∀ w', Ext wr w' → _ := fun w' he => q5 w' (hexw.trans he)
      have hce := Ce.out k hkp
      have hfl := Hfl.out k hkp
      have hkL : k < L.length := by omega
      have hLk : L[k] = facS ms[k] S := by simp [← HL.out]
      have hli : L.take (k + 1) = L.take k ++ [facS ms[k] S] := by rw [← hLk]; exact List.take_succ_eq_append_getElem hkL
      have Hce := Lib.hid hce
      have Hli' := Lib.hid hli
      have Hfl' := Lib.hid hfl
      clear hce hli hfl hLk hkL
      generalize facS ms[k] S = l at *
      generalize ms[k] = x at *
      obtain ⟨kind, a, b, c3, n, m3⟩ := x
      simp only [Msh.val] at *
      have hki : (k : Int) < (m : Int) := by omega
      go_wp2
      refine wp_region_calm 10 (fun j _ v w => j = 8 → ∃ g, v = sl g l.length ∧ NewInts wr w g l) (fun _ _ _ _ _ he h e => let ⟨g, hg, hn⟩ := h e; ⟨g, hg, hn.later he⟩) (by kernel_rfl) (by kernel_rfl) ?_
      simp only [List.take_succ_cons, List.take_zero, List.drop_succ_cons, List.drop_zero]
      refine calm_quiet calm_mono_final 8 (by kernel_rfl) ?_
      simp only [List.take_succ_cons, List.take_zero, List.drop_succ_cons, List.drop_zero]
      repeat (go_big_quiet_step (fail))
      refine wpQuiet_nil ?_
      refine calm_call calm_mono_final 63 #[.agg #[.int .u8 kind, vint a, vint b, vint c3, vint n, vint m3], .int .i64 S] rfl (fun w => ?_) (fun w he _ => ?_) ?_
      · go_simp
      · refine (Hce.out w).mono fun e w'' h => ?_
        obtain ⟨g, rfl, ho⟩ := h
        have hn := NewInts.of_own ho
        exact ⟨_, rfl, hn.ext, fun _ => ⟨g, rfl, hn.since he⟩⟩
      rintro v3 w' _ h
      obtain ⟨g, rfl, _⟩ := h rfl
      simp only [Act.put, List.setIfInBounds_toArray, List.set_cons_succ, List.set_cons_zero]
      refine calm_alloc calm_mono_final (fun b => .slice (some ⟨b, 0, none⟩) 1 1) (.cells #[sl g l.length] 22) (fun b c h => by simpa using h) rfl (fun w => ?_) (fun b hb => ?_)
      · go_simp
      simp only [Act.put, List.setIfInBounds_toArray, List.set_cons_succ, List.set_cons_zero]
      refine calm_nil fun w3 he3 hF => ?_
      have hrow := row_heap ((hF 9).2 rfl)
      obtain ⟨g', eg, hg⟩ := (hF 8).1.2 rfl rfl
      simp only [sl, Value.slice.injEq, Option.some.injEq, Addr.mk.injEq, and_true] at eg
      subst eg
      clear hF
      have hlS : l.length = S := Hfl'.out
      rw [hlS] at hrow ⊢
      have hbv := (hmat.later he3).own
      rw [hlt'] at hbv
      go_wp2_with (first
        | (refine own_append_at (w1 := wb) slice_elem rfl _ _ 106 rfl Try.underlying106 _ k (slL S gs) rfl hbv _ 1 1 _ rfl rfl hrow (by intro u hu; simp at hu; subst hu; rfl) (by omega) (by unfold maxLen; omega) ?_; intro v' w' ho hgr _))
      go_roundw
      case rel =>
        refine ⟨k + 1, by omega, by go_num, gs ++ [g], ?_⟩
        rw [Hli'.out]
        exact hmat.append he3 (hg.since hmat.own.ext) hlS (by rw [hlt']; exact ho) hgr
      case measure => simp [intOf]; omega
    · obtain rfl : k = m := by omega
      go_wp2
      go_ret
      refine ⟨.slice Av k cv, gs, rfl, ?_⟩
      have hall : L.take k = L := List.take_of_length_le (by omega)
      have := hmat.since Hexb.out
      rwa [hall] at this
end Go.Proofs.Ytbclbcldplmppaa

/- Rows of numbers in own memory, as a function of row and column (the reference's elimination). -/
namespace Go.Proofs.Ytbclbcldplmppaa
open Go.RowKit

def rowI (f : Nat → Int) (n : Nat) : List Int := (List.range n).map f
@[simp] theorem rowI_length (f : Nat → Int) (n : Nat) : (rowI f n).length = n := by simp [rowI]
theorem rowI_get (f : Nat → Int) {n j : Nat} (h : j < n) : (rowI f n)[j]? = some (f j) := by simp [rowI, h]
theorem rowI_congr {f g : Nat → Int} {n : Nat} (h : ∀ j, j < n → f j = g j) : rowI f n = rowI g n := List.map_congr_left fun j hj => h j (List.mem_range.1 hj)
theorem rowI_set (f : Nat → Int) (n j : Nat) (x : Int) : (rowI f n).set j x = rowI (fun i => if i = j then x else f i) n := by
  apply List.ext_getElem?
  intro i
  rw [List.getElem?_set]
  by_cases e : j = i
  · subst e
    by_cases hj : j < n
    · rw [if_pos rfl, if_pos (by simpa using hj), rowI_get _ hj, if_pos rfl]
    · rw [if_pos rfl, if_neg (by simpa using hj)]
      symm; simp [rowI]; omega
  · rw [if_neg e]
    by_cases hi : i < n
    · rw [rowI_get _ hi, rowI_get _ hi, if_neg (fun h => e h.symm)]
    · rw [List.getElem?_eq_none (by simpa using hi), List.getElem?_eq_none (by simpa using hi)]
theorem rowI_succ (f : Nat → Int) (n : Nat) : rowI f (n + 1) = rowI f n ++ [f n] := by simp [rowI, List.range_succ]

def rsl (g c : Nat → Nat) (n k : Nat) : Value := .slice (some ⟨g k, 0, none⟩) n (c k)
def rsls (g c : Nat → Nat) (n a : Nat) : List Value := (List.range a).map (rsl g c n)
@[simp] theorem rsls_length (g c : Nat → Nat) (n a : Nat) : (rsls g c n a).length = a := by simp [rsls]
theorem rsls_get (g c : Nat → Nat) (n : Nat) {a k : Nat} (h : k < a) : (rsls g c n a)[k]? = some (rsl g c n k) := by simp [rsls, h]

/-- a rows of n numbers in own memory, each in a block of its own. -/
structure RM (b w : World) (v : Value) (n a : Nat) (g c : Nat → Nat) (M : Nat → Nat → Int) : Prop where
  own : Own b w 22 1 v a (rsls g c n a)
  rl : ∀ k, k < a → Own b w 3 1 (rsl g c n k) n ((rowI (M k) n).map vint)
  gg : ∀ i j, i < a → j < a → g i = g j → i = j

section
variable {b w w' : World} {v : Value} {n a : Nat} {g c : Nat → Nat} {M : Nat → Nat → Int}
theorem RM.ext (h : RM b w v n a g c M) : Ext b w := h.own.ext
theorem RM.later (h : RM b w v n a g c M) (he : Ext w w') : RM b w' v n a g c M := ⟨h.own.later he, fun k hk => (h.rl k hk).later he, h.gg⟩
theorem RM.start (he : Ext b w) (n : Nat) (g c : Nat → Nat) (M : Nat → Nat → Int) : RM b w (.slice none 0 0) n 0 g c M := ⟨Own.nil' he _ _, fun k hk => by omega, fun i j hi => by omega⟩
theorem Own.blk {b w : World} {e : TypeId} {s : Nat} {A k c : Nat} {xs : List Value} (h : Own b w e s (.slice (some ⟨A, 0, none⟩) k c) k xs) : ∃ cs, w.heap[A]? = some (.cells cs e) := by
  rcases h.2.2 with ⟨e, _⟩ | ⟨g', cap, cur, e, _, hh, _⟩
  · cases e
  · injection e with e1 e2 e3
    injection e1 with e1
    injection e1 with e1 _ _
    subst e1
    exact ⟨cur, hh⟩
theorem Own.blk_lt {b w : World} {e : TypeId} {s : Nat} {A k c : Nat} {xs : List Value} (h : Own b w e s (.slice (some ⟨A, 0, none⟩) k c) k xs) : A < w.heap.size := by
  obtain ⟨cs, hh⟩ := h.blk
  exact (Array.getElem?_eq_some_iff.1 hh).1
theorem RM.apart_of {A k cc : Nat} {xs : List Value} {b' : World} (h : RM b w v n a g c M) (hk : Own b' w 3 1 (.slice (some ⟨A, 0, none⟩) k cc) k xs) : v.ownBlock ≠ some A := fun e => by
  rcases h.own.2.2 with ⟨rfl, _⟩ | ⟨g', cap, cur, rfl, _, hh, _⟩
  · cases e
  · injection e with e
    simp only at e
    subst e
    obtain ⟨cs, hb⟩ := hk.blk
    rw [hh] at hb
    injection hb with hb
    injection hb with _ ht
    exact absurd ht (by decide)

theorem RM.apart (h : RM b w v n a g c M) {k : Nat} (hk : k < a) : v.ownBlock ≠ some (g k) := h.apart_of (h.rl k hk)
theorem RM.lt (h : RM b w v n a g c M) {k : Nat} (hk : k < a) : g k < w.heap.size := (h.rl k hk).blk_lt
theorem RM.ge (h : RM b w v n a g c M) {k : Nat} (hk : k < a) : b.heap.size ≤ g k := (h.rl k hk).ge

/-- One row more, built since w1. -/
theorem RM.append {w1 w2 w3 : World} {v' : Value} {g0 c0 : Nat} {f : Nat → Int} (h : RM b w v n a g c M) (hr : Own w w1 3 1 (.slice (some ⟨g0, 0, none⟩) n c0) n ((rowI f n).map vint)) (he : Ext w1 w2)
    (ho : Own b w3 22 1 v' (a + 1) (rsls g c n a ++ [.slice (some ⟨g0, 0, none⟩) n c0])) (hgr : w2.grownBy w3 v.ownBlock) (hM : ∀ j, j < n → M a j = f j) :
    RM b w3 v' n (a + 1) (fun k => if k = a then g0 else g k) (fun k => if k = a then c0 else c k) M := by
  have h1 := h.later hr.ext
  have h2 := h1.later he
  have hr2 := hr.later he
  have keep : ∀ {A k cc : Nat} {xs : List Value} {b' : World}, Own b w2 3 1 (.slice (some ⟨A, 0, none⟩) k cc) k xs → Own b w3 3 1 (.slice (some ⟨A, 0, none⟩) k cc) k xs := fun {A k cc xs _} hk => by
    refine ⟨ho.ext, hk.2.1, ?_⟩
    rcases hk.2.2 with e | ⟨g', cap, cur, e, hb, hh, r⟩
    · exact .inl e
    · refine .inr ⟨g', cap, cur, e, hb, ?_, r⟩
      injection e with e1 e2 e3
      injection e1 with e1
      injection e1 with e1 _ _
      subst e1
      rw [hgr.block A hk.blk_lt (fun e => h2.apart_of hk e.symm)]
      exact hh
  refine ⟨?_, fun k hk => ?_, fun i j hi hj e => ?_⟩
  · have : rsls (fun k => if k = a then g0 else g k) (fun k => if k = a then c0 else c k) n (a + 1) = rsls g c n a ++ [.slice (some ⟨g0, 0, none⟩) n c0] := by
      unfold rsls
      rw [List.range_succ, List.map_append]
      congr 1
      · refine List.map_congr_left fun k hk => ?_
        have : k ≠ a := by have := List.mem_range.1 hk; omega
        simp only [rsl, if_neg this]
      · simp [rsl]
    rw [this]; exact ho
  · by_cases e : k = a
    · subst e
      have hr3 := keep (b' := b) (hr2.since h.ext)
      rw [rowI_congr hM]
      simpa only [rsl, if_true] using hr3
    · have := keep (b' := b) (h2.rl k (by omega))
      simpa only [rsl, if_neg e] using this
  · have hg := hr.ge
    by_cases e1 : i = a <;> by_cases e2 : j = a <;> simp only [e1, e2, if_true, if_false] at e ⊢
    · have := h.lt (k := j) (by omega); omega
    · have := h.lt (k := i) (by omega); omega
    · exact h.gg i j (by omega) (by omega) e

/-- A number is stored. -/
theorem RM.store (h : RM b w v n a g c M) {k : Nat} (hk : k < a) (j : Nat) (x : Int) : RM b (w.setCell ⟨g k, j, none⟩ (vint x)) v n a g c (fun i => if i = k then fun l => if l = j then x else M k l else M i) := by
  refine ⟨h.own.other (p := ⟨g k, j, none⟩) (h.ge hk) (h.apart hk) _, fun i hi => ?_, h.gg⟩
  by_cases e : i = k
  · subst e
    rw [if_pos rfl]
    have := (h.rl i hi).store j (vint x)
    rw [← List.map_set, rowI_set] at this
    exact this
  · rw [if_neg e]
    exact (h.rl i hi).other (p := ⟨g k, j, none⟩) (h.ge hk) (by simp only [rsl, Value.ownBlock, ne_eq, Option.some.injEq]; exact fun e' => e (h.gg i k hi hk e')) _
theorem RM.congr {M' : Nat → Nat → Int} (h : RM b w v n a g c M) (hM : ∀ k, k < a → ∀ j, j < n → M k j = M' k j) : RM b w v n a g c M' :=
  ⟨h.own, fun k hk => by rw [← rowI_congr (hM k hk)]; exact h.rl k hk, h.gg⟩
theorem RM.cell (h : RM b w v n a g c M) {k j : Nat} (hk : k < a) (hj : j < n) : w.cell? ⟨g k, j, none⟩ = some (vint (M k j)) := by
  have := (h.rl k hk).cell (j := j) (by simpa using hj)
  rw [this]
  simp [rowI_get _ hj]
theorem RM.free (h : RM b w v n a g c M) {k : Nat} (hk : k < a) (j : Nat) : w.frozen? ⟨g k, j, none⟩ = false := (h.rl k hk).free j
theorem RM.row {gv cv : Nat} (h : RM b w (.slice (some ⟨gv, 0, none⟩) a cv) n a g c M) {k : Nat} (hk : k < a) : w.cell? ⟨gv, k, none⟩ = some (rsl g c n k) := by
  rw [h.own.cell (by simpa using hk), rsls_get _ _ _ hk]

def swapM (M : Nat → Nat → Int) (a b k : Nat) : Nat → Int := if k = a then M b else if k = b then M a else M k
/-- Two rows exchanged. -/
theorem RM.swap {gv cv : Nat} (h : RM b w (.slice (some ⟨gv, 0, none⟩) a cv) n a g c M) {x y : Nat} (hx : x < a) (hy : y < a) :
    RM b ((w.setCell ⟨gv, x, none⟩ (rsl g c n y)).setCell ⟨gv, y, none⟩ (rsl g c n x)) (.slice (some ⟨gv, 0, none⟩) a cv) n a (swapF g x y) (swapF c x y) (swapM M x y) := by
  have hge := h.own.ge
  have both : ∀ k, k < a → ∃ k', k' < a ∧ swapF g x y k = g k' ∧ swapF c x y k = c k' ∧ swapM M x y k = M k' := fun k hk => by
    unfold swapF swapM
    by_cases e1 : k = x
    · exact ⟨y, hy, by rw [if_pos e1], by rw [if_pos e1], by rw [if_pos e1]⟩
    · by_cases e2 : k = y
      · exact ⟨x, hx, by rw [if_neg e1, if_pos e2], by rw [if_neg e1, if_pos e2], by rw [if_neg e1, if_pos e2]⟩
      · exact ⟨k, hk, by rw [if_neg e1, if_neg e2], by rw [if_neg e1, if_neg e2], by rw [if_neg e1, if_neg e2]⟩
  refine ⟨?_, fun k hk => ?_, swapF_inj hx hy h.gg⟩
  · have := (h.own.store x (rsl g c n y)).store y (rsl g c n x)
    have e : (((rsls g c n a).set x (rsl g c n y)).set y (rsl g c n x)) = rsls (swapF g x y) (swapF c x y) n a := by
      apply List.ext_getElem?
      intro i
      rw [List.getElem?_set, List.getElem?_set]
      by_cases hi : i < a
      · rw [rsls_get (swapF g x y) (swapF c x y) n hi]
        by_cases e1 : y = i
        · subst e1
          rw [if_pos rfl, if_pos (by simpa using hi)]
          by_cases e2 : y = x
          · subst e2; simp [rsl, swapF]
          · simp [rsl, swapF, e2]
        · rw [if_neg e1]
          by_cases e2 : x = i
          · subst e2
            rw [if_pos rfl, if_pos (by simpa using hi)]
            simp [rsl, swapF]
          · rw [if_neg e2, rsls_get g c n hi]
            have e1' : ¬ i = y := fun h => e1 h.symm
            have e2' : ¬ i = x := fun h => e2 h.symm
            simp [rsl, swapF, e1', e2']
      · rw [List.getElem?_eq_none (l := rsls (swapF g x y) (swapF c x y) n a) (by simpa using hi), if_neg (show ¬ y = i from fun e => hi (e ▸ hy)), if_neg (show ¬ x = i from fun e => hi (e ▸ hx))]
        exact List.getElem?_eq_none (by simpa using hi)
    rw [← e]; exact this
  · obtain ⟨k', hk', e1, e2, e3⟩ := both k hk
    unfold rsl
    rw [e1, e2, e3]
    have h1 := h.rl k' hk'
    have hne : (rsl g c n k').ownBlock ≠ some gv := by
      have := h.apart hk'
      simp only [rsl, Value.ownBlock, ne_eq, Option.some.injEq] at this ⊢
      exact fun e => this e.symm
    exact (h1.other (p := ⟨gv, x, none⟩) hge hne _).other (p := ⟨gv, y, none⟩) hge hne _
end
end Go.Proofs.Ytbclbcldplmppaa

/- The reference's numbers modulo a prime. -/
namespace Go.Proofs.Ytbclbcldplmppaa
open Go.RowKit

theorem rest_eq (n p : Int) (hp : 0 < p) : (n.tmod p + p).tmod p = n % p := by
  have h1 := Int.emod_nonneg n (show p ≠ 0 by omega)
  have h2 := Int.emod_lt_of_pos n hp
  have h3 : n.tmod p + p = n % p + p ∨ n.tmod p + p = n % p := by
    rw [Int.tmod_eq_emod]
    split
    · left; omega
    · right
      have : (p.natAbs : Int) = p := by omega
      rw [this]; omega
  rcases h3 with e | e
  · rw [e, Int.tmod_eq_emod_of_nonneg (by omega), Int.add_emod_right]
    exact Int.emod_eq_of_lt h1 h2
  · rw [e, Int.tmod_eq_emod_of_nonneg h1]
    exact Int.emod_eq_of_lt h1 h2
theorem tmod_small (n p : Int) (hp : 0 < p) : -p < n.tmod p ∧ n.tmod p < p := by
  have h1 := Int.emod_nonneg n (show p ≠ 0 by omega)
  have h2 := Int.emod_lt_of_pos n hp
  rw [Int.tmod_eq_emod]
  split
  · omega
  · have : (p.natAbs : Int) = p := by omega
    rw [this]
    rename_i h
    have : n % p ≠ 0 := fun e => h (.inr (Int.dvd_of_emod_eq_zero e))
    omega

set_option maxRecDepth 100000 in
theorem rest_any (n p : Int) (w : World) (hp : 0 < p) (hp2 : p ≤ 2147483647) :
    Calls Try.prog 110 #[.int .i64 n, .int .i64 p] w fun e w' => e = .returned (.int .i64 (n % p)) ∧ w = w' := by
  have h1 := tmod_small n p hp
  have h2 := rest_eq n p hp
  have h3 := tmod_small (n.tmod p + p) p hp
  have e0 : ¬ (p = 0) := by omega
  have e1 : IntKind.i64.wrap (n.tmod p) = n.tmod p := by rw [IntKind.wrap_i64]; omega
  have e2 : IntKind.i64.wrap (n.tmod p + p) = n.tmod p + p := by rw [IntKind.wrap_i64]; omega
  have e3 : IntKind.i64.wrap ((n.tmod p + p).tmod p) = n % p := by rw [IntKind.wrap_i64]; omega
  go_enter Try.func110, Try.ntmps110
  go_wp2
  go_ret
  exact ⟨rfl, rfl⟩
end Go.Proofs.Ytbclbcldplmppaa

/- rankOf: the loops that clear a column. -/
namespace Go.Proofs.Ytbclbcldplmppaa
open Go.RowKit

noncomputable def loop97_10 : Code := ((Try.f97.body.bind (blockOf 10)).map loopBody).getD .skip
noncomputable def loop97_8 : Code := ((Try.f97.body.bind (blockOf 8)).map loopBody).getD .skip

/-- Row q has its first j numbers from N. -/
def mixN (N : Nat → Int) (M : Nat → Nat → Int) (q j x i : Nat) : Int := if x = q ∧ i < j then N i else M x i
theorem mixN_zero (N : Nat → Int) (M : Nat → Nat → Int) (q x i : Nat) : mixN N M q 0 x i = M x i := by simp [mixN]
theorem mixN_step (N : Nat → Int) (M : Nat → Nat → Int) (q j : Nat) : (fun i => if i = q then fun l => if l = j then N j else mixN N M q j q l else mixN N M q j i) = mixN N M q (j + 1) := by
  funext i l
  by_cases e : i = q
  · subst e
    simp only [if_true, mixN, true_and]
    by_cases e2 : l = j
    · subst e2; simp
    · rw [if_neg e2]
      by_cases h : l < j
      · rw [if_pos h, if_pos (by omega)]
      · rw [if_neg h, if_neg (by omega)]
  · simp [mixN, e]


set_option maxRecDepth 1000000 in
set_option maxHeartbeats 4000000 in
theorem rkL {u0 u3 u4 u5 u6 u8 u9 u10 u12 u13 u14 u18 u19 u20 u21 u22 u23 u24 u25 u26 u27 u28 u29 u30 u31 u32 u33 u34 u35 u36 u37 u38 u39 u40 u41 u42 u43 u44 u45 u46 u47 u48 u49 u50 u51 u52 u53 u54 u55 u56 u57 u58 u59 u60 u61 u62 u63 u64 u65 u66 u67 u68 u69 u70 u71 u72 u73 u74 u75 u76 u77 u78 u79 u80 u81 u82 u83 u84 u85 u86 u87 u88 u89 u90 u91 u92 u93 u94 u95 u96 u97 u98 u99 u100 u101 u102 u103 u104 u105 u106 u107 u108 u109 u110 u111 u112 u113 u114 u115 u116 u117 u118 u119 u120 u121 u122 u123 u124 u125 u126 u127 u128 u129 u130 u131 u132 u133 u134 u135 u136 u137 u138 u139 u140 u141 u142 u143 u144 u145 u146 u147 : Value} {b w0 : World} {n a r q gv cv pp : Nat} {g c : Nat → Nat} {N : Nat → Int} {M : Nat → Nat → Int} {t : Int} {Q : Exit → Act → World → Prop}
    (hq : q < a) (hr : r < a) (hne : r ≠ q) (hpp : 2 < pp) (hpp2 : pp ≤ 2147483647) (ht0 : 0 ≤ t) (ht : t < pp) (hM : ∀ x, x < a → ∀ j, j < n → 0 ≤ M x j ∧ M x j < pp)
    (hN : ∀ j, j < n → N j = (M q j - t * M r j % pp) % pp) (hrm : RM b w0 (.slice (some ⟨gv, 0, none⟩) a cv) n a g c (mixN N M q 0)) (_ha : a ≤ 1000000) (hn : n ≤ 1000000)
    (hexit : ∀ (x17 x113 x114 x115 x116 x117 x118 x119 x120 x121 x122 x123 x124 x125 x126 x127 x128 x129 x130 x131 x132 x133 x134 x135 x136 x137 x138 x139 x140 x141 x142 x143 x144 : Value) (w' : World), RM b w' (.slice (some ⟨gv, 0, none⟩) a cv) n a g c (mixN N M q n) → Q (.exit 10) ⟨(u0 :: (.int .i64 (n : Int)) :: (.int .i64 (pp : Int)) :: u3 :: u4 :: u5 :: u6 :: (.slice (some ⟨gv, 0, none⟩) a cv) :: u8 :: u9 :: u10 :: (.int .i64 (r : Int)) :: u12 :: u13 :: u14 :: (.int .i64 (q : Int)) :: (.int .i64 t) :: (x17) :: u18 :: u19 :: u20 :: u21 :: u22 :: u23 :: u24 :: u25 :: u26 :: u27 :: u28 :: u29 :: u30 :: u31 :: u32 :: u33 :: u34 :: u35 :: u36 :: u37 :: u38 :: u39 :: u40 :: u41 :: u42 :: u43 :: u44 :: u45 :: u46 :: u47 :: u48 :: u49 :: u50 :: u51 :: u52 :: u53 :: u54 :: u55 :: u56 :: u57 :: u58 :: u59 :: u60 :: u61 :: u62 :: u63 :: u64 :: u65 :: u66 :: u67 :: u68 :: u69 :: u70 :: u71 :: u72 :: u73 :: u74 :: u75 :: u76 :: u77 :: u78 :: u79 :: u80 :: u81 :: u82 :: u83 :: u84 :: u85 :: u86 :: u87 :: u88 :: u89 :: u90 :: u91 :: u92 :: u93 :: u94 :: u95 :: u96 :: u97 :: u98 :: u99 :: u100 :: u101 :: u102 :: u103 :: u104 :: u105 :: u106 :: u107 :: u108 :: u109 :: u110 :: u111 :: u112 :: (x113) :: (x114) :: (x115) :: (x116) :: (x117) :: (x118) :: (x119) :: (x120) :: (x121) :: (x122) :: (x123) :: (x124) :: (x125) :: (x126) :: (x127) :: (x128) :: (x129) :: (x130) :: (x131) :: (x132) :: (x133) :: (x134) :: (x135) :: (x136) :: (x137) :: (x138) :: (x139) :: (x140) :: (x141) :: (x142) :: (x143) :: (x144) :: u145 :: u146 :: u147 :: []).toArray, []⟩ w') :
    Code.wp Try.prog (Code.loop loop97_10) Q ⟨(u0 :: (.int .i64 (n : Int)) :: (.int .i64 (pp : Int)) :: u3 :: u4 :: u5 :: u6 :: (.slice (some ⟨gv, 0, none⟩) a cv) :: u8 :: u9 :: u10 :: (.int .i64 (r : Int)) :: u12 :: u13 :: u14 :: (.int .i64 (q : Int)) :: (.int .i64 t) :: (.int .i64 0) :: u18 :: u19 :: u20 :: u21 :: u22 :: u23 :: u24 :: u25 :: u26 :: u27 :: u28 :: u29 :: u30 :: u31 :: u32 :: u33 :: u34 :: u35 :: u36 :: u37 :: u38 :: u39 :: u40 :: u41 :: u42 :: u43 :: u44 :: u45 :: u46 :: u47 :: u48 :: u49 :: u50 :: u51 :: u52 :: u53 :: u54 :: u55 :: u56 :: u57 :: u58 :: u59 :: u60 :: u61 :: u62 :: u63 :: u64 :: u65 :: u66 :: u67 :: u68 :: u69 :: u70 :: u71 :: u72 :: u73 :: u74 :: u75 :: u76 :: u77 :: u78 :: u79 :: u80 :: u81 :: u82 :: u83 :: u84 :: u85 :: u86 :: u87 :: u88 :: u89 :: u90 :: u91 :: u92 :: u93 :: u94 :: u95 :: u96 :: u97 :: u98 :: u99 :: u100 :: u101 :: u102 :: u103 :: u104 :: u105 :: u106 :: u107 :: u108 :: u109 :: u110 :: u111 :: u112 :: u113 :: u114 :: u115 :: u116 :: u117 :: u118 :: u119 :: u120 :: u121 :: u122 :: u123 :: u124 :: u125 :: u126 :: u127 :: u128 :: u129 :: u130 :: u131 :: u132 :: u133 :: u134 :: u135 :: u136 :: u137 :: u138 :: u139 :: u140 :: u141 :: u142 :: u143 :: u144 :: u145 :: u146 :: u147 :: []).toArray, []⟩ w0 := by
  have Hexit := Lib.hid hexit
  have HM := Lib.hid hM
  have HN := Lib.hid hN
  clear hexit hM hN
  conv => arg 2; arg 1; whnf
  go_loopw [17] (fun i wr => ∃ j : Nat, j ≤ n ∧ i = .int .i64 j ∧ RM b wr (.slice (some ⟨gv, 0, none⟩) a cv) n a g c (mixN N M q j)) (fun i _ => n - (intOf i).toNat)
  case atStart => exact ⟨0, by omega, rfl, hrm⟩
  case round =>
    clear hrm
    obtain ⟨j, hj, rfl, hrm⟩ := hrel
    by_cases hjn : j < n
    · obtain ⟨bq1, bq2⟩ := HM.out q hq j hjn
      obtain ⟨br1, br2⟩ := HM.out r hr j hjn
      have hNj := HN.out j hjn
      have HNj := Lib.hid hNj
      clear hNj
      have e0 : 0 ≤ t * M r j := Int.mul_nonneg ht0 br1
      have e1 : t * M r j ≤ 2147483647 * 2147483647 := Int.mul_le_mul (by omega) (by omega) br1 (by omega)
      have hu1 := Int.emod_nonneg (t * M r j) (show (pp : Int) ≠ 0 by omega)
      have hu2 := Int.emod_lt_of_pos (t * M r j) (show (0 : Int) < pp by omega)
      have m1 : IntKind.i64.wrap (t * M r j) = t * M r j := by rw [IntKind.wrap_i64]; omega
      have m2 : (t * M r j).tmod (pp : Int) = t * M r j % pp := Int.tmod_eq_emod_of_nonneg e0
      have hpp0 : ¬ ((pp : Int) = 0) := by omega
      have m3 : IntKind.i64.wrap (t * M r j % pp) = t * M r j % pp := by rw [IntKind.wrap_i64]; omega
      have m4 : IntKind.i64.wrap (M q j - t * M r j % pp) = M q j - t * M r j % pp := by rw [IntKind.wrap_i64]; omega
      clear e0 e1
      have cq : ∀ w', Ext wr w' → w'.cell? ⟨gv, q, none⟩ = some (.slice (some ⟨g q, 0, none⟩) n (c q)) := fun w' he => he.cell (hrm.row hq)
      have cr : ∀ w', Ext wr w' → w'.cell? ⟨gv, r, none⟩ = some (.slice (some ⟨g r, 0, none⟩) n (c r)) := fun w' he => he.cell (hrm.row hr)
      have dq : ∀ w', Ext wr w' → w'.cell? ⟨g q, j, none⟩ = some (.int .i64 (M q j)) := fun w' he => he.cell (by
        have := hrm.cell hq hjn
        rw [this]; simp [mixN])
      have dr : ∀ w', Ext wr w' → w'.cell? ⟨g r, j, none⟩ = some (.int .i64 (M r j)) := fun w' he => he.cell (by
        have := hrm.cell hr hjn
        rw [this]; simp [mixN, hne])
      have hji : (j : Int) < (n : Int) := by omega
      have hqi : (q : Int) < (a : Int) := by omega
      have hri : (r : Int) < (a : Int) := by omega
      have hfq := hrm.free hq j
      have hqlt := hrm.lt hq
      have cc := fun (w' : World) => rest_any (M q j - t * M r j % pp) pp w' (by omega) (by omega)
      have Cc := Lib.hid cc
      clear cc
      go_wp2
      refine wp_region_calm 26 (fun _ _ v _ => v = .int .i64 (N j)) (fun _ _ _ _ _ _ h => h) (by kernel_rfl) (by kernel_rfl) ?_
      simp only [List.take_succ_cons, List.take_zero, List.drop_succ_cons, List.drop_zero]
      refine calm_quiet calm_mono_final 25 (by kernel_rfl) ?_
      simp only [List.take_succ_cons, List.take_zero, List.drop_succ_cons, List.drop_zero]
      repeat (go_big_quiet_step (fail))
      refine wpQuiet_nil ?_
      refine calm_call calm_mono_final 110 #[.int .i64 (M q j - t * M r j % pp), .int .i64 pp] rfl (fun w => ?_) (fun w he _ => ?_) ?_
      · go_simp
      · exact (Cc.out w).mono fun e w'' ⟨he', hx⟩ => ⟨_, he', by rw [hx]; exact Ext.refl _, by rw [HNj.out]⟩
      intro v1 _ _ hv1
      have hv1' : v1 = .int .i64 (N j) := hv1
      subst hv1'
      clear hv1
      simp only [Act.put, List.setIfInBounds_toArray, List.set_cons_succ, List.set_cons_zero]
      refine calm_nil fun w3 he3 hF => ?_
      clear hF
      have dq3 := dq w3 he3
      have hf3 : w3.frozen? ⟨g q, j, none⟩ = false := (he3.frozen hqlt).trans hfq
      have hrm3 := (hrm.later he3).store hq j (N j)
      rw [mixN_step] at hrm3
      clear cq cr dq dr hfq Cc hrm
      go_wp2
      go_roundw
      case rel => exact ⟨j + 1, by omega, by go_num, hrm3⟩
      case measure => simp [intOf]; omega
    · obtain rfl : j = n := by omega
      have hx := Hexit.out
      go_wp2
      exact hrm
end Go.Proofs.Ytbclbcldplmppaa

/- rankOf: the loop over the rows. -/
namespace Go.Proofs.Ytbclbcldplmppaa
open Go.RowKit

/-- The rows behind r, before q, cleared in a column. -/
def elM (M : Nat → Nat → Int) (r cl : Nat) (β : Int) (pp q x j : Nat) : Int := if r < x ∧ x < q then (M x j - M x cl * β % pp * M r j % pp) % pp else M x j
theorem elM_bd {M : Nat → Nat → Int} {r cl : Nat} {β : Int} {pp q x j : Nat} (hpp : 2 < pp) (h : 0 ≤ M x j ∧ M x j < pp) : 0 ≤ elM M r cl β pp q x j ∧ elM M r cl β pp q x j < pp := by
  unfold elM
  split
  · exact ⟨Int.emod_nonneg _ (by omega), Int.emod_lt_of_pos _ (by omega)⟩
  · exact h

set_option maxRecDepth 1000000 in
set_option maxHeartbeats 4000000 in
theorem rkR {u0 u3 u4 u5 u6 u8 u9 u10 u13 u16 u17 u18 u19 u20 u21 u22 u23 u24 u25 u26 u27 u28 u29 u30 u31 u32 u33 u34 u35 u36 u37 u38 u39 u40 u41 u42 u43 u44 u45 u46 u47 u48 u49 u50 u51 u52 u53 u54 u55 u56 u57 u58 u59 u60 u61 u62 u63 u64 u65 u66 u67 u68 u69 u70 u71 u72 u73 u74 u75 u76 u77 u78 u79 u80 u81 u82 u83 u84 u85 u86 u87 u88 u89 u90 u91 u92 u93 u94 u95 u96 u97 u98 u99 u100 u101 u102 u103 u104 u105 u106 u107 u108 u109 u110 u111 u112 u113 u114 u115 u116 u117 u118 u119 u120 u121 u122 u123 u124 u125 u126 u127 u128 u129 u130 u131 u132 u133 u134 u135 u136 u137 u138 u139 u140 u141 u142 u143 u144 u145 u146 u147 : Value} {b w0 : World} {n a r cl gv cv pp : Nat} {g c : Nat → Nat} {M : Nat → Nat → Int} {β : Int} {Q : Exit → Act → World → Prop}
    (hr : r < a) (hcl : cl < n) (hpp : 2 < pp) (hpp2 : pp ≤ 2147483647) (hβ0 : 0 ≤ β) (hβ : β < pp) (hM : ∀ x, x < a → ∀ j, j < n → 0 ≤ M x j ∧ M x j < pp)
    (hrm : RM b w0 (.slice (some ⟨gv, 0, none⟩) a cv) n a g c M) (ha : a ≤ 1000000) (hn : n ≤ 1000000)
    (hexit : ∀ (x15 x16 x17 x96 x97 x98 x99 x100 x101 x102 x103 x104 x105 x106 x107 x108 x109 x110 x111 x112 x113 x114 x115 x116 x117 x118 x119 x120 x121 x122 x123 x124 x125 x126 x127 x128 x129 x130 x131 x132 x133 x134 x135 x136 x137 x138 x139 x140 x141 x142 x143 x144 : Value) (w' : World), RM b w' (.slice (some ⟨gv, 0, none⟩) a cv) n a g c (elM M r cl β pp a) → Q (.exit 8) ⟨(u0 :: (.int .i64 (n : Int)) :: (.int .i64 (pp : Int)) :: u3 :: u4 :: u5 :: u6 :: (.slice (some ⟨gv, 0, none⟩) a cv) :: u8 :: u9 :: u10 :: (.int .i64 (r : Int)) :: (.int .i64 (cl : Int)) :: u13 :: (.int .i64 β) :: (x15) :: (x16) :: (x17) :: u18 :: u19 :: u20 :: u21 :: u22 :: u23 :: u24 :: u25 :: u26 :: u27 :: u28 :: u29 :: u30 :: u31 :: u32 :: u33 :: u34 :: u35 :: u36 :: u37 :: u38 :: u39 :: u40 :: u41 :: u42 :: u43 :: u44 :: u45 :: u46 :: u47 :: u48 :: u49 :: u50 :: u51 :: u52 :: u53 :: u54 :: u55 :: u56 :: u57 :: u58 :: u59 :: u60 :: u61 :: u62 :: u63 :: u64 :: u65 :: u66 :: u67 :: u68 :: u69 :: u70 :: u71 :: u72 :: u73 :: u74 :: u75 :: u76 :: u77 :: u78 :: u79 :: u80 :: u81 :: u82 :: u83 :: u84 :: u85 :: u86 :: u87 :: u88 :: u89 :: u90 :: u91 :: u92 :: u93 :: u94 :: u95 :: (x96) :: (x97) :: (x98) :: (x99) :: (x100) :: (x101) :: (x102) :: (x103) :: (x104) :: (x105) :: (x106) :: (x107) :: (x108) :: (x109) :: (x110) :: (x111) :: (x112) :: (x113) :: (x114) :: (x115) :: (x116) :: (x117) :: (x118) :: (x119) :: (x120) :: (x121) :: (x122) :: (x123) :: (x124) :: (x125) :: (x126) :: (x127) :: (x128) :: (x129) :: (x130) :: (x131) :: (x132) :: (x133) :: (x134) :: (x135) :: (x136) :: (x137) :: (x138) :: (x139) :: (x140) :: (x141) :: (x142) :: (x143) :: (x144) :: u145 :: u146 :: u147 :: []).toArray, []⟩ w') :
    Code.wp Try.prog (Code.loop loop97_8) Q ⟨(u0 :: (.int .i64 (n : Int)) :: (.int .i64 (pp : Int)) :: u3 :: u4 :: u5 :: u6 :: (.slice (some ⟨gv, 0, none⟩) a cv) :: u8 :: u9 :: u10 :: (.int .i64 (r : Int)) :: (.int .i64 (cl : Int)) :: u13 :: (.int .i64 β) :: (.int .i64 ((r + 1 : Nat) : Int)) :: u16 :: u17 :: u18 :: u19 :: u20 :: u21 :: u22 :: u23 :: u24 :: u25 :: u26 :: u27 :: u28 :: u29 :: u30 :: u31 :: u32 :: u33 :: u34 :: u35 :: u36 :: u37 :: u38 :: u39 :: u40 :: u41 :: u42 :: u43 :: u44 :: u45 :: u46 :: u47 :: u48 :: u49 :: u50 :: u51 :: u52 :: u53 :: u54 :: u55 :: u56 :: u57 :: u58 :: u59 :: u60 :: u61 :: u62 :: u63 :: u64 :: u65 :: u66 :: u67 :: u68 :: u69 :: u70 :: u71 :: u72 :: u73 :: u74 :: u75 :: u76 :: u77 :: u78 :: u79 :: u80 :: u81 :: u82 :: u83 :: u84 :: u85 :: u86 :: u87 :: u88 :: u89 :: u90 :: u91 :: u92 :: u93 :: u94 :: u95 :: u96 :: u97 :: u98 :: u99 :: u100 :: u101 :: u102 :: u103 :: u104 :: u105 :: u106 :: u107 :: u108 :: u109 :: u110 :: u111 :: u112 :: u113 :: u114 :: u115 :: u116 :: u117 :: u118 :: u119 :: u120 :: u121 :: u122 :: u123 :: u124 :: u125 :: u126 :: u127 :: u128 :: u129 :: u130 :: u131 :: u132 :: u133 :: u134 :: u135 :: u136 :: u137 :: u138 :: u139 :: u140 :: u141 :: u142 :: u143 :: u144 :: u145 :: u146 :: u147 :: []).toArray, []⟩ w0 := by
  have Hexit := Lib.hid hexit
  have HM := Lib.hid hM
  clear hexit hM
  conv => arg 2; arg 1; whnf
  go_loopw [15] (fun i wr => ∃ q : Nat, r + 1 ≤ q ∧ q ≤ a ∧ i = .int .i64 q ∧ RM b wr (.slice (some ⟨gv, 0, none⟩) a cv) n a g c (elM M r cl β pp q)) (fun i _ => a - (intOf i).toNat)
  case atStart => exact ⟨r + 1, by omega, by omega, rfl, hrm.congr fun x _ j _ => by unfold elM; rw [if_neg (by omega)]⟩
  case round =>
    clear hrm
    obtain ⟨wq, rfl⟩ : ∃ wq : World, wq = wr := ⟨_, rfl⟩
    obtain ⟨q, hq0, hq, rfl, hrm⟩ := hrel
    by_cases hqa : q < a
    · obtain ⟨bq1, bq2⟩ := HM.out q hqa cl hcl
      have e0 : 0 ≤ M q cl * β := Int.mul_nonneg bq1 hβ0
      have e1 : M q cl * β ≤ 2147483647 * 2147483647 := Int.mul_le_mul (by omega) (by omega) hβ0 (by omega)
      have hu1 := Int.emod_nonneg (M q cl * β) (show (pp : Int) ≠ 0 by omega)
      have hu2 := Int.emod_lt_of_pos (M q cl * β) (show (0 : Int) < pp by omega)
      have m1 : IntKind.i64.wrap (M q cl * β) = M q cl * β := by rw [IntKind.wrap_i64]; omega
      have m2 : (M q cl * β).tmod (pp : Int) = M q cl * β % pp := Int.tmod_eq_emod_of_nonneg e0
      have hpp0 : ¬ ((pp : Int) = 0) := by omega
      have m3 : IntKind.i64.wrap (M q cl * β % pp) = M q cl * β % pp := by rw [IntKind.wrap_i64]; omega
      clear e0 e1
      have cq : wq.cell? ⟨gv, q, none⟩ = some (.slice (some ⟨g q, 0, none⟩) n (c q)) := hrm.row hqa
      have dq : wq.cell? ⟨g q, cl, none⟩ = some (.int .i64 (M q cl)) := by
        rw [hrm.cell hqa hcl]; simp [elM]
      have hcli : (cl : Int) < (n : Int) := by omega
      have hqi : (q : Int) < (a : Int) := by omega
      go_wp2
      clear cq dq m1 m2 m3
      have hrq : r ≠ q := by omega
      have hbd : ∀ x, x < a → ∀ j, j < n → 0 ≤ elM M r cl β pp q x j ∧ elM M r cl β pp q x j < pp := fun x hx j hj => elM_bd hpp (HM.out x hx j hj)
      refine rkL (b := b) (n := n) (a := a) (r := r) (q := q) (gv := gv) (cv := cv) (pp := pp) (g := g) (c := c) (N := fun j => (elM M r cl β pp q q j - M q cl * β % pp * elM M r cl β pp q r j % pp) % pp) (M := elM M r cl β pp q) (t := M q cl * β % pp)
        hqa hr hrq hpp hpp2 hu1 hu2 hbd (fun _ _ => rfl) (hrm.congr fun x _ j _ => (mixN_zero _ _ _ _ _).symm) ha hn ?_
      intro x17 x113 x114 x115 x116 x117 x118 x119 x120 x121 x122 x123 x124 x125 x126 x127 x128 x129 x130 x131 x132 x133 x134 x135 x136 x137 x138 x139 x140 x141 x142 x143 x144 w8 hrm8
      have hrm9 := hrm8.congr (M' := elM M r cl β pp (q + 1)) fun x hx j hj => by
        unfold mixN elM
        by_cases e : x = q
        · subst e
          rw [if_pos ⟨rfl, hj⟩]
          simp only [Nat.lt_irrefl, and_false, false_and, if_false]
          rw [if_pos (by omega)]
        · rw [if_neg (by omega)]
          by_cases e2 : r < x ∧ x < q
          · rw [if_pos e2, if_pos (by omega)]
          · rw [if_neg e2, if_neg (by omega)]
      go_wp2
      go_roundw
      case rel => exact ⟨q + 1, by omega, by omega, by go_num, hrm9⟩
      case measure => simp [intOf]; omega
    · obtain rfl : q = a := by omega
      have hx := Hexit.out
      go_wp2
      exact hrm
end Go.Proofs.Ytbclbcldplmppaa

/- rankOf: what its elimination keeps; lines to be read. -/
namespace Go.Proofs.Ytbclbcldplmppaa
open Go.RowKit

theorem clear_eq {pp y β m : Int} (h : β * y % pp = 1) : m * β % pp * y % pp = m % pp := by
  rw [Int.mul_emod, Int.emod_emod, ← Int.mul_emod, Int.mul_assoc, Int.mul_emod, h, Int.mul_one, Int.emod_emod]
theorem dvd_sub_emod (a p : Int) : p ∣ a - a % p := ⟨a / p, by have := Int.emod_add_mul_ediv a p; omega⟩
theorem dvd_emod_sub (a p : Int) : p ∣ a % p - a := by
  have := dvd_sub_emod a p
  rw [← Int.dvd_neg] at this
  rwa [Int.neg_sub] at this
theorem dvd_emod_of {a p : Int} (h : p ∣ a) : p ∣ a % p := by rw [Int.emod_eq_zero_of_dvd h]; exact Int.dvd_zero _

/-- A column cleared: the elimination goes on. -/
theorem Ech.cleared {pp n a cl : Nat} {A M : Nat → Nat → Int} {piv : List Nat} {k : Nat} {β : Int} (h : Ech (pp : Int) n a A M piv cl) (hk0 : piv.length ≤ k) (hk : k < a) (hcl : cl < n) (hne : ¬ (pp : Int) ∣ M k cl) (hβ : M k cl * β % pp = 1) :
    Ech (pp : Int) n a A (elM (swapM M piv.length k) piv.length cl β pp a) (piv ++ [cl]) (cl + 1) := by
  have hr : piv.length < a := by omega
  have h1 := h.swap (M' := swapM M piv.length k) (r := piv.length) (s := k) (Nat.le_refl _) hr hk0 hk (by unfold swapM; rw [if_pos rfl]) (by
    unfold swapM
    by_cases e : k = piv.length
    · rw [if_pos e, e]
    · rw [if_neg e, if_pos rfl]) (fun x h1 h2 => by unfold swapM; rw [if_neg h1, if_neg h2])
  have e0 : swapM M piv.length k piv.length = M k := by unfold swapM; rw [if_pos rfl]
  generalize swapM M piv.length k = M1 at *
  rw [← e0] at hne hβ
  refine h1.pivot hr hcl hne (fun x hx => ?_) (fun x hx1 hx2 => ⟨⟨M1 x cl * β % pp, fun j hj => ?_⟩, ?_⟩)
  · funext j; unfold elM; rw [if_neg (by omega)]
  · unfold elM
    rw [if_pos ⟨hx1, hx2⟩]
    have d1 := dvd_emod_sub (M1 x j - M1 x cl * β % pp * M1 piv.length j % pp) pp
    have d2 := dvd_sub_emod (M1 x cl * β % pp * M1 piv.length j) pp
    have := Int.dvd_add d1 d2
    refine (show ∀ u v : Int, (pp : Int) ∣ u → u = v → (pp : Int) ∣ v from fun u v h e => e ▸ h) _ _ this ?_
    omega
  · unfold elM
    rw [if_pos ⟨hx1, hx2⟩]
    refine dvd_emod_of ?_
    rw [clear_eq (by rw [Int.mul_comm]; exact hβ)]
    exact dvd_sub_emod _ _

/-- Lines to be read. -/
def LRow (w : World) (A : Option Addr) (n a : Nat) (L : Nat → Nat → Int) : Prop := ∀ k, k < a → ∃ ad B c, A = some ad ∧ (∀ w', Ext w w' → w'.cell? (ad.add k) = some (.slice B n c)) ∧
  ∀ j, j < n → ∃ bd, B = some bd ∧ ∀ w', Ext w w' → w'.cell? (bd.add j) = some (.int .i64 (L k j))
theorem LRow.ext {w w' : World} {A : Option Addr} {n a : Nat} {L : Nat → Nat → Int} (h : LRow w A n a L) (he : Ext w w') : LRow w' A n a L := fun k hk => by
  obtain ⟨ad, B, c, h1, h2, h3⟩ := h k hk
  exact ⟨ad, B, c, h1, fun w2 h => h2 w2 (he.trans h), fun j hj => let ⟨bd, e1, e2⟩ := h3 j hj; ⟨bd, e1, fun w2 h => e2 w2 (he.trans h)⟩⟩

theorem natOf {x : Int} {p : Nat} (h : 0 ≤ x ∧ x < p) : ∃ y : Nat, x = y ∧ y < p := ⟨x.toNat, by omega, by omega⟩
theorem pinv_ok {y pp : Nat} (hp : IsPrime pp) (h2 : 2 < pp) (hy : y < pp) (hne : ((y : Int)) ≠ 0) : ¬ (pp : Int) ∣ (y : Int) ∧ (y : Int) * (pinv y pp : Int) % (pp : Int) = 1 := by
  have hd : ¬ pp ∣ y := fun h => by have := Nat.le_of_dvd (by omega) h; omega
  refine ⟨fun h => hd (Int.ofNat_dvd.1 h), ?_⟩
  have := pinv_mul hp h2 hd
  rw [← Int.natCast_mul, ← Int.natCast_emod, this]
  rfl
end Go.Proofs.Ytbclbcldplmppaa

/- rankOf: the walk. -/
namespace Go.Proofs.Ytbclbcldplmppaa
open Go.RowKit

def RankRes (w : World) (pp n a : Nat) (L : Nat → Nat → Int) (e : Ending) (w' : World) : Prop := ∃ piv M, e = .returned (.int .i64 (List.length piv : Int)) ∧ Ext w w' ∧ Ech (pp : Int) n a L M piv n

set_option maxRecDepth 100000 in
set_option maxHeartbeats 8000000 in
theorem rankOf_any (A : Option Addr) (cp n a pp : Nat) (L : Nat → Nat → Int) (w : World) (hA : LRow w A n a L) (hn0 : 0 < n) (hn : n ≤ 1000) (ha : a ≤ 1000) (hP : IsPrime pp) (hpp : 2 < pp) (hpp2 : pp ≤ 2147483647) :
    Calls Try.prog 97 #[.slice A a cp, .int .i64 n, .int .i64 pp] w (RankRes w pp n a L) := by
  have HA := Lib.hid hA
  have HP := Lib.hid hP
  clear hA hP
  go_enter Try.func97, Try.ntmps97
  go_wp2
  go_loopw [8, 7] (fun i v wr => ∃ k : Nat, k ≤ a ∧ i = .int .i64 k ∧ ∃ g c, RM w wr v n k g c (fun x j => L x j % pp)) (fun i _ _ => a - (intOf i).toNat)
  case atStart => exact ⟨0, by omega, rfl, fun _ => 0, fun _ => 0, RM.start (by simp) _ _ _ _⟩
  case round =>
    obtain ⟨wo, rfl⟩ : ∃ wo : World, wo = wr := ⟨_, rfl⟩
    obtain ⟨k, hk, rfl, g, c, hrm⟩ := hrel
    by_cases hlt : k < a
    · obtain ⟨ad, B, cB, rfl, q0, q1⟩ := HA.out k hlt
      have Q1 := Lib.hid q1
      clear q1
      have q0 : ∀ w', Ext wo w' → _ := fun w' he => q0 w' (hrm.ext.trans he)
      have Q0 := Lib.hid q0
      clear q0
      have hka : (k : Int) < (a : Int) := by omega
      go_wp2
      go_loopw [10, 9] (fun i v wr => ∃ j : Nat, j ≤ n ∧ i = .int .i64 j ∧ Own wo wr 3 1 v j ((rowI (fun j => L k j % pp) j).map vint)) (fun i _ _ => n - (intOf i).toNat)
      case atStart => exact ⟨0, by omega, rfl, Own.nil' (by simp) _ _⟩
      case round =>
        obtain ⟨j, hj, rfl, hown⟩ := hrel
        obtain ⟨Av, cv, hv⟩ := hown.form
        subst hv
        by_cases hjn : j < n
        · obtain ⟨bd, rfl, q1⟩ := Q1.out j hjn
          have q1 := q1 wr (hrm.ext.trans hown.ext)
          have q0 := Q0.out wr hown.ext
          have hr := fun w' => rest_any (L k j) pp w' (by omega) (by omega)
          have Hr := Lib.hid hr
          clear hr
          have hjni : (j : Int) < (n : Int) := by omega
          go_wp2_with (first
            | (go_at_call 110; refine (Hr.out _).mono ?_; rintro e w1 ⟨rfl, rfl⟩)
            | (refine own_append_int rfl _ _ rfl _ j ((rowI (fun j => L k j % pp) j).map vint) rfl hown _ rfl (by omega) ?_; intro v' w' ho))
          go_roundw
          case rel =>
            refine ⟨j + 1, by omega, by go_num, ?_⟩
            rw [rowI_succ, List.map_append]
            exact ho
          case measure => simp [intOf]; omega
        · obtain rfl : j = n := by omega
          obtain ⟨g0, c0, hv, hg0, _⟩ := hown.at_ hn0
          injection hv with hv1 _ hv2
          subst hv1 hv2
          have hrow := row_alloc wr #[.slice (some ⟨g0, 0, none⟩) j cv] 22
          obtain ⟨Al, cl, hv⟩ := hrm.own.form
          subst hv
          have hl1 := (hrm.own.later hown.ext).alloc (.cells #[.slice (some ⟨g0, 0, none⟩) j cv] 22)
          go_wp2_with (first
            | (refine own_append_at (w1 := w) slice_elem rfl _ _ 106 rfl Try.underlying106 _ k (rsls g c j k) rfl hl1 _ 1 1 _ rfl rfl hrow (by intro u hu; simp at hu; subst hu; rfl) (by omega) (by unfold maxLen; omega) ?_; intro v' w' ho hgr _))
          go_roundw
          case rel => exact ⟨k + 1, by omega, by go_num, _, _, hrm.append hown (by simp) ho hgr (fun _ _ => rfl)⟩
          case measure => simp [intOf]; omega
    · obtain rfl : a = k := by omega
      clear HA hlt hk
      go_wp2
      go_loopw [12, 11] (fun cl rk wr => ∃ t : Nat, t ≤ n ∧ cl = .int .i64 t ∧ ∃ g c M piv, rk = .int .i64 (List.length piv : Int) ∧ RM w wr u7 n a g c M ∧ Ech (pp : Int) n a L M piv t ∧ ∀ x, x < a → ∀ j, j < n → 0 ≤ M x j ∧ M x j < pp) (fun cl _ _ => n - (intOf cl).toNat)
      case atStart => exact ⟨0, by omega, rfl, g, c, _, [], rfl, hrm, Ech.init fun x hx j hj => dvd_emod_sub _ _, fun x hx j hj => ⟨Int.emod_nonneg _ (by omega), Int.emod_lt_of_pos _ (by omega)⟩⟩
      case round =>
        clear hrm
        clear wo g c
        obtain ⟨wo, rfl⟩ : ∃ wo : World, wo = wr := ⟨_, rfl⟩
        obtain ⟨t, ht, rfl, g, c, M, piv, rfl, hrm, hech, hbd⟩ := hrel
        obtain ⟨Av, cv, hv⟩ := hrm.own.form
        subst hv
        by_cases htn : t < n
        · have hple := hech.le
          obtain ⟨r, hr⟩ : ∃ r, r = piv.length := ⟨_, rfl⟩
          rw [← hr] at hple ⊢
          have Hr := Lib.hid hr
          have Hech := Lib.hid hech
          have Hbd := Lib.hid hbd
          clear hr hech hbd
          have htni : (t : Int) < (n : Int) := by omega
          go_wp2
          go_loop [13] (fun i => ∃ k : Nat, r ≤ k ∧ k ≤ a ∧ i = .int .i64 k ∧ ∀ j, r ≤ j → j < k → M j t = 0) (fun i => a - (intOf i).toNat)
          case atStart => exact ⟨r, by omega, hple, rfl, fun j h1 h2 => by omega⟩
          case round =>
            obtain ⟨k, hk1, hk2, rfl, hz⟩ := hrel
            have Hz := Lib.hid hz
            clear hz
            by_cases hka : k < a
            · obtain ⟨gv, cv', hv, hgv⟩ := hrm.own.at_ (by omega)
              simp only [Value.slice.injEq, true_and] at hv
              obtain ⟨rfl, rfl⟩ := hv
              have ck : wo.cell? ⟨gv, k, none⟩ = some (.slice (some ⟨g k, 0, none⟩) n (c k)) := hrm.row hka
              have dk : wo.cell? ⟨g k, t, none⟩ = some (.int .i64 (M k t)) := hrm.cell hka htn
              have hki : (k : Int) < (a : Int) := by omega
              by_cases hp : M k t = 0
              · rw [hp] at dk
                have Hp := Lib.hid hp
                clear hp
                go_wp2
                go_round
                case rel => exact ⟨k + 1, by omega, by omega, by go_num, fun j h1 h2 => by
                  by_cases e : j = k
                  · subst e; exact Hp.out
                  · exact Hz.out j h1 (by omega)⟩
                case measure => simp [intOf]; omega
              · obtain ⟨y, hy, hyp⟩ := natOf (Hbd.out k hka t htn)
                rw [hy] at hp dk
                obtain ⟨hnd, hinv⟩ := pinv_ok HP.out hpp hyp hp
                have hpb : ((y : Int) == 0) = false := by simpa using hp
                have hkne : ((k : Int) == (a : Int)) = false := by simp; omega
                have hra : r < a := by omega
                have hri : (r : Int) < (a : Int) := by omega
                have cr : wo.cell? ⟨gv, r, none⟩ = some (.slice (some ⟨g r, 0, none⟩) n (c r)) := hrm.row hra
                have hfz : ∀ j, wo.frozen? ⟨gv, j, none⟩ = false := fun j => hrm.own.free j
                have Hy := Lib.hid hy
                have Hnd := Lib.hid hnd
                have Hinv := Lib.hid hinv
                clear hy hnd hinv
                obtain ⟨z1, s1⟩ : ∃ z, (wo.setCell ⟨gv, r, none⟩ (.slice (some ⟨g k, 0, none⟩) n (c k))).cell? ⟨gv, k, none⟩ = some z := by
                  by_cases e : r = k
                  · subst e; exact ⟨_, World.cell?_setCell_same _ _ _ cr⟩
                  · exact ⟨_, by rw [World.cell?_setCell_other _ _ _ _ (by simp)]; exact ck⟩
                go_wp2
                go_region
                have hrmS := (hrm.swap hra hka).later (Ext.refl _).drew
                unfold rsl at hrmS
                generalize ((wo.setCell ⟨gv, r, none⟩ (.slice (some ⟨g k, 0, none⟩) n (c k))).setCell ⟨gv, k, none⟩ (.slice (some ⟨g r, 0, none⟩) n (c r))).drew = ws at hrmS ⊢
                clear s1 z1 ck dk cr hfz hpb hkne hki hrm
                generalize swapF g r k = g' at hrmS
                generalize swapF c r k = c' at hrmS
                have e0 : swapM M r k r = M k := by unfold swapM; rw [if_pos rfl]
                have hbd1 : ∀ x, x < a → ∀ j, j < n → 0 ≤ swapM M r k x j ∧ swapM M r k x j < pp := fun x hx j hj => by
                  unfold swapM
                  split
                  · exact Hbd.out k hka j hj
                  · split
                    · exact Hbd.out r hra j hj
                    · exact Hbd.out x hx j hj
                have cr : ws.cell? ⟨gv, r, none⟩ = some (.slice (some ⟨g' r, 0, none⟩) n (c' r)) := hrmS.row hra
                have dr : ws.cell? ⟨g' r, t, none⟩ = some (.int .i64 (y : Int)) := by
                  have := hrmS.cell hra htn
                  rw [e0, Hy.out] at this; exact this
                have Hbd1 := Lib.hid hbd1
                have E0 := Lib.hid e0
                clear hbd1 e0
                have hiv := fun (w' : World) => inverse_any y pp w' hyp hpp hpp2
                have Hiv := Lib.hid hiv
                clear hiv
                go_wp2_with (go_at_call 111; refine (Hiv.out _).mono ?_; rintro e w1 ⟨rfl, rfl⟩)
                clear cr dr
                refine rkR (b := w) (n := n) (a := a) (r := r) (cl := t) (gv := gv) (cv := cv) (pp := pp) (g := g') (c := c') (M := swapM M r k) (β := (pinv y pp : Int))
                  hra htn hpp hpp2 (by omega) (by have := pinv_lt (a := y) hpp; omega) Hbd1.out hrmS (by omega) (by omega) ?_
                intro x15 x16 x17 x96 x97 x98 x99 x100 x101 x102 x103 x104 x105 x106 x107 x108 x109 x110 x111 x112 x113 x114 x115 x116 x117 x118 x119 x120 x121 x122 x123 x124 x125 x126 x127 x128 x129 x130 x131 x132 x133 x134 x135 x136 x137 x138 x139 x140 x141 x142 x143 x144 wz hrmz
                go_wp2
                go_roundw
                case rel =>
                  have hech := Hech.out.cleared (k := k) (β := (pinv y pp : Int)) (by rw [← Hr.out]; exact hk1) hka htn (by rw [Hy.out]; exact Hnd.out) (by rw [Hy.out]; exact Hinv.out)
                  rw [← Hr.out] at hech
                  exact ⟨t + 1, by omega, by go_num, _, _, _, _, by rw [List.length_append, ← Hr.out]; rfl, hrmz, hech, fun x hx j hj => elM_bd hpp (Hbd1.out x hx j hj)⟩
                case measure => simp [intOf]; omega
            · obtain rfl : k = a := by omega
              go_wp2
              go_roundw
              case rel =>
                exact ⟨t + 1, by omega, by go_num, g, c, M, piv, by rw [← Hr.out], hrm, Hech.out.skip fun x h1 h2 => by rw [Hz.out x (by rw [Hr.out]; exact h1) h2]; exact Int.dvd_zero _, Hbd.out⟩
              case measure => simp [intOf]; omega
        · obtain rfl : n = t := by omega
          go_wp2
          go_ret
          exact ⟨piv, M, rfl, hrm.ext, hech⟩
end Go.Proofs.Ytbclbcldplmppaa

/- The reference's Rank: the greatest of the ranks modulo three primes. -/
namespace Go.Proofs.Ytbclbcldplmppaa
open Go.RowKit

theorem prime_one {p : Nat} (h : 2 < p) : ¬ (p : Int) ∣ 1 := fun hd => by
  have := Int.le_of_dvd (by decide) hd
  omega

theorem p1_gt : 2 < p1 := by unfold p1; omega
theorem p2_gt : 2 < p2 := by unfold p2; omega
theorem p3_gt : 2 < p3 := by unfold p3; omega
theorem p1_le : p1 ≤ 2147483647 := by unfold p1; omega
theorem p2_le : p2 ≤ 2147483647 := by unfold p2; omega
theorem p3_le : p3 ≤ 2147483647 := by unfold p3; omega
theorem p1_int : ((p1 : Nat) : Int) = 2147483647 := by unfold p1; simp
theorem p2_int : ((p2 : Nat) : Int) = 2147483629 := by unfold p2; simp
theorem p3_int : ((p3 : Nat) : Int) = 2147483587 := by unfold p3; simp

/-- Lines with small numbers. -/
def SmallL (a n : Nat) (L : Nat → Nat → Int) : Prop := ∀ k, k < a → ∀ j, j < n → (L k j).natAbs ≤ 48

theorem ech_max {n a : Nat} {L M1 M2 M3 : Nat → Nat → Int} {v1 v2 v3 : List Nat} (hn : n ≤ 8) (hL : SmallL a n L) (h1 : Ech (p1 : Int) n a L M1 v1 n) (h2 : Ech (p2 : Int) n a L M2 v2 n) (h3 : Ech (p3 : Int) n a L M3 v3 n) :
    v1.length ≤ rkF a n L ∧ v2.length ≤ rkF a n L ∧ v3.length ≤ rkF a n L ∧ (v1.length = rkF a n L ∨ v2.length = rkF a n L ∨ v3.length = rkF a n L) := by
  have hk := rkF_is a n L
  have l1 := h1.rank_le (primeLike p1_prime) (prime_one p1_gt) hk
  have l2 := h2.rank_le (primeLike p2_prime) (prime_one p2_gt) hk
  have l3 := h3.rank_le (primeLike p3_prime) (prime_one p3_gt) hk
  refine ⟨l1, l2, l3, ?_⟩
  obtain ⟨V, R, hV, hl, hR, hRn, hne⟩ := hk.ex
  have hkn := hk.le
  have hb : ∀ v ∈ V, ∀ r ∈ R, (v r).natAbs ≤ 48 := fun v hv r hr => by
    obtain ⟨i, hi, rfl⟩ := fam_mem.1 (hV v hv)
    exact hL i hi r (hRn r hr)
  rcases three (hl.trans hR.symm) (by omega) hb hne with h | h | h
  · have := h1.rank_ge (primeLike p1_prime) (prime_one p1_gt) hV hRn h
    left; omega
  · have := h2.rank_ge (primeLike p2_prime) (prime_one p2_gt) hV hRn h
    right; left; omega
  · have := h3.rank_ge (primeLike p3_prime) (prime_one p3_gt) hV hRn h
    right; right; omega

set_option maxRecDepth 100000 in
set_option maxHeartbeats 2000000 in
theorem Rank_any (A : Option Addr) (cp n a : Nat) (L : Nat → Nat → Int) (w : World) (hA : LRow w A n a L) (hn0 : 0 < n) (hn : n ≤ 8) (ha : a ≤ 1000) (hL : SmallL a n L) :
    Calls Try.prog 68 #[.slice A a cp, .int .i64 n] w fun e w' => e = .returned (.int .i64 (rkF a n L : Int)) ∧ Ext w w' := by
  have c1 := fun (w' : World) (he : Ext w w') => rankOf_any A cp n a p1 L w' (hA.ext he) hn0 (by omega) ha p1_prime p1_gt p1_le
  have c2 := fun (w' : World) (he : Ext w w') => rankOf_any A cp n a p2 L w' (hA.ext he) hn0 (by omega) ha p2_prime p2_gt p2_le
  have c3 := fun (w' : World) (he : Ext w w') => rankOf_any A cp n a p3 L w' (hA.ext he) hn0 (by omega) ha p3_prime p3_gt p3_le
  rw [p1_int] at c1
  rw [p2_int] at c2
  rw [p3_int] at c3
  have C1 := Lib.hid c1
  have C2 := Lib.hid c2
  have C3 := Lib.hid c3
  clear c1 c2 c3 hA
  go_enter Try.func68, Try.ntmps68
  go_wp2_with (first
    | (go_at_call 97; (with_reducible refine (C1.out _ (Ext.refl _)).mono ?_); rintro e w1 ⟨v1, M1, rfl, x1, E1⟩)
    | (go_at_call 97; (with_reducible refine (C2.out _ x1).mono ?_); rintro e w2 ⟨v2, M2, rfl, x2, E2⟩)
    | (go_at_call 97; (with_reducible refine (C3.out _ (x1.trans x2)).mono ?_); rintro e w3 ⟨v3, M3, rfl, x3, E3⟩))
  all_goals
    obtain ⟨l1, l2, l3, l4⟩ := ech_max hn hL E1 E2 E3
    go_ret
    refine ⟨?_, x1.trans (x2.trans x3)⟩
    first
      | (have e : v3.length = rkF a n L := by (try split at h) <;> omega
         rw [← e]; rfl)
      | (have e : v2.length = rkF a n L := by (try split at h) <;> omega
         rw [← e]; rfl)
      | (have e : v1.length = rkF a n L := by (try split at h) <;> omega
         rw [← e]; rfl)
end Go.Proofs.Ytbclbcldplmppaa

/- 'append(l, x)', where l is read afterwards: what is old stays; regions whose other operations only read or make new memory. -/
namespace Go.Proofs.Ytbclbcldplmppaa
open Go.RowKit

/-- One line appended: the new slice, and the old one beside it. -/
theorem run_append_both {w : World} {base : Nat} {v : Value} {n : Nat} {xs : List Value} (ty : TypeId) (hown : w.ownsRow base 22 1 v n xs) {bs c : Nat} {x : Value} (hx : w.heap[bs]? = some (.cells #[x] 22)) (h1 : x.oneCell' = true) (hn : n ≤ 1000) (hbase : base ≤ w.heap.size) :
    ∃ v' w', (Builtin.append_ #[106, 106] ty #[v, .slice (some ⟨bs, 0, none⟩) 1 c]).run Try.prog w = .ok v' w' ∧ w'.ownsRow base 22 1 v' (n + 1) (xs ++ [x]) ∧ w'.ownsRow base 22 1 v n xs ∧ w.grownBy w' v.ownBlock ∧
      (v'.ownBlock = v.ownBlock ∨ v'.ownBlock = some w.heap.size ∧ ∀ k, k < w.heap.size → w'.heap[k]? = w.heap[k]?) := by
  obtain ⟨i, hi, hz0, hz1, hz2⟩ := slice_elem.info
  have hnews : ∀ j u, [x][j]? = some u → w.cell? ((⟨bs, 0, none⟩ : Addr).add j) = some u := fun j u hj => by
    have e : j = 0 := by
      have := (List.getElem?_eq_some_iff.1 hj).1
      simpa using this
    subst e
    have : (⟨bs, 0, none⟩ : Addr).add 0 = ⟨bs, 0, none⟩ := by simp [Addr.add]
    rw [this, cell_heap hx]
    simpa using hj
  have hone : ∀ u ∈ [x], u.oneCell' = true := fun u hu => by simp at hu; subst hu; exact h1
  have hbytes : (n + 1) * 24 ≤ 140737488355328 := by omega
  have h63 : n + 1 ≤ maxLen := by unfold maxLen; omega
  obtain ⟨v', w', hr, o1, o2, _, o4⟩ := run_append_own_at (P := Try.prog) w base 106 ty 22 i _ 1 24 Try.underlying106 hi hz0 hz1 hz2 slice_elem.zs slice_elem.pos v n xs hown ⟨bs, 0, none⟩ 1 c [x] rfl hnews hone h63 hbytes hbase
  rcases hown.2 with ⟨rfl, rfl⟩ | ⟨g, cap, cur, rfl, hbg, hg, hnc, hcm, hcs, htake⟩
  · have : xs = [] := List.eq_nil_of_length_eq_zero (by simpa using hown.1)
    subst this
    exact ⟨v', w', hr, o1, World.ownsRow_nil _ _ _ _, o2, o4.imp_right fun e => ⟨e, fun k hk => o2.block k hk (by simp [Value.ownBlock])⟩⟩
  · have hglt : g < w.heap.size := (Array.getElem?_eq_some_iff.1 hg).1
    by_cases hroom : n + 1 ≤ cap
    · have hr2 := run_append_room (P := Try.prog) w 106 ty 22 i Try.underlying106 hi g n cap cur hg ⟨bs, 0, none⟩ 1 c [x] (by rw [hz1]; rfl) hnews hone hroom (by rw [hz1, hcs]; simp; omega)
      rw [hr] at hr2
      injection hr2 with e1 e2
      subst e2
      have hlen := hown.1
      refine ⟨v', _, hr, o1, ?_, o2, .inl (by rw [e1]; rfl)⟩
      refine ⟨hown.1, .inr ⟨g, cap, _, rfl, hbg, setRow_heap w g cur _ _ _ hg, hnc, hcm, ?_, ?_⟩⟩
      · rw [hz1]
        simp only [List.size_toArray, List.length_append, List.length_take, List.length_drop, Array.length_toList, List.length_singleton]
        omega
      · rw [hz1, htake, List.append_assoc, ← hlen]
        exact List.take_left
    · have holds : ∀ j u, xs[j]? = some u → w.cell? ((⟨g, 0, none⟩ : Addr).add j) = some u := hown.cells (g := g) rfl
      have hr2 := run_append_grow (P := Try.prog) w 106 ty 22 i _ Try.underlying106 hi hz0 ⟨g, 0, none⟩ n cap xs (by rw [hz1]; exact hown.1) holds ⟨bs, 0, none⟩ 1 c [x] (by rw [hz1]; rfl) hnews (by omega) (by omega) (by rw [hz2]; exact growslice_fits (by omega) hbytes)
      rw [hr] at hr2
      injection hr2 with e1 e2
      subst e2
      refine ⟨v', _, hr, o1, ?_, o2, .inr ⟨by rw [e1]; rfl, fun k hk => heap_alloc_old w.drew _ hk⟩⟩
      exact ⟨hown.1, .inr ⟨g, cap, cur, rfl, hbg, (heap_alloc_old w.drew _ hglt).trans hg, hnc, hcm, hcs, htake⟩⟩

/-! ### The growth -/

/-- The cell behind the slice holds a line of the numbers xs, made since w0. -/
def GoodL (w0 : World) (v : Value) (n S : Nat) (xs : List Int) (w : World) : Prop := ∃ g h, v.ownBlock = some g ∧ w.cell? ⟨g, n, none⟩ = some (sl h S) ∧ w0.heap.size ≤ h ∧ w.heap[h]? = some (.cells (xs.map vint).toArray 3)

structure ApR (w0 : World) (v : Value) (n S : Nat) (cells : List Value) (xs : List Int) (base : Nat) (w w' : World) : Prop where
  gr : w.grownBy w' v.ownBlock
  own : w.ownsRow base 22 1 v n cells → w'.ownsRow base 22 1 v n cells
  good : w.heap.size ≥ w0.heap.size → GoodL w0 v n S xs w → GoodL w0 v n S xs w'

theorem grownBy_refl (w : World) (r : Option Nat) : w.grownBy w r := ⟨rfl, rfl, rfl, Nat.le_refl _, fun _ _ _ => rfl⟩
def apPre (w0 : World) (v : Value) (n S : Nat) (cells : List Value) (xs : List Int) (base : Nat) : Cf.Pre where
  R := ApR w0 v n S cells xs base
  refl _ := ⟨grownBy_refl _ _, fun h => h, fun _ h => h⟩
  trans h k := ⟨h.gr.trans k.gr, fun x => k.own (h.own x), fun hs x => k.good (Nat.le_trans hs h.gr.size) (h.good hs x)⟩
  drawn h _ := ⟨⟨h.gr.os, h.gr.tape, h.gr.output, h.gr.size, h.gr.block⟩, fun x => h.own x, fun hs x => h.good hs x⟩
  size h := h.gr.size

section
variable {w0 w w' : World} {v : Value} {n S : Nat} {cells : List Value} {xs : List Int} {base : Nat}
theorem Ext.grownBy (h : Ext w w') (r : Option Nat) : w.grownBy w' r := ⟨h.os, h.tape, h.output, h.le, fun k hk _ => h.block k hk⟩
/-- A call that only makes new memory. -/
theorem ApR.of_ext (h : Ext w w') : ApR w0 v n S cells xs base w w' := by
  refine ⟨h.grownBy _, fun ho => h.owns ho, fun hs hg => ?_⟩
  obtain ⟨g, hb, e, hc, h0, hh⟩ := hg
  exact ⟨g, hb, e, h.cell hc, h0, h.heap hh⟩
theorem ApR.ext {wb : World} (h : ApR w0 v n S cells xs base w0 w) (hb : Ext wb w0) (ho : w0.ownsRow base 22 1 v n cells) (hwb : wb.heap.size ≤ base) : Ext wb w :=
  hb.grown h.gr fun k hk => Nat.le_trans hwb (ho.lt k hk).1

/-- What the slice with the line more is. -/
def AppT (w0 : World) (v : Value) (n S : Nat) (cells : List Value) (xs : List Int) (v' : Value) (w : World) : Prop :=
  (∃ g c, v' = .slice (some ⟨g, 0, none⟩) (n + 1) c ∧ v.ownBlock = some g ∧ w0.heap.size ≤ w.heap.size ∧ GoodL w0 v n S xs w) ∨
  (∃ b c cur h, v' = .slice (some ⟨b, 0, none⟩) (n + 1) c ∧ some b ≠ v.ownBlock ∧ w.heap[b]? = some (.cells cur 22) ∧ cur.toList.take (n + 1) = cells ++ [sl h S] ∧ some h ≠ v.ownBlock ∧ w.heap[h]? = some (.cells (xs.map vint).toArray 3))
theorem AppT.stable {v' : Value} (hR : ApR w0 v n S cells xs base w w') (h : AppT w0 v n S cells xs v' w) : AppT w0 v n S cells xs v' w' := by
  rcases h with ⟨g, c, e, hg, hs, hgood⟩ | ⟨b, c, cur, h, e, hb, hh, ht, hne, hl⟩
  · exact .inl ⟨g, c, e, hg, Nat.le_trans hs hR.gr.size, hR.good hs hgood⟩
  · exact .inr ⟨b, c, cur, h, e, hb, (hR.gr.block b (Array.getElem?_eq_some_iff.1 hh).1 hb).trans hh, ht, hne, (hR.gr.block h (Array.getElem?_eq_some_iff.1 hl).1 hne).trans hl⟩

/-- The append itself. -/
theorem app_run {bs h c : Nat} (ty : TypeId) (hR : ApR w0 v n S cells xs base w0 w) (ho : w0.ownsRow base 22 1 v n cells) (hb0 : base ≤ w0.heap.size) (hn : n ≤ 1000) (hx : w.heap[bs]? = some (.cells #[sl h S] 22)) (h0 : w0.heap.size ≤ h) (hh : w.heap[h]? = some (.cells (xs.map vint).toArray 3)) :
    ∃ v' w', (Builtin.append_ #[106, 106] ty #[v, .slice (some ⟨bs, 0, none⟩) 1 c]).run Try.prog w = .ok v' w' ∧ ApR w0 v n S cells xs base w w' ∧ AppT w0 v n S cells xs v' w' := by
  have how := hR.own ho
  obtain ⟨v', w', hr, o1, o2, o3, o4⟩ := run_append_both ty how (c := c) hx rfl hn (Nat.le_trans hb0 hR.gr.size)
  have hvlt : ∀ k, v.ownBlock = some k → k < w0.heap.size := fun k hk => (ho.lt k hk).2
  have hne : some h ≠ v.ownBlock := fun e => by have := hvlt h e.symm; omega
  have hhlt := (Array.getElem?_eq_some_iff.1 hh).1
  have hh' : w'.heap[h]? = some (.cells (xs.map vint).toArray 3) := (o3.block h hhlt hne).trans hh
  have hlen : cells.length = n := by have := ho.1; omega
  rcases o1.2 with ⟨_, e⟩ | ⟨g, cap, cur, rfl, hbg, hg, hnc, hcm, hcs, htake⟩
  · omega
  · have hcn : w'.cell? ⟨g, n, none⟩ = some (sl h S) := by
      have := World.ownsRow.cellAt (w := w') (e := 22) o1 n (by omega)
      rw [this, List.getElem?_append_right (by omega), hlen]; simp
    refine ⟨_, w', hr, ⟨o3, fun _ => o2, fun hs hgood => ?_⟩, ?_⟩
    · obtain ⟨g2, h2, e1, e2, e3, e4⟩ := hgood
      have hh2 : w'.heap[h2]? = some (.cells (xs.map vint).toArray 3) := (o3.block h2 (Array.getElem?_eq_some_iff.1 e4).1 (fun e => by have := hvlt h2 e.symm; omega)).trans e4
      rcases o4 with e | ⟨_, e⟩
      · have e : some g = v.ownBlock := e
        rw [e1] at e
        have e : g = g2 := Option.some.inj e
        subst e
        exact ⟨g, h, e1, hcn, h0, hh'⟩
      · refine ⟨g2, h2, e1, ?_, e3, hh2⟩
        have hg2 : g2 < w0.heap.size := hvlt g2 e1
        exact (World.cell?_of_block (a := ⟨g2, n, none⟩) (e g2 (by omega))).trans e2
    · rcases o4 with e | ⟨e, _⟩
      · have e : some g = v.ownBlock := e
        exact .inl ⟨g, cap, rfl, e.symm, Nat.le_trans hR.gr.size o3.size, ⟨g, h, e.symm, hcn, h0, hh'⟩⟩
      · refine .inr ⟨g, cap, cur, h, rfl, ?_, hg, by simpa using htake, hne, hh'⟩
        have e : some g = some w.heap.size := e
        have e : g = w.heap.size := Option.some.inj e
        exact fun e2 => by have := hvlt g e2.symm; have := hR.gr.size; omega
end
end Go.Proofs.Ytbclbcldplmppaa

/- The reference's unit line. -/
namespace Go.Proofs.Ytbclbcldplmppaa
open Go.RowKit

set_option maxRecDepth 100000 in
theorem one_ref (n i : Nat) (w : World) (hi : i < n) (hn : n ≤ 1000) :
    Calls Try.prog 80 #[.int .i64 n, .int .i64 i] w fun e w' => ∃ g, e = .returned (sl g n) ∧ NewInts w w' g (unitL n i) := by
  go_enter Try.func80, Try.ntmps80
  have hii : (i : Int) < (n : Int) := by omega
  go_wp2_with (refine own_make (w1 := w) int_elem rfl _ _ rfl Try.underlying22 _ n rfl rfl (by omega) (by unfold maxLen; omega) (by simp) ?_; intro w2 hown hx; rw [made_ints] at hown; have hni := NewInts.of_own hown; have hc := hni.cell (k := i) (by simpa using hi); have hf := hni.free (by simp; unfold maxLen; omega) i)
  go_ret
  exact ⟨_, rfl, hni.store (by simp; unfold maxLen; omega) i 1⟩
end Go.Proofs.Ytbclbcldplmppaa

/- Lines to be read, out of lists of lines; their numbers are small. -/
namespace Go.Proofs.Ytbclbcldplmppaa
open Go.RowKit

theorem add_base (g k : Nat) : (⟨g, 0, none⟩ : Addr).add k = ⟨g, k, none⟩ := by unfold Addr.add; split <;> simp_all

theorem LRow.of_cells {w : World} {g S a : Nat} {h : Nat → Nat} {xs : Nat → List Int} (hc : ∀ k, k < a → w.cell? ⟨g, k, none⟩ = some (sl (h k) S)) (hl : ∀ k, k < a → w.heap[h k]? = some (.cells ((xs k).map vint).toArray 3) ∧ (xs k).length = S) :
    LRow w (some ⟨g, 0, none⟩) S a (fun k j => getI (xs k) j) := fun k hk => by
  obtain ⟨h1, h2⟩ := hl k hk
  refine ⟨_, _, _, rfl, fun w' he => by rw [add_base]; exact he.cell (hc k hk), fun j hj => ⟨_, rfl, fun w' he => ?_⟩⟩
  rw [add_base, cell_heap (he.heap h1)]
  simp [getI, show j < (xs k).length by omega]
theorem LRow.none (w : World) (A : Option Addr) (S : Nat) (L : Nat → Nat → Int) : LRow w A S 0 L := fun k hk => by omega
theorem LRow.congr {w : World} {A : Option Addr} {S a : Nat} {L L' : Nat → Nat → Int} (h : LRow w A S a L) (hL : ∀ k, k < a → ∀ j, j < S → L k j = L' k j) : LRow w A S a L' := fun k hk => by
  obtain ⟨ad, B, c, h1, h2, h3⟩ := h k hk
  exact ⟨ad, B, c, h1, h2, fun j hj => by
    obtain ⟨bd, e1, e2⟩ := h3 j hj
    exact ⟨bd, e1, fun w' he => by rw [e2 w' he, hL k hk j hj]⟩⟩

/-- The equations as a matrix. -/
def gearL (ms : List Msh) (S k j : Nat) : Int := getI (lineI ms S k) j
def gearLs (ms : List Msh) (S : Nat) : List (List Int) := ms.map fun x => facS x S
theorem gearLs_get {ms : List Msh} {S k : Nat} (h : k < (gearLs ms S).length) : (gearLs ms S)[k] = lineI ms S k := by
  have h' : k < ms.length := by simpa [gearLs] using h
  rw [lineI_eq h']
  simp [gearLs]
theorem gearLs_len (ms : List Msh) (S : Nat) : (gearLs ms S).length = ms.length := by simp [gearLs]

theorem getI_set_abs {L : List Int} {b : Nat} (h : ∀ j, (getI L j).natAbs ≤ b) (a : Nat) {v : Int} (hv : v.natAbs ≤ b) (j : Nat) : (getI (L.set a v) j).natAbs ≤ b := by
  have := h j
  unfold getI at *
  rw [List.getElem?_set]
  by_cases e : a = j
  · subst e
    by_cases hl : a < L.length
    · rw [if_pos rfl, if_pos hl]; exact hv
    · rw [if_pos rfl, if_neg hl]; simp
  · rw [if_neg e]; exact this
theorem getI_zeros (n b j : Nat) : (getI (List.replicate n 0) j).natAbs ≤ b := by
  unfold getI
  by_cases h : j < n
  · rw [List.getElem?_replicate, if_pos h]; simp
  · rw [List.getElem?_replicate, if_neg h]; simp
theorem facS_48 {x : Msh} {n : Nat} (h : validB x (n : Int) = true) (j : Nat) : (getI (facS x n) j).natAbs ≤ 48 := by
  have hv : validP x n := of_decide_eq_true h
  have ht : teethS x.kind = true → (1 ≤ x.n ∧ x.n ≤ 24) ∧ (1 ≤ x.m ∧ x.m ≤ 24) := fun e => by
    have := hv.2.2.2.2
    rwa [if_pos e] at this
  have h0 := getI_zeros n 48
  unfold facS
  split
  · rename_i h1
    have := ht (by simp [teethS, h1])
    exact getI_set_abs (getI_set_abs h0 _ (by omega)) _ (by omega) j
  split
  · rename_i _ h1
    have := ht (by simp [teethS, h1])
    exact getI_set_abs (getI_set_abs h0 _ (by omega)) _ (by omega) j
  split
  · exact getI_set_abs h0 _ (by decide) j
  split
  · exact getI_set_abs (getI_set_abs (getI_set_abs h0 _ (by decide)) _ (by decide)) _ (by decide) j
  split
  · rename_i h1
    have := ht (by simp [teethS, h1])
    exact getI_set_abs (getI_set_abs (getI_set_abs h0 _ (by omega)) _ (by omega)) _ (by omega) j
  · exact getI_set_abs (getI_set_abs h0 _ (by decide)) _ (by decide) j

theorem gearL_small {ms : List Msh} {S : Nat} (ht : trainP S ms) : SmallL ms.length S (gearL ms S) := fun k hk j _ => by
  unfold gearL
  rw [lineI_eq hk]
  exact facS_48 (ht.2.2.2 k hk) j
theorem SmallL.snoc {a n : Nat} {L : Nat → Nat → Int} (h : SmallL a n L) (i : Nat) : SmallL (a + 1) n (snocF a L (eU i)) := fun k hk j hj => by
  by_cases e : k = a
  · subst e
    rw [snocF_at]
    unfold eU
    split <;> decide
  · rw [snocF_lt (by omega)]; exact h k (by omega) j hj
theorem getI_unitL {n i j : Nat} (hj : j < n) : getI (unitL n i) j = eU i j := by
  unfold getI unitL eU
  rw [List.getElem?_set]
  by_cases e : i = j
  · subst e; simp [hj]
  · rw [if_neg e, if_neg (fun h => e h.symm)]
    simp [hj]

/-- A list of lines, as lines to be read. -/
theorem LMat.lrow {b w : World} {A : Option Addr} {k c S : Nat} {gs : List Nat} {ls : List (List Int)} (h : LMat b w (.slice A k c) S gs ls) : LRow w A S ls.length (fun i j => getI (ls.getD i []) j) := by
  rcases h.own.2.2 with ⟨e, hl⟩ | ⟨g, cap, cur, e, _, _, _, _, _, _⟩
  · rw [hl]; exact LRow.none _ _ _ _
  · injection e with e1 e2 e3
    subst e1
    refine LRow.of_cells (h := fun k => gs.getD k 0) (fun i hi => ?_) (fun i hi => ?_)
    · have hgi : i < gs.length := by have := h.gl; omega
      rw [h.own.cell (by simpa using hgi)]
      simp [hgi]
    · have hgi : i < gs.length := by have := h.gl; omega
      have := h.rows i hgi hi
      simp only [List.getD_eq_getElem?_getD, List.getElem?_eq_getElem hgi, List.getElem?_eq_getElem hi, Option.getD_some]
      exact ⟨this.1.2.2, this.2⟩

/-- After the append: the new slice's lines. -/
theorem AppT.lrow {b w0 w : World} {v v' : Value} {S base : Nat} {gs : List Nat} {ls : List (List Int)} {xs : List Int} (hm : LMat b w0 v S gs ls) (hb : b.heap.size = base) (hx : xs.length = S) (hR : ApR w0 v ls.length S (slL S gs) xs base w0 w) (hT : AppT w0 v ls.length S (slL S gs) xs v' w) :
    ∃ A c, v' = .slice A (ls.length + 1) c ∧ LRow w A S (ls.length + 1) (fun i j => getI (if i = ls.length then xs else ls.getD i []) j) := by
  subst hb
  have hgl := hm.gl
  have hrow : ∀ i, i < ls.length → w.heap[gs.getD i 0]? = some (.cells ((ls.getD i []).map vint).toArray 3) ∧ (ls.getD i []).length = S := fun i hi => by
    have hgi : i < gs.length := by omega
    have := hm.rows i hgi hi
    simp only [List.getD_eq_getElem?_getD, List.getElem?_eq_getElem hgi, List.getElem?_eq_getElem hi, Option.getD_some]
    exact ⟨(hR.gr.block _ this.1.lt (fun e => hm.apart this.1 e.symm)).trans this.1.2.2, this.2⟩
  have how := hR.own hm.own.2
  rcases hT with ⟨g, c, e, hg, _, hgood⟩ | ⟨bl, c, cur, h, e, hne, hh, ht, hne2, hl⟩
  · refine ⟨_, c, e, ?_⟩
    obtain ⟨g2, h2, e1, e2, e3, e4⟩ := hgood
    rw [hg] at e1
    have e1 := Option.some.inj e1
    subst e1
    refine LRow.of_cells (h := fun i => if i = ls.length then h2 else gs.getD i 0) (fun i hi => ?_) (fun i hi => ?_)
    · by_cases ei : i = ls.length
      · subst ei; rw [if_pos rfl]; exact e2
      · rw [if_neg ei]
        have hi' : i < gs.length := by omega
        rcases how.2 with ⟨ev, _⟩ | ⟨g', cap, cur, ev, _⟩
        · rw [ev] at hg; cases hg
        · rw [ev] at hg how
          have hg : g' = g := Option.some.inj hg
          subst hg
          have := World.ownsRow.cellAt (w := w) (e := 22) how i (by omega)
          rw [this]
          simp [hi']
    · by_cases ei : i = ls.length
      · subst ei; rw [if_pos rfl, if_pos rfl]; exact ⟨e4, hx⟩
      · rw [if_neg ei, if_neg ei]; exact hrow i (by omega)
  · refine ⟨_, c, e, ?_⟩
    refine LRow.of_cells (h := fun i => if i = ls.length then h else gs.getD i 0) (fun i hi => ?_) (fun i hi => ?_)
    · rw [cell_heap hh]
      have h1 : cur[i]? = (cur.toList.take (ls.length + 1))[i]? := by
        rw [List.getElem?_take, if_pos hi]; simp
      rw [h1, ht]
      by_cases ei : i = ls.length
      · subst ei
        rw [if_pos rfl, List.getElem?_append_right (by simp [hgl])]
        simp [hgl]
      · rw [if_neg ei, List.getElem?_append_left (by simp [hgl]; omega)]
        have hi' : i < gs.length := by omega
        simp [hi']
    · by_cases ei : i = ls.length
      · subst ei; rw [if_pos rfl, if_pos rfl]; exact ⟨hl, hx⟩
      · rw [if_neg ei, if_neg ei]; exact hrow i (by omega)
end Go.Proofs.Ytbclbcldplmppaa

/- A train's equations, solved: the code's three calls brought together. -/
namespace Go.Proofs.Ytbclbcldplmppaa
open Go.RowKit

/-! ### The order of columns, as natural numbers -/
def ordN (S : Nat) (ex tl : List Nat) : List Nat := (List.range S).filter (fun k => decide (k ∉ ex)) ++ tl
theorem ordP_nat (ex : List Nat) : ∀ S, ordP (ex.map fun (k : Nat) => (k : Int)) S = ((List.range S).filter (fun k => decide (k ∉ ex))).map fun (k : Nat) => (k : Int)
  | 0 => rfl
  | S + 1 => by
    have hm : memB (ex.map fun (k : Nat) => (k : Int)) (S : Int) = decide (S ∈ ex) := by
      unfold memB
      simp only [List.mem_map, decide_eq_decide]
      constructor
      · rintro ⟨a, h1, h2⟩
        have : a = S := by omega
        exact this ▸ h1
      · intro h; exact ⟨S, h, rfl⟩
    rw [List.range_succ, List.filter_append, List.map_append, ← ordP_nat ex S]
    by_cases h : S ∈ ex
    · rw [ordP_skip (by rw [hm]; simpa using h)]; simp [h]
    · rw [ordP_take (by rw [hm]; simpa using h)]; simp [h]
theorem ordS_nil (S : Nat) : ordS S [] = (ordN S [] []).map fun (k : Nat) => (k : Int) := by
  have := ordP_nat [] S
  unfold ordS ordN
  rw [List.map_append, ← this]
  rfl
theorem ordS_one (S i : Nat) : ordS S [(i : Int)] = (ordN S [i] [i]).map fun (k : Nat) => (k : Int) := by
  have := ordP_nat [i] S
  unfold ordS ordN
  rw [List.map_append, ← this]
  rfl
theorem ordS_same (S i : Nat) : ordS S [(i : Int), (i : Int)] = (ordN S [i] [i]).map fun (k : Nat) => (k : Int) := by
  have h1 : ∀ S, ordP [(i : Int), (i : Int)] S = ordP [(i : Int)] S := by
    intro S
    induction S with
    | zero => rfl
    | succ S ih => unfold ordP; rw [ih]; simp [memB]
  rw [← ordS_one]
  unfold ordS
  rw [h1]
  simp
theorem ordS_two {S o i : Nat} (h : o ≠ i) : ordS S [(o : Int), (i : Int)] = (ordN S [o, i] [o, i]).map fun (k : Nat) => (k : Int) := by
  have := ordP_nat [o, i] S
  unfold ordS ordN
  rw [List.map_append, ← this]
  have hne : ¬ ((o : Int) = (i : Int)) := by omega
  simp [hne]
theorem ordN_lt {S : Nat} {ex tl : List Nat} (ht : ∀ c ∈ tl, c < S) : ∀ c ∈ ordN S ex tl, c < S := fun c hc => by
  rcases List.mem_append.1 hc with h | h
  · exact List.mem_range.1 (List.mem_filter.1 h).1
  · exact ht c h
theorem ordN_all {S : Nat} {ex tl : List Nat} (ht : ∀ c ∈ ex, c ∈ tl) : ∀ c, c < S → c ∈ ordN S ex tl := fun c hc => by
  by_cases h : c ∈ ex
  · exact List.mem_append.2 (.inr (ht c h))
  · exact List.mem_append.2 (.inl (List.mem_filter.2 ⟨List.mem_range.2 hc, by simpa using h⟩))
theorem ordN_nodup {S : Nat} {ex tl : List Nat} (ht : ∀ c ∈ tl, c ∈ ex) (hn : tl.Nodup) : (ordN S ex tl).Nodup :=
  List.nodup_append.2 ⟨List.nodup_range.filter _, hn, fun a ha b hb e => by
    subst e
    have := (List.mem_filter.1 ha).2
    simp at this
    exact this (ht a hb)⟩
theorem ordN_len {S : Nat} {ex tl : List Nat} (ht : tl.length ≤ 2) : (ordN S ex tl).length ≤ S + 2 := by
  unfold ordN
  rw [List.length_append]
  have := List.length_filter_le (fun k => decide (k ∉ ex)) (List.range S)
  simp at this ⊢
  omega

/-! ### The rows, as solve reads them -/
theorem augA_eq (ms : List Msh) (S : Nat) : augA S (lineI ms S) = augF S (gearL ms S) := rfl
theorem lineOf_aug {ms : List Msh} {S k : Nat} (hk : k < ms.length) : lineOf (augA S (lineI ms S)) S k = lineI ms S k := by
  have hl : (lineI ms S k).length = S := by rw [lineI_eq hk]; exact facS_length _ _
  apply List.ext_getElem?
  intro j
  unfold lineOf
  by_cases hj : j < S
  · simp [hj, augA, getI, hl]
  · rw [List.getElem?_eq_none (by simpa using hj), List.getElem?_eq_none (by omega)]
theorem byOf_aug {ms : List Msh} {S m k : Nat} : byOf (augA S (lineI ms S)) S m k = unitL m k := by
  apply List.ext_getElem?
  intro j
  unfold byOf unitL
  by_cases hj : j < m
  · have hh : augA S (lineI ms S) k (S + j) = if j = k then 1 else 0 := by unfold augA; rw [if_neg (by omega), Nat.add_sub_cancel_left]
    by_cases e : j = k
    · subst e; rw [if_pos rfl] at hh; simp [hj, hh]
    · have e' : ¬ k = j := fun h => e h.symm
      rw [if_neg e] at hh
      simp [hj, hh, e']
  · rw [List.getElem?_eq_none (by simpa using hj), List.getElem?_eq_none (by simpa using hj)]

theorem Mat.rin {b w : World} {A : Option Addr} {k c S : Nat} {ms : List Msh} {rs : List RowM} (h : Mat b w (.slice A k c) S ms.length rs) (hr : RowsOf ms S ms.length rs) :
    RIn w A S ms.length (fun k => lineOf (augA S (lineI ms S)) S k) (fun k => byOf (augA S (lineI ms S)) S ms.length k) := fun k hk => by
  have hk' : k < rs.length := by rw [hr.len]; exact hk
  obtain ⟨ad, e1, hc⟩ := Row.struct (w := w) (size := 2) (rows := rs.map (RowM.cells S ms.length)) h.own.row (by simp [RowM.cells]) (k := k) (by simpa using hk') (by omega)
  have hrow := h.rows rs[k] (List.getElem_mem hk')
  refine ⟨ad, some ⟨rs[k].g, 0, none⟩, some ⟨rs[k].h, 0, none⟩, e1, fun w' he => ?_, fun w' he => ?_, fun w' he => ?_, fun w' he => ?_, ?_, ?_⟩
  · have := hc 0 (by omega) w' he
    rw [add_zero_] at this
    simpa [RowM.cells] using this
  · have := hc 1 (by omega) w' he
    rw [add_lit _ _ (by omega)] at this
    simpa [RowM.cells] using this
  · show Ints w' _ (lineOf (augA S (lineI ms S)) S k)
    rw [lineOf_aug hk, ← hr.l k hk']
    exact (hrow.gl.later he).ints
  · show Ints w' _ (byOf (augA S (lineI ms S)) S ms.length k)
    rw [byOf_aug, ← hr.b k hk']
    exact (hrow.hb.later he).ints
  · exact lineOf_length
  · exact byOf_length

def isRows (b : World) (ms : List Msh) (S : Nat) (v : Value) (w : World) : Prop := ∃ rs, Mat b w v S ms.length rs ∧ RowsOf ms S ms.length rs
def isNats (l : List Nat) (v : Value) (w : World) : Prop := isInts (l.map fun (k : Nat) => (k : Int)) v w
/-- A value of the type 'solved'. -/
def isSolved (b : World) (ms : List Msh) (S : Nat) (cols : List Nat) (u : Value) (w : World) : Prop :=
  ∃ v ordv mb g h σ pv M d D, u = .agg #[v, .map (some mb), ordv, .int .i64 d] ∧ SolSt (augF S (gearL ms S)) S ms.length cols σ pv M d ∧
    MF b w v S ms.length ms.length g h (fun k => lineOf M S (σ k)) (fun k => byOf M S ms.length (σ k)) ∧ MapI w mb pv.length D ∧ MapIs D (colsP pv) ∧ isNats cols ordv w
theorem MapI.later {w w' : World} {mb cnt : Nat} {D : DataW Unit} (h : MapI w mb cnt D) (he : Ext w w') : MapI w' mb cnt D := by
  obtain ⟨es, clock, hb, r⟩ := h
  exact ⟨es, clock, he.heap hb, r⟩
theorem isRows.later {b w w' : World} {ms : List Msh} {S : Nat} {v : Value} (h : isRows b ms S v w) (he : Ext w w') : isRows b ms S v w' := by
  obtain ⟨rs, h1, h2⟩ := h
  exact ⟨rs, h1.later he, h2⟩
theorem isNats.later {l : List Nat} {v : Value} {w w' : World} (h : isNats l v w) (he : Ext w w') : isNats l v w' := isInts.ext he h
theorem MF.since {b0 b w : World} {v : Value} {n m c : Nat} {g h : Nat → Nat} {L B : Nat → List Int} (hm : MF b w v n m c g h L B) (he : Ext b0 b) : MF b0 w v n m c g h L B :=
  ⟨hm.own.since he, fun k hk => ⟨(hm.gl k hk).1.since he, (hm.gl k hk).2⟩, fun k hk => ⟨(hm.hb k hk).1.since he, (hm.hb k hk).2⟩, hm.gg, hm.hh, hm.gh⟩
theorem isSolved.later {b w w' : World} {ms : List Msh} {S : Nat} {cols : List Nat} {u : Value} (h : isSolved b ms S cols u w) (he : Ext w w') : isSolved b ms S cols u w' := by
  obtain ⟨v, ordv, mb, g, h, σ, pv, M, d, D, e, hs, hm, hp, hd, ho⟩ := h
  exact ⟨v, ordv, mb, g, h, σ, pv, M, d, D, e, hs, hm.later he, hp.later he, hd, ho.later he⟩
theorem isSolved.since {b0 b w : World} {ms : List Msh} {S : Nat} {cols : List Nat} {u : Value} (h : isSolved b ms S cols u w) (he : Ext b0 b) : isSolved b0 ms S cols u w := by
  obtain ⟨v, ordv, mb, g, h, σ, pv, M, d, D, e, hs, hm, r⟩ := h
  exact ⟨v, ordv, mb, g, h, σ, pv, M, d, D, e, hs, hm.since he, r⟩

theorem rows_is (A : Option Addr) (c S : Nat) (ms : List Msh) (w : World) (hA : MRow w A ms) (ht : trainP S ms) :
    Calls Try.prog 66 #[.agg #[.int .i64 S, .slice A ms.length c]] w fun e w' => ∃ v, e = .returned v ∧ Ext w w' ∧ isRows w ms S v w' :=
  (rows_any A c S ms w hA ht).mono fun e w' h => by
    obtain ⟨v, rs, rfl, h1, h2⟩ := h
    exact ⟨v, rfl, h1.own.ext, rs, h1, h2⟩

theorem solve_is {b w : World} {S : Nat} {ms : List Msh} {cols : List Nat} {rv ov : Value} (ht : trainP S ms) (hr : isRows b ms S rv w) (ho : isNats cols ov w) (hc : ∀ c ∈ cols, c < S) (hcl : cols.length ≤ 1000) :
    Calls Try.prog 65 #[rv, ov] w fun e w' => ∃ v, e = .returned v ∧ Ext w w' ∧ isSolved w ms S cols v w' := by
  obtain ⟨rs, h1, h2⟩ := hr
  obtain ⟨A, c, rfl⟩ := h1.own.form
  obtain ⟨Or, oc, rfl, hoi⟩ := ho
  have hrl : rs.length = ms.length := h2.len
  have hl : (cols.map fun (k : Nat) => (k : Int)).length = cols.length := by simp
  rw [hrl, hl]
  rw [hrl] at h1
  refine (solve_any A c S ms.length (augA S (lineI ms S)) Or oc cols w (h1.rin h2) hoi hc hcl (by have := ht.2.1; omega) ht.2.2.1 fun x hx C hC => aug_small (by rw [lineI_eq hx]; exact facS_small (ht.2.2.2 x hx)) C hC).mono fun e w' h => ?_
  obtain ⟨v, mb, g, h, σ, pv, M, d, D, rfl, hs, hm, hp, hd, _⟩ := h
  refine ⟨_, rfl, hm.ext, v, _, mb, g, h, σ, pv, M, d, D, rfl, hs, hm, hp, hd, Or, oc, by rw [hl], hoi.ext hm.ext⟩
end Go.Proofs.Ytbclbcldplmppaa

/- What a solved train proves: bounds, and products with motions. Plain Lean. -/
namespace Go.Proofs.Ytbclbcldplmppaa

theorem D_small8 {A : Nat → Nat → Int} {m : Nat} (hA : ∀ x, x < m → ∀ C : List Nat, C.Nodup → S C (fun j => ((A x j).natAbs : Int)) ≤ 97) (C R : List Nat) (hC : C.Nodup) (hR : ∀ r ∈ R, r < m) (hl : C.length = R.length) (h8 : R.length ≤ 8) :
    (D (C.map (col A)) R).natAbs ≤ 9007199254740992 := by
  have h1 := (D_bound (C.map (col A)) R).resolve_right (by simpa using hl)
  have h2 : P' R (fun r => S (C.map (col A)) fun v => ((v r).natAbs : Int)) ≤ (97 : Int) ^ R.length := P_const fun r hr => ⟨S_abs_nonneg _ r, by
    rw [S_map]
    exact hA r (hR r hr) C hC⟩
  have h3 : (97 : Int) ^ R.length ≤ 97 ^ 8 := by
    have hn : 97 ^ R.length ≤ 97 ^ 8 := Nat.pow_le_pow_right (by decide) h8
    have hc : ∀ k : Nat, ((97 ^ k : Nat) : Int) = (97 : Int) ^ k := fun k => Int.natCast_pow 97 k
    rw [← hc, ← hc]
    exact Int.ofNat_le.2 hn
  have h4 : ((D (C.map (col A)) R).natAbs : Int) ≤ 97 ^ 8 := Int.le_trans h1 (Int.le_trans h2 h3)
  have h5 : (97 : Int) ^ 8 ≤ 9007199254740992 := by decide +kernel
  omega

/-- The pivots' rows fit into a proof. -/
theorem Bar.fits {A : Nat → Nat → Int} {m : Nat} {pv : List (Nat × Nat)} {M : Nat → Nat → Int} {d : Int} (h : Bar A m pv M d)
    (hA : ∀ x, x < m → ∀ C : List Nat, C.Nodup → S C (fun j => ((A x j).natAbs : Int)) ≤ 97) (hc : (colsP pv).Nodup) (h8 : pv.length ≤ 8) :
    d.natAbs ≤ 9007199254740992 ∧ ∀ q ∈ pv, ∀ j, (M q.1 j).natAbs ≤ 9007199254740992 := by
  have hR : ∀ r ∈ rowsOf pv, r < m := fun r hr => by
    obtain ⟨q, hq, rfl⟩ := List.mem_map.1 hr
    exact h.lt q hq
  refine ⟨?_, fun q0 hq0 j => ?_⟩
  · rw [h.det, colsOf_eq]
    exact D_small8 hA _ _ hc hR (by simp [colsP, rowsOf]) (by rw [rowsOf_length]; omega)
  · obtain ⟨pre, post, hpp⟩ := List.append_of_mem hq0
    rw [h.pivot hpp j]
    by_cases hj : j ∈ colsP pre ∨ j ∈ colsP post
    · have : D (colsOf A pre ++ col A j :: colsOf A post) (rowsOf pv) = 0 := by
        rcases hj with hj | hj
        · obtain ⟨q, hq, rfl⟩ := List.mem_map.1 hj
          exact D_mem_left (mem_cols hq) _ _
        · obtain ⟨q, hq, rfl⟩ := List.mem_map.1 hj
          exact D_mem_right (mem_cols hq) _ _
      rw [this]; decide
    · have e : colsOf A pre ++ col A j :: colsOf A post = (colsP pre ++ j :: colsP post).map (col A) := by simp [colsOf_eq]
      rw [e]
      refine D_small8 hA _ _ ?_ hR (by rw [hpp]; simp [colsP, rowsOf]) (by rw [rowsOf_length]; omega)
      have hc' : (colsP pre ++ q0.2 :: colsP post).Nodup := by rw [hpp] at hc; simpa [colsP] using hc
      rw [List.nodup_append] at hc' ⊢
      obtain ⟨n1, n2, n3⟩ := hc'
      rw [List.nodup_cons] at n2 ⊢
      refine ⟨n1, ⟨fun hm => hj (.inr hm), n2.2⟩, fun a ha b hb => ?_⟩
      rcases List.mem_cons.1 hb with rfl | hb
      · intro e; subst e; exact hj (.inl ha)
      · exact n3 a ha b (by simp [hb])

/-! ### Sums and products, as loops make them -/
/-- The sum of the first i equations, each times a factor, at a shaft. -/
def sumT (F : List Int) (L : Nat → Nat → Int) : Nat → Nat → Int
  | 0, _ => 0
  | i + 1, k => sumT F L i k + getI F i * L i k
/-- The product of a list with an equation, over the first k shafts. -/
def dotT (x : List Int) (c : Nat → Int) : Nat → Int
  | 0 => 0
  | k + 1 => dotT x c k + getI x k * c k

theorem dotT_zero (x : List Int) : ∀ k, dotT x (fun _ => 0) k = 0
  | 0 => rfl
  | k + 1 => by simp [dotT, dotT_zero x k]
theorem dotT_add (x : List Int) (a b : Nat → Int) (u : Int) : ∀ k, dotT x (fun j => a j + u * b j) k = dotT x a k + u * dotT x b k
  | 0 => by simp [dotT]
  | k + 1 => by
    simp only [dotT, dotT_add x a b u k]
    rw [Int.mul_add, Int.mul_add, Int.mul_left_comm]
    omega
theorem dotT_congr {x : List Int} {a b : Nat → Int} : ∀ {k}, (∀ j, j < k → a j = b j) → dotT x a k = dotT x b k
  | 0, _ => rfl
  | k + 1, h => by rw [dotT, dotT, dotT_congr fun j hj => h j (by omega), h k (by omega)]
/-- A sum of equations is 0 in each motion. -/
theorem dot_sum {x F : List Int} {L : Nat → Nat → Int} {n : Nat} : ∀ {m : Nat}, (∀ i, i < m → dotT x (L i) n = 0) → dotT x (sumT F L m) n = 0
  | 0, _ => by
    have : sumT F L 0 = fun _ => 0 := by funext k; rfl
    rw [this, dotT_zero]
  | m + 1, h => by
    have : sumT F L (m + 1) = fun k => sumT F L m k + getI F m * L m k := by funext k; rfl
    rw [this, dotT_add, dot_sum fun i hi => h i (by omega), h m (by omega)]
    simp
theorem dot_one {x : List Int} {c : Nat → Int} {i : Nat} : ∀ {n}, (∀ k, k < n → k ≠ i → c k = 0) → dotT x c n = if i < n then getI x i * c i else 0
  | 0, _ => by simp [dotT]
  | n + 1, h => by
    rw [dotT, dot_one fun k hk => h k (by omega)]
    by_cases e : i = n
    · subst e; rw [if_neg (by omega), if_pos (by omega)]; simp
    · rw [h n (by omega) (fun e' => e e'.symm)]
      by_cases e2 : i < n
      · rw [if_pos e2, if_pos (by omega)]; simp
      · rw [if_neg e2, if_neg (by omega)]; simp
theorem dot_two {x : List Int} {c : Nat → Int} {i o : Nat} (ho : i ≠ o) : ∀ {n}, (∀ k, k < n → k ≠ i → k ≠ o → c k = 0) → dotT x c n = (if i < n then getI x i * c i else 0) + (if o < n then getI x o * c o else 0)
  | 0, _ => by simp [dotT]
  | n + 1, h => by
    rw [dotT, dot_two ho fun k hk => h k (by omega)]
    by_cases e : i = n
    · subst e
      rw [if_neg (show ¬ i < i by omega), if_pos (show i < i + 1 by omega)]
      by_cases e2 : o < i
      · rw [if_pos e2, if_pos (show o < i + 1 by omega)]; omega
      · rw [if_neg e2, if_neg (show ¬ o < i + 1 by omega)]; omega
    · by_cases e3 : o = n
      · subst e3
        rw [if_neg (show ¬ o < o by omega), if_pos (show o < o + 1 by omega)]
        by_cases e2 : i < o
        · rw [if_pos e2, if_pos (show i < o + 1 by omega)]; omega
        · rw [if_neg e2, if_neg (show ¬ i < o + 1 by omega)]; omega
      · rw [h n (by omega) (fun e' => e e'.symm) (fun e' => e3 e'.symm)]
        have a1 : i < n ↔ i < n + 1 := by omega
        have a2 : o < n ↔ o < n + 1 := by omega
        simp only [a1, a2]
        simp

/-! ### Proofs -/
def sizedP (l : List Int) (n : Nat) : Prop := l.length = n ∧ ∀ x ∈ l, -9007199254740992 ≤ x ∧ x ≤ 9007199254740992
instance (l : List Int) (n : Nat) : Decidable (sizedP l n) := by unfold sizedP; infer_instance
def movesP (L : Nat → Nat → Int) (m n : Nat) (x : List Int) : Prop := sizedP x n ∧ ∀ i, i < m → dotT x (L i) n = 0
instance (L : Nat → Nat → Int) (m n : Nat) (x : List Int) : Decidable (movesP L m n x) := by unfold movesP; infer_instance
def jamPr (L : Nat → Nat → Int) (m n i : Nat) (F M T : List Int) : Prop := sizedP F m ∧ M.length = 0 ∧ T.length = 0 ∧ (∀ k, k < n → k ≠ i → sumT F L m k = 0) ∧ 0 < sumT F L m i
instance (L : Nat → Nat → Int) (m n i : Nat) (F M T : List Int) : Decidable (jamPr L m n i F M T) := by unfold jamPr; infer_instance
def loosePr (L : Nat → Nat → Int) (m n i o : Nat) (F M T : List Int) : Prop := F.length = 0 ∧ movesP L m n M ∧ movesP L m n T ∧ 0 < getI M i ∧ getI T i = 0 ∧ 0 < getI T o
instance (L : Nat → Nat → Int) (m n i o : Nat) (F M T : List Int) : Decidable (loosePr L m n i o F M T) := by unfold loosePr; infer_instance
def ratPr (L : Nat → Nat → Int) (m n i o : Nat) (num den : Int) (F M T : List Int) : Prop :=
  sizedP F m ∧ T.length = 0 ∧ movesP L m n M ∧ 0 < getI M i ∧ 1 ≤ den ∧ num.gcd den = 1 ∧
    (if i = o then (∀ k, k < n → sumT F L m k = 0) ∧ num = 1 ∧ den = 1
    else (∀ k, k < n → k ≠ i → k ≠ o → sumT F L m k = 0) ∧ (sumT F L m o).tmod den = 0 ∧ 1 ≤ (sumT F L m o).tdiv den ∧
      (sumT F L m i).tmod ((sumT F L m o).tdiv den) = 0 ∧ -(sumT F L m i).tdiv ((sumT F L m o).tdiv den) = num)
instance (L : Nat → Nat → Int) (m n i o : Nat) (num den : Int) (F M T : List Int) : Decidable (ratPr L m n i o num den F M T) := by unfold ratPr; infer_instance

section
variable {L : Nat → Nat → Int} {m n i o : Nat}
/-- A jam: no motion turns the shaft. -/
theorem jamPr.still {F M T x : List Int} (h : jamPr L m n i F M T) (hi : i < n) (hx : ∀ j, j < m → dotT x (L j) n = 0) : getI x i = 0 := by
  have h1 := dot_sum (F := F) hx
  rw [dot_one h.2.2.2.1, if_pos hi] at h1
  have := h.2.2.2.2
  rcases Int.mul_eq_zero.1 h1 with h2 | h2
  · exact h2
  · omega
/-- What a ratio's proof says of each motion. -/
theorem ratPr.turns {num den : Int} {F M T x : List Int} (h : ratPr L m n i o num den F M T) (hi : i < n) (ho : o < n) (hx : ∀ j, j < m → dotT x (L j) n = 0) : getI x o * den = getI x i * num := by
  obtain ⟨_, _, _, _, hd, _, h7⟩ := h
  by_cases e : i = o
  · rw [if_pos e] at h7
    rw [e, h7.2.1, h7.2.2]
  · rw [if_neg e] at h7
    obtain ⟨h1, h2, h3, h4, h5⟩ := h7
    have h0 := dot_sum (F := F) hx
    rw [dot_two e h1, if_pos hi, if_pos ho] at h0
    have e1 := Int.tdiv_mul_add_tmod (sumT F L m o) den
    have e2 := Int.tdiv_mul_add_tmod (sumT F L m i) ((sumT F L m o).tdiv den)
    rw [h2] at e1
    rw [h4] at e2
    generalize (sumT F L m o).tdiv den = s at *
    generalize (sumT F L m i).tdiv s = u at *
    have e1' : sumT F L m o = s * den := by omega
    have e2' : sumT F L m i = u * s := by omega
    rw [e1', e2'] at h0
    rw [← h5]
    have h6 : s * (getI x i * u + getI x o * den) = 0 := by
      rw [← h0, Int.mul_add, Int.mul_left_comm s (getI x i) u, Int.mul_comm s u, Int.mul_left_comm s (getI x o) den]
    rcases Int.mul_eq_zero.1 h6 with h7 | h7
    · omega
    · rw [Int.mul_neg]; omega
theorem dvd_cop {a b c : Int} (h : b ∣ a * c) (hg : a.gcd b = 1) : b ∣ c := by
  rw [← Int.natAbs_dvd_natAbs, Int.natAbs_mul] at h
  rw [← Int.natAbs_dvd_natAbs]
  exact (Nat.Coprime.dvd_of_dvd_mul_left (show b.natAbs.Coprime a.natAbs by rw [Nat.coprime_comm]; exact hg) h)
theorem lowest_eq {a b c d : Int} (hb : 1 ≤ b) (hd : 1 ≤ d) (h1 : a.gcd b = 1) (h2 : c.gcd d = 1) (h : a * d = c * b) : a = c ∧ b = d := by
  have e1 : b ∣ d := by
    have : b ∣ a * d := ⟨c, by rw [h, Int.mul_comm]⟩
    exact dvd_cop this h1
  have e2 : d ∣ b := by
    have : d ∣ c * b := ⟨a, by rw [← h, Int.mul_comm]⟩
    exact dvd_cop this h2
  have hbd : b = d := Int.le_antisymm (Int.le_of_dvd (by omega) e1) (Int.le_of_dvd (by omega) e2)
  subst hbd
  exact ⟨Int.eq_of_mul_eq_mul_right (by omega) h, rfl⟩
/-- Two ratios are one. -/
theorem ratPr.same {num den num' den' : Int} {F M T F' M' T' : List Int} (h : ratPr L m n i o num den F M T) (h' : ratPr L m n i o num' den' F' M' T') (hi : i < n) (ho : o < n) : num = num' ∧ den = den' := by
  have h1 := h.turns hi ho h.2.2.1.2
  have h2 := h'.turns hi ho h.2.2.1.2
  have hM := h.2.2.2.1
  refine lowest_eq h.2.2.2.2.1 h'.2.2.2.2.1 h.2.2.2.2.2.1 h'.2.2.2.2.2.1 ?_
  have : getI M i * (num * den') = getI M i * (num' * den) := by
    rw [← Int.mul_assoc, ← h1, ← Int.mul_assoc, ← h2, Int.mul_assoc, Int.mul_assoc, Int.mul_comm den den']
  exact Int.eq_of_mul_eq_mul_left (by omega) this
theorem jam_no_ratio {num den : Int} {F M T F' M' T' : List Int} (h : jamPr L m n i F M T) (h' : ratPr L m n i o num den F' M' T') (hi : i < n) : False := by
  have := h.still hi h'.2.2.1.2
  have := h'.2.2.2.1
  omega
theorem jam_no_loose {F M T F' M' T' : List Int} (h : jamPr L m n i F M T) (h' : loosePr L m n i o F' M' T') (hi : i < n) : False := by
  have := h.still hi h'.2.1.2
  have := h'.2.2.2.1
  omega
theorem ratio_no_loose {num den : Int} {F M T F' M' T' : List Int} (h : ratPr L m n i o num den F M T) (h' : loosePr L m n i o F' M' T') (hi : i < n) (ho : o < n) : False := by
  have h1 := h.turns hi ho h'.2.2.1.2
  have h2 := h'.2.2.2.2.1
  have h3 := h'.2.2.2.2.2
  have hd := h.2.2.2.2.1
  rw [h2, Int.zero_mul] at h1
  rcases Int.mul_eq_zero.1 h1 with h4 | h4 <;> omega
end
end Go.Proofs.Ytbclbcldplmppaa
