/- From solved equations to ranks. Plain Lean. -/
import Derived.Deep.Upon
import Derived.Deep.AppendSrc
import Derived.Maps.OwnSet
import Derived.Lib.Hide
import Derived.Lib.Mul64
import Derived.Laws.Bits64b
import Derived.WalkLawsBesides
import Derived.Test.YtbclbcldplmppaaMt05
namespace Go.Proofs.Ytbclbcldplmppaa

theorem solved_exists (A : Nat → Nat → Int) (n m : Nat) (cols : List Nat) (hc : ∀ c ∈ cols, c < n) : ∃ σ pv M d, SolSt A n m cols σ pv M d := by
  have : ∀ k, k ≤ cols.length → ∃ σ pv M d, SolSt A n m (cols.take k) σ pv M d := by
    intro k
    induction k with
    | zero => intro _; exact ⟨_, _, _, _, by rw [List.take_zero]; exact SolSt.start A n m⟩
    | succ k ih =>
      intro hk
      obtain ⟨σ, pv, M, d, h⟩ := ih (by omega)
      have hk' : k < cols.length := by omega
      have ht : cols.take (k + 1) = cols.take k ++ [cols[k]] := List.take_succ_eq_append_getElem hk'
      rw [ht]
      rcases Classical.em (∃ i, pv.length ≤ i ∧ i < m ∧ M (σ i) cols[k] ≠ 0) with ⟨i, h1, h2, h3⟩ | hno
      · exact ⟨_, _, _, _, h.pivot h1 h2 (hc _ (List.getElem_mem hk')) h3⟩
      · exact ⟨_, _, _, _, h.skip fun i h1 h2 => Classical.byContradiction fun h3 => hno ⟨i, h1, h2, h3⟩⟩
  have := this cols.length (Nat.le_refl _)
  rwa [List.take_length] at this

section
variable {A : Nat → Nat → Int} {n m : Nat} {cols : List Nat} {σ : Nat → Nat} {pv : List (Nat × Nat)} {M : Nat → Nat → Int} {d : Int}

/-- What the rows have in a column that is a combination of others. -/
theorem Bar.lin {α : Type} (h : Bar A m pv M d) (Y : List α) (c : α → Int) (f : α → Nat) {j : Nat} (hj : ∀ x, x < m → A x j = S Y fun y => c y * A x (f y)) {x : Nat} (hx : x < m) : M x j = S Y fun y => c y * M x (f y) := by
  have hr : ∀ r ∈ rowsOf pv, r < m := fun r hr => by
    obtain ⟨q, hq, rfl⟩ := List.mem_map.1 hr
    exact h.lt q hq
  by_cases hp : x ∈ rowsOf pv
  · obtain ⟨q0, hq, rfl⟩ := List.mem_map.1 hp
    obtain ⟨pre, post, hpv⟩ := List.append_of_mem hq
    rw [h.pivot hpv, D_at (col A j) (fun r => S Y fun y => c y * col A (f y) r) _ _ _ (fun r hr' => hj r (hr r hr')), D_sum]
    exact S_congr fun y _ => by rw [h.pivot hpv]
  · rw [h.other hx hp, D_at (col A j) (fun r => S Y fun y => c y * col A (f y) r) [] _ _ (fun r hr' => by
      rcases List.mem_append.1 hr' with h1 | h1
      · exact hj r (hr r h1)
      · simp at h1; subst h1; exact hj r hx), D_sum]
    exact S_congr fun y _ => by rw [h.other hx hp]

theorem SolSt.row_at (h : SolSt A n m cols σ pv M d) {i : Nat} (hi : i < pv.length) : pv[i].1 = σ i := by
  have h1 : (rowsOf pv)[i]? = some pv[i].1 := by simp [rowsOf, hi]
  rw [h.row] at h1
  simp [hi] at h1
  exact h1.symm
theorem SolSt.red (h : SolSt A n m cols σ pv M d) {i l : Nat} (hi : i < pv.length) (hl : l < pv.length) : M (σ i) pv[l].2 = if i = l then d else 0 := by
  have hp : pv = pv.take i ++ pv[i] :: pv.drop (i + 1) := by simp
  rw [← h.row_at hi]
  by_cases e : i = l
  · subst e; rw [if_pos rfl]; exact h.bar.diag hp
  · rw [if_neg e]
    refine h.bar.off hp ?_
    by_cases e2 : l < i
    · exact .inl (List.mem_iff_getElem.2 ⟨l, by simp; omega, by simp⟩)
    · exact .inr (List.mem_iff_getElem.2 ⟨l - (i + 1), by simp; omega, by simp [show i + 1 + (l - (i + 1)) = l by omega]⟩)
end

/-- The matrix with a unit matrix beside it. -/
def augF (n : Nat) (A : Nat → Nat → Int) (x j : Nat) : Int := if j < n then A x j else if j - n = x then 1 else 0

section
variable {A : Nat → Nat → Int} {n m : Nat} {cols : List Nat} {σ : Nat → Nat} {pv : List (Nat × Nat)} {M : Nat → Nat → Int} {d : Int}
/-- Each row is the sum of the equations, each times its factor. -/
theorem SolSt.by_ (h : SolSt (augF n A) n m cols σ pv M d) {x j : Nat} (hx : x < m) (hj : j < n) : M x j = S (List.range m) fun y => A y j * M x (n + y) := by
  refine h.bar.lin (List.range m) (fun y => A y j) (fun y => n + y) (fun z hz => ?_) hx
  have e1 : augF n A z j = A z j := by unfold augF; rw [if_pos hj]
  rw [e1, ← S_single List.nodup_range (List.mem_range.2 hz) fun y => A y j]
  refine S_congr fun y _ => ?_
  have e2 : augF n A z (n + y) = if y = z then 1 else 0 := by unfold augF; rw [if_neg (by omega), Nat.add_sub_cancel_left]
  rw [e2]
  by_cases e : y = z
  · rw [if_pos e, if_pos e]; simp
  · rw [if_neg e, if_neg e]; simp
end

/-- A family with one vector more. -/
def snocF (a : Nat) (L : Nat → Nat → Int) (e : Nat → Int) (x : Nat) : Nat → Int := if x = a then e else L x
theorem snocF_lt {a : Nat} {L : Nat → Nat → Int} {e : Nat → Int} {x : Nat} (h : x < a) : snocF a L e x = L x := by unfold snocF; rw [if_neg (by omega)]
theorem snocF_at {a : Nat} {L : Nat → Nat → Int} {e : Nat → Int} : snocF a L e a = e := by unfold snocF; rw [if_pos rfl]

structure BasisOf (n a : Nat) (L Y : Nat → Nat → Int) (R : List Nat) (d : Int) : Prop where
  hR : ∀ r ∈ R, r < n
  tri : ∀ i (hi : i < R.length), Y i R[i] ≠ 0 ∧ ∀ x, i < x → x < R.length → Y x R[i] = 0
  hY : ∀ i, i < R.length → InSpan 0 n a L (Y i)
  hd : d ≠ 0
  hA : ∀ x, x < a → InSpan 0 n R.length Y (fun j => d * L x j)

theorem BasisOf.rank {n a : Nat} {L Y : Nat → Nat → Int} {R : List Nat} {d : Int} (h : BasisOf n a L Y R d) : RankIs (fam a L) n R.length := by
  refine rank_basis R h.hR rfl ?_ h.hY h.hd h.hA
  have := tri_ne primeLike_zero zero_not_one R 0 Y (fun i hi => ⟨by rw [Int.zero_dvd, Nat.zero_add]; exact (h.tri i hi).1, fun x h1 h2 => by rw [Int.zero_dvd, Nat.zero_add]; exact (h.tri i hi).2 x h1 h2⟩)
  rw [Int.zero_dvd] at this
  simpa only [fam, Nat.zero_add] using this

theorem InSpan.more {m : Int} {n a b : Nat} {L L' : Nat → Nat → Int} {v : Nat → Int} (h : InSpan m n a L v) (hab : a ≤ b) (hL : ∀ x, x < a → L' x = L x) : InSpan m n b L' v :=
  h.trans fun k hk => by rw [← hL k hk]; exact InSpan.mem (by omega)

theorem BasisOf.add_in {n a : Nat} {L Y : Nat → Nat → Int} {R : List Nat} {d : Int} (h : BasisOf n a L Y R d) {e : Nat → Int} (he : InSpan 0 n R.length Y (fun j => d * e j)) : BasisOf n (a + 1) (snocF a L e) Y R d :=
  ⟨h.hR, h.tri, fun i hi => (h.hY i hi).more (by omega) fun x hx => snocF_lt hx, h.hd, fun x hx => by
    by_cases hxa : x = a
    · subst hxa; rw [snocF_at]; exact he
    · rw [snocF_lt (by omega)]; exact h.hA x (by omega)⟩

theorem BasisOf.add_out {n a : Nat} {L Y : Nat → Nat → Int} {R : List Nat} {d : Int} (h : BasisOf n a L Y R d) {e : Nat → Int} {c : Nat} (hc : c < n) (he0 : ∀ r ∈ R, e r = 0) (hec : e c ≠ 0) :
    BasisOf n (a + 1) (snocF a L e) (snocF R.length Y e) (R ++ [c]) d := by
  refine ⟨fun r hr => ?_, fun i hi => ?_, fun i hi => ?_, h.hd, fun x hx => ?_⟩
  · rcases List.mem_append.1 hr with h1 | h1
    · exact h.hR r h1
    · simp at h1; omega
  · by_cases e1 : i < R.length
    · rw [List.getElem_append_left e1, snocF_lt e1]
      refine ⟨(h.tri i e1).1, fun x h1 h2 => ?_⟩
      by_cases e2 : x = R.length
      · subst e2; rw [snocF_at]; exact he0 _ (List.getElem_mem e1)
      · simp only [List.length_append, List.length_singleton] at h2
        rw [snocF_lt (by omega)]; exact (h.tri i e1).2 x h1 (by omega)
    · have : i = R.length := by simp at hi; omega
      subst this
      simp only [List.getElem_concat_length, snocF_at]
      exact ⟨hec, fun x h1 h2 => by simp at h2; omega⟩
  · by_cases e1 : i < R.length
    · rw [snocF_lt e1]; exact (h.hY i e1).more (by omega) fun x hx => snocF_lt hx
    · have : i = R.length := by simp at hi; omega
      subst this
      rw [snocF_at]
      have := InSpan.mem (m := 0) (n := n) (cnt := a + 1) (Y := snocF a L e) (k := a) (by omega)
      rwa [snocF_at] at this
  · rw [List.length_append, List.length_singleton]
    by_cases hxa : x = a
    · subst hxa; rw [snocF_at]
      have := InSpan.mem (m := 0) (n := n) (cnt := R.length + 1) (Y := snocF R.length Y e) (k := R.length) (by omega)
      rw [snocF_at] at this
      have := this.comb this d 0
      exact this.congr fun j _ => by rw [Int.zero_mul, Int.add_zero, Int.sub_self]; exact Int.dvd_zero _
    · rw [snocF_lt (by omega)]
      exact (h.hA x (by omega)).more (by omega) fun y hy => snocF_lt hy

section
variable {A : Nat → Nat → Int} {n m : Nat} {cols : List Nat} {σ : Nat → Nat} {pv : List (Nat × Nat)} {M : Nat → Nat → Int} {d : Int}
theorem colsP_get {pv : List (Nat × Nat)} {i : Nat} (hi : i < (colsP pv).length) : (colsP pv)[i] = (pv[i]'(by simpa [colsP] using hi)).2 := by simp [colsP]
theorem colsP_len (pv : List (Nat × Nat)) : (colsP pv).length = pv.length := by simp [colsP]

theorem SolSt.basis (h : SolSt (augF n A) n m cols σ pv M d) (hall : ∀ c, c < n → c ∈ cols) : BasisOf n m A (fun i => M (σ i)) (colsP pv) d := by
  have hle := h.le
  refine ⟨fun r hr => (h.cin r hr).2, fun i hi => ?_, fun i hi => ?_, h.bar.ne, fun x hx => ?_⟩
  · rw [colsP_get]
    rw [colsP_len] at hi
    refine ⟨by rw [h.red hi hi, if_pos rfl]; exact h.bar.ne, fun x h1 h2 => ?_⟩
    rw [colsP_len] at h2
    rw [h.red h2 hi, if_neg (by omega)]
  · rw [colsP_len] at hi
    refine ⟨fun y => M (σ i) (n + y), fun j hj => ?_⟩
    rw [h.by_ (h.lt i (by omega)) hj, S_congr (g := fun y => M (σ i) (n + y) * A y j) (fun y _ => Int.mul_comm _ _), Int.sub_self]
    exact Int.dvd_zero _
  · rw [colsP_len]
    refine ⟨fun i => if hi : i < pv.length then augF n A x pv[i].2 else 0, fun j hj => ?_⟩
    have e1 : augF n A x j = A x j := by unfold augF; rw [if_pos hj]
    have h1 : d * A x j = S pv fun q => augF n A x q.2 * M q.1 j := by
      rw [← e1]
      have := h.bar.rel x hx j
      by_cases hr : x ∈ rowsOf pv
      · rw [if_pos hr, Int.zero_add] at this; exact this
      · rw [if_neg hr] at this
        have hz : M x j = 0 := by
          -- x is some σ k behind the pivots
          have : ∃ k, k < m ∧ σ k = x := by
            have hnd : ((List.range m).map σ).Nodup := by
              refine List.pairwise_map.2 (List.Pairwise.imp_of_mem ?_ (List.nodup_range (n := m)))
              intro a b ha hb hab e
              exact hab (h.inj a b (List.mem_range.1 ha) (List.mem_range.1 hb) e)
            have hperm := perm_of_subset hnd (m := List.range m) (fun y hy => by
              obtain ⟨k, hk, rfl⟩ := List.mem_map.1 hy
              exact List.mem_range.2 (h.lt k (List.mem_range.1 hk))) (by simp)
            obtain ⟨k, hk, e⟩ := List.mem_map.1 (hperm.mem_iff.2 (List.mem_range.2 hx))
            exact ⟨k, List.mem_range.1 hk, e⟩
          obtain ⟨k, hk, rfl⟩ := this
          have hkp : pv.length ≤ k := by
            rcases Nat.lt_or_ge k pv.length with h3 | h3
            · exact absurd (by rw [h.row]; exact List.mem_map.2 ⟨k, List.mem_range.2 h3, rfl⟩) hr
            · exact h3
          exact h.zero k hkp hk j (hall j hj)
        rw [hz, Int.zero_add] at this; exact this
    show (0 : Int) ∣ d * A x j - S (List.range pv.length) fun i => (if hi : i < pv.length then augF n A x pv[i].2 else 0) * M (σ i) j
    rw [h1]
    have h3 : (S pv fun q => augF n A x q.2 * M q.1 j) = S (List.range pv.length) fun i => (if hi : i < pv.length then augF n A x pv[i].2 else 0) * M (σ i) j := by
      have e : pv = (List.range pv.length).map fun i => if hi : i < pv.length then pv[i] else (0, 0) := by
        apply List.ext_getElem?
        intro i
        by_cases hi : i < pv.length
        · simp [hi]
        · rw [List.getElem?_eq_none (by omega), List.getElem?_eq_none (by simp; omega)]
      have e2 : (S pv fun q => augF n A x q.2 * M q.1 j) = S ((List.range pv.length).map fun i => if hi : i < pv.length then pv[i] else (0, 0)) fun q => augF n A x q.2 * M q.1 j := by
        conv => lhs; rw [e]
      rw [e2, S_map]
      refine S_congr fun i hi => ?_
      rw [List.mem_range] at hi
      simp only [dif_pos hi]
      rw [h.row_at hi]
    rw [h3, Int.sub_self]
    exact Int.dvd_zero _
end

theorem rank_exists (A : Nat → Nat → Int) (a n : Nat) : ∃ k, RankIs (fam a A) n k := by
  obtain ⟨σ, pv, M, d, h⟩ := solved_exists (augF n A) n a (List.range n) (fun c hc => List.mem_range.1 hc)
  exact ⟨_, (h.basis fun c hc => List.mem_range.2 hc).rank⟩
/-- The rank of a rows of n numbers. -/
noncomputable def rkF (a n : Nat) (A : Nat → Nat → Int) : Nat := Classical.choose (rank_exists A a n)
theorem rkF_is (a n : Nat) (A : Nat → Nat → Int) : RankIs (fam a A) n (rkF a n A) := Classical.choose_spec (rank_exists A a n)
theorem rkF_eq {a n k : Nat} {A : Nat → Nat → Int} (h : RankIs (fam a A) n k) : rkF a n A = k := (rkF_is a n A).unique h
theorem BasisOf.rkF {n a : Nat} {L Y : Nat → Nat → Int} {R : List Nat} {d : Int} (h : BasisOf n a L Y R d) : rkF a n L = R.length := rkF_eq h.rank
end Go.Proofs.Ytbclbcldplmppaa

/- Jams and loose shafts, by ranks and by solved equations. Plain Lean. -/
namespace Go.Proofs.Ytbclbcldplmppaa

def eU (i j : Nat) : Int := if j = i then 1 else 0
theorem eU_ne {i j : Nat} (h : j ≠ i) : eU i j = 0 := if_neg h
theorem eU_same (i : Nat) : eU i i = 1 := if_pos rfl
/-- A shaft's turns are 0 in each motion: its unit line is in the equations' span. -/
def isJam (m n : Nat) (A : Nat → Nat → Int) (i : Nat) : Prop := rkF (m + 1) n (snocF m A (eU i)) = rkF m n A
def isLoose (m n : Nat) (A : Nat → Nat → Int) (i o : Nat) : Prop := rkF (m + 1 + 1) n (snocF (m + 1) (snocF m A (eU i)) (eU o)) ≠ rkF (m + 1) n (snocF m A (eU i))

section
variable {A : Nat → Nat → Int} {n m : Nat} {cols : List Nat} {σ : Nat → Nat} {pv : List (Nat × Nat)} {M : Nat → Nat → Int} {d : Int}

theorem SolSt.rk (h : SolSt (augF n A) n m cols σ pv M d) (hall : ∀ c, c < n → c ∈ cols) : rkF m n A = pv.length := by
  rw [(h.basis hall).rkF, colsP_len]

/-- The row of the last column, if this is a pivot's. -/
theorem SolSt.row_last (h : SolSt (augF n A) n m cols σ pv M d) (hall : ∀ c, c < n → c ∈ cols) {c1 : List Nat} {i : Nat} (hc : cols = c1 ++ [i]) (hn : cols.Nodup) {q : Nat × Nat} (hq : q ∈ pv) (hi : q.2 = i) (c : Nat) (hcn : c < n) : M q.1 c = if c = i then d else 0 := by
  by_cases e : c = i
  · rw [if_pos e, e, ← hi]
    obtain ⟨pre, post, hp⟩ := List.append_of_mem hq
    exact h.bar.diag hp
  · rw [if_neg e]
    have h1 : c ∈ c1 := by
      have := hall c hcn
      rw [hc] at this
      rcases List.mem_append.1 this with h1 | h1
      · exact h1
      · simp at h1; exact absurd h1 e
    obtain ⟨k, hk, hk2⟩ := List.mem_iff_getElem.1 h1
    refine h.left hn q hq k c1.length c hk ?_ ?_
    · rw [hc, hi]; simp
    · rw [hc, List.getElem?_append_left hk, ← hk2]; simp [hk]
/-- The row of the last column but one. -/
theorem SolSt.row_before (h : SolSt (augF n A) n m cols σ pv M d) (hall : ∀ c, c < n → c ∈ cols) {c1 : List Nat} {o i : Nat} (hc : cols = c1 ++ [o, i]) (hn : cols.Nodup) {q : Nat × Nat} (hq : q ∈ pv) (ho : q.2 = o) (c : Nat) (hcn : c < n) (hci : c ≠ i) : M q.1 c = if c = o then d else 0 := by
  by_cases e : c = o
  · rw [if_pos e, e, ← ho]
    obtain ⟨pre, post, hp⟩ := List.append_of_mem hq
    exact h.bar.diag hp
  · rw [if_neg e]
    have h1 : c ∈ c1 := by
      have := hall c hcn
      rw [hc] at this
      rcases List.mem_append.1 this with h1 | h1
      · exact h1
      · simp at h1; rcases h1 with h1 | h1
        · exact absurd h1 e
        · exact absurd h1 hci
    obtain ⟨k, hk, hk2⟩ := List.mem_iff_getElem.1 h1
    refine h.left hn q hq k c1.length c hk ?_ ?_
    · rw [hc, ho]; simp
    · rw [hc, List.getElem?_append_left hk, ← hk2]; simp [hk]

theorem SolSt.span_row (h : SolSt (augF n A) n m cols σ pv M d) {q : Nat × Nat} (hq : q ∈ pv) : InSpan 0 n (colsP pv).length (fun i => M (σ i)) (M q.1) := by
  obtain ⟨k, hk, rfl⟩ := List.getElem_of_mem hq
  rw [h.row_at hk, colsP_len]
  exact InSpan.mem (Y := fun i => M (σ i)) hk

theorem dvd_zero_of {u v : Int} (h : u = v) : (0 : Int) ∣ u - v := by rw [h, Int.sub_self]; exact Int.dvd_zero _

theorem SolSt.jam (h : SolSt (augF n A) n m cols σ pv M d) (hall : ∀ c, c < n → c ∈ cols) {c1 : List Nat} {i : Nat} (hc : cols = c1 ++ [i]) (hn : cols.Nodup) (hi : i < n) : isJam m n A i ↔ i ∈ colsP pv := by
  have hb := h.basis hall
  unfold isJam
  rw [hb.rkF]
  constructor
  · intro hr
    refine Classical.byContradiction fun hno => ?_
    rw [(hb.add_out hi (e := eU i) (fun r hr => eU_ne fun e => hno (e ▸ hr)) (by rw [eU_same]; decide)).rkF] at hr
    simp at hr
  · intro hm
    obtain ⟨q, hq, hqi⟩ := List.mem_map.1 hm
    exact (hb.add_in (e := eU i) ((h.span_row hq).congr fun j hj => dvd_zero_of (by
      rw [h.row_last hall hc hn hq hqi j hj]
      unfold eU
      split <;> simp))).rkF
/-- A shaft that is free: the equations with it held. -/
theorem SolSt.held (h : SolSt (augF n A) n m cols σ pv M d) (hall : ∀ c, c < n → c ∈ cols) {i : Nat} (hi : i < n) (hno : i ∉ colsP pv) :
    BasisOf n (m + 1) (snocF m A (eU i)) (snocF (colsP pv).length (fun i => M (σ i)) (eU i)) (colsP pv ++ [i]) d :=
  (h.basis hall).add_out hi (e := eU i) (fun r hr => eU_ne fun e => hno (e ▸ hr)) (by rw [eU_same]; decide)

theorem SolSt.loose_same (h : SolSt (augF n A) n m cols σ pv M d) (hall : ∀ c, c < n → c ∈ cols) {i : Nat} (hi : i < n) (hno : i ∉ colsP pv) : ¬ isLoose m n A i i := by
  have hb := h.held hall hi hno
  unfold isLoose
  rw [hb.rkF, (hb.add_in (e := eU i) ?_).rkF]
  · exact fun h => h rfl
  · rw [List.length_append, List.length_singleton]
    have := InSpan.mem (m := 0) (n := n) (cnt := (colsP pv).length + 1) (Y := snocF (colsP pv).length (fun i => M (σ i)) (eU i)) (k := (colsP pv).length) (by omega)
    rw [snocF_at] at this
    exact (this.comb this d 0).congr fun j _ => dvd_zero_of (by rw [Int.zero_mul, Int.add_zero])
theorem SolSt.loose (h : SolSt (augF n A) n m cols σ pv M d) (hall : ∀ c, c < n → c ∈ cols) {c1 : List Nat} {o i : Nat} (hc : cols = c1 ++ [o, i]) (hn : cols.Nodup) (hi : i < n) (ho : o < n) (hoi : o ≠ i) (hno : i ∉ colsP pv) : isLoose m n A i o ↔ o ∉ colsP pv := by
  have hb := h.held hall hi hno
  unfold isLoose
  rw [hb.rkF]
  constructor
  · intro hr hm
    refine hr ?_
    obtain ⟨q, hq, hqo⟩ := List.mem_map.1 hm
    refine (hb.add_in (e := eU o) ?_).rkF
    rw [List.length_append, List.length_singleton]
    have h1 := (h.span_row hq).more (b := (colsP pv).length + 1) (L' := snocF (colsP pv).length (fun i => M (σ i)) (eU i)) (by omega) (fun x hx => snocF_lt hx)
    have h2 := InSpan.mem (m := 0) (n := n) (cnt := (colsP pv).length + 1) (Y := snocF (colsP pv).length (fun i => M (σ i)) (eU i)) (k := (colsP pv).length) (by omega)
    rw [snocF_at] at h2
    refine (h1.comb h2 1 (- M q.1 i)).congr fun j hj => dvd_zero_of ?_
    by_cases e : j = i
    · subst e
      unfold eU
      rw [if_neg (fun e => hoi e.symm), if_pos rfl]
      simp
      omega
    · rw [h.row_before hall hc hn hq hqo j hj e]
      unfold eU
      rw [if_neg e]
      split <;> simp
  · intro hno2 hr
    rw [(hb.add_out ho (e := eU o) (fun r hr => by
      unfold eU
      rw [if_neg]
      rcases List.mem_append.1 hr with h1 | h1
      · exact fun e => hno2 (e ▸ h1)
      · simp at h1; rw [h1]; exact fun e => hoi e.symm) (by unfold eU; rw [if_pos rfl]; decide)).rkF] at hr
    simp at hr
end
end Go.Proofs.Ytbclbcldplmppaa

/- The reference's Rank: the greatest of the ranks modulo three primes. -/
namespace Go.Proofs.Ytbclbcldplmppaa
open Go.RowKit

theorem prime_one {p : Nat} (h : 2 < p) : ¬ (p : Int) ∣ 1 := fun hd => by
  have := Int.le_of_dvd (by decide) hd
  omega

theorem p1_gt : 2 < p1 := by unfold p1; omega
theorem p2_gt : 2 < p2 := by unfold p2; omega
theorem p3_gt : 2 < p3 := by unfold p3; omega
theorem p1_le : p1 ≤ 2147483647 := by unfold p1; omega
theorem p2_le : p2 ≤ 2147483647 := by unfold p2; omega
theorem p3_le : p3 ≤ 2147483647 := by unfold p3; omega
theorem p1_int : ((p1 : Nat) : Int) = 2147483647 := by unfold p1; simp
theorem p2_int : ((p2 : Nat) : Int) = 2147483629 := by unfold p2; simp
theorem p3_int : ((p3 : Nat) : Int) = 2147483587 := by unfold p3; simp

/-- Lines with small numbers. -/
def SmallL (a n : Nat) (L : Nat → Nat → Int) : Prop := ∀ k, k < a → ∀ j, j < n → (L k j).natAbs ≤ 48

theorem ech_max {n a : Nat} {L M1 M2 M3 : Nat → Nat → Int} {v1 v2 v3 : List Nat} (hn : n ≤ 8) (hL : SmallL a n L) (h1 : Ech (p1 : Int) n a L M1 v1 n) (h2 : Ech (p2 : Int) n a L M2 v2 n) (h3 : Ech (p3 : Int) n a L M3 v3 n) :
    v1.length ≤ rkF a n L ∧ v2.length ≤ rkF a n L ∧ v3.length ≤ rkF a n L ∧ (v1.length = rkF a n L ∨ v2.length = rkF a n L ∨ v3.length = rkF a n L) := by
  have hk := rkF_is a n L
  have l1 := h1.rank_le (primeLike p1_prime) (prime_one p1_gt) hk
  have l2 := h2.rank_le (primeLike p2_prime) (prime_one p2_gt) hk
  have l3 := h3.rank_le (primeLike p3_prime) (prime_one p3_gt) hk
  refine ⟨l1, l2, l3, ?_⟩
  obtain ⟨V, R, hV, hl, hR, hRn, hne⟩ := hk.ex
  have hkn := hk.le
  have hb : ∀ v ∈ V, ∀ r ∈ R, (v r).natAbs ≤ 48 := fun v hv r hr => by
    obtain ⟨i, hi, rfl⟩ := fam_mem.1 (hV v hv)
    exact hL i hi r (hRn r hr)
  rcases three (hl.trans hR.symm) (by omega) hb hne with h | h | h
  · have := h1.rank_ge (primeLike p1_prime) (prime_one p1_gt) hV hRn h
    left; omega
  · have := h2.rank_ge (primeLike p2_prime) (prime_one p2_gt) hV hRn h
    right; left; omega
  · have := h3.rank_ge (primeLike p3_prime) (prime_one p3_gt) hV hRn h
    right; right; omega

set_option maxRecDepth 100000 in
set_option maxHeartbeats 2000000 in
theorem Rank_any (A : Option Addr) (cp n a : Nat) (L : Nat → Nat → Int) (w : World) (hA : LRow w A n a L) (hn0 : 0 < n) (hn : n ≤ 8) (ha : a ≤ 1000) (hL : SmallL a n L) :
    Calls Try.prog 68 #[.slice A a cp, .int .i64 n] w fun e w' => e = .returned (.int .i64 (rkF a n L : Int)) ∧ Ext w w' := by
  have c1 := fun (w' : World) (he : Ext w w') => rankOf_any A cp n a p1 L w' (hA.ext he) hn0 (by omega) ha p1_prime p1_gt p1_le
  have c2 := fun (w' : World) (he : Ext w w') => rankOf_any A cp n a p2 L w' (hA.ext he) hn0 (by omega) ha p2_prime p2_gt p2_le
  have c3 := fun (w' : World) (he : Ext w w') => rankOf_any A cp n a p3 L w' (hA.ext he) hn0 (by omega) ha p3_prime p3_gt p3_le
  rw [p1_int] at c1
  rw [p2_int] at c2
  rw [p3_int] at c3
  have C1 := Lib.hid c1
  have C2 := Lib.hid c2
  have C3 := Lib.hid c3
  clear c1 c2 c3 hA
  go_enter Try.func68, Try.ntmps68
  go_wp2_with (first
    | (go_at_call 97; (with_reducible refine (C1.out _ (Ext.refl _)).mono ?_); rintro e w1 ⟨v1, M1, rfl, x1, E1⟩)
    | (go_at_call 97; (with_reducible refine (C2.out _ x1).mono ?_); rintro e w2 ⟨v2, M2, rfl, x2, E2⟩)
    | (go_at_call 97; (with_reducible refine (C3.out _ (x1.trans x2)).mono ?_); rintro e w3 ⟨v3, M3, rfl, x3, E3⟩))
  all_goals
    obtain ⟨l1, l2, l3, l4⟩ := ech_max hn hL E1 E2 E3
    go_ret
    refine ⟨?_, x1.trans (x2.trans x3)⟩
    first
      | (have e : v3.length = rkF a n L := by (try split at h) <;> omega
         rw [← e]; rfl)
      | (have e : v2.length = rkF a n L := by (try split at h) <;> omega
         rw [← e]; rfl)
      | (have e : v1.length = rkF a n L := by (try split at h) <;> omega
         rw [← e]; rfl)
end Go.Proofs.Ytbclbcldplmppaa

/- 'append(l, x)', where l is read afterwards: what is old stays; regions whose other operations only read or make new memory. -/
namespace Go.Proofs.Ytbclbcldplmppaa
open Go.RowKit

/-- One line appended: the new slice, and the old one beside it. -/
theorem run_append_both {w : World} {base : Nat} {v : Value} {n : Nat} {xs : List Value} (ty : TypeId) (hown : w.ownsRow base 22 1 v n xs) {bs c : Nat} {x : Value} (hx : w.heap[bs]? = some (.cells #[x] 22)) (h1 : x.oneCell' = true) (hn : n ≤ 1000) (hbase : base ≤ w.heap.size) :
    ∃ v' w', (Builtin.append_ #[106, 106] ty #[v, .slice (some ⟨bs, 0, none⟩) 1 c]).run Try.prog w = .ok v' w' ∧ w'.ownsRow base 22 1 v' (n + 1) (xs ++ [x]) ∧ w'.ownsRow base 22 1 v n xs ∧ w.grownBy w' v.ownBlock ∧
      (v'.ownBlock = v.ownBlock ∨ v'.ownBlock = some w.heap.size ∧ ∀ k, k < w.heap.size → w'.heap[k]? = w.heap[k]?) := by
  obtain ⟨i, hi, hz0, hz1, hz2⟩ := slice_elem.info
  have hnews : ∀ j u, [x][j]? = some u → w.cell? ((⟨bs, 0, none⟩ : Addr).add j) = some u := fun j u hj => by
    have e : j = 0 := by
      have := (List.getElem?_eq_some_iff.1 hj).1
      simpa using this
    subst e
    have : (⟨bs, 0, none⟩ : Addr).add 0 = ⟨bs, 0, none⟩ := by simp [Addr.add]
    rw [this, cell_heap hx]
    simpa using hj
  have hone : ∀ u ∈ [x], u.oneCell' = true := fun u hu => by simp at hu; subst hu; exact h1
  have hbytes : (n + 1) * 24 ≤ 140737488355328 := by omega
  have h63 : n + 1 ≤ maxLen := by unfold maxLen; omega
  obtain ⟨v', w', hr, o1, o2, _, o4⟩ := run_append_own_at (P := Try.prog) w base 106 ty 22 i _ 1 24 Try.underlying106 hi hz0 hz1 hz2 slice_elem.zs slice_elem.pos v n xs hown ⟨bs, 0, none⟩ 1 c [x] rfl hnews hone h63 hbytes hbase
  rcases hown.2 with ⟨rfl, rfl⟩ | ⟨g, cap, cur, rfl, hbg, hg, hnc, hcm, hcs, htake⟩
  · have : xs = [] := List.eq_nil_of_length_eq_zero (by simpa using hown.1)
    subst this
    exact ⟨v', w', hr, o1, World.ownsRow_nil _ _ _ _, o2, o4.imp_right fun e => ⟨e, fun k hk => o2.block k hk (by simp [Value.ownBlock])⟩⟩
  · have hglt : g < w.heap.size := (Array.getElem?_eq_some_iff.1 hg).1
    by_cases hroom : n + 1 ≤ cap
    · have hr2 := run_append_room (P := Try.prog) w 106 ty 22 i Try.underlying106 hi g n cap cur hg ⟨bs, 0, none⟩ 1 c [x] (by rw [hz1]; rfl) hnews hone hroom (by rw [hz1, hcs]; simp; omega)
      rw [hr] at hr2
      injection hr2 with e1 e2
      subst e2
      have hlen := hown.1
      refine ⟨v', _, hr, o1, ?_, o2, .inl (by rw [e1]; rfl)⟩
      refine ⟨hown.1, .inr ⟨g, cap, _, rfl, hbg, setRow_heap w g cur _ _ _ hg, hnc, hcm, ?_, ?_⟩⟩
      · rw [hz1]
        simp only [List.size_toArray, List.length_append, List.length_take, List.length_drop, Array.length_toList, List.length_singleton]
        omega
      · rw [hz1, htake, List.append_assoc, ← hlen]
        exact List.take_left
    · have holds : ∀ j u, xs[j]? = some u → w.cell? ((⟨g, 0, none⟩ : Addr).add j) = some u := hown.cells (g := g) rfl
      have hr2 := run_append_grow (P := Try.prog) w 106 ty 22 i _ Try.underlying106 hi hz0 ⟨g, 0, none⟩ n cap xs (by rw [hz1]; exact hown.1) holds ⟨bs, 0, none⟩ 1 c [x] (by rw [hz1]; rfl) hnews (by omega) (by omega) (by rw [hz2]; exact growslice_fits (by omega) hbytes)
      rw [hr] at hr2
      injection hr2 with e1 e2
      subst e2
      refine ⟨v', _, hr, o1, ?_, o2, .inr ⟨by rw [e1]; rfl, fun k hk => heap_alloc_old w.drew _ hk⟩⟩
      exact ⟨hown.1, .inr ⟨g, cap, cur, rfl, hbg, (heap_alloc_old w.drew _ hglt).trans hg, hnc, hcm, hcs, htake⟩⟩

/-! ### The growth -/

/-- The cell behind the slice holds a line of the numbers xs, made since w0. -/
def GoodL (w0 : World) (v : Value) (n S : Nat) (xs : List Int) (w : World) : Prop := ∃ g h, v.ownBlock = some g ∧ w.cell? ⟨g, n, none⟩ = some (sl h S) ∧ w0.heap.size ≤ h ∧ w.heap[h]? = some (.cells (xs.map vint).toArray 3)

structure ApR (w0 : World) (v : Value) (n S : Nat) (cells : List Value) (xs : List Int) (base : Nat) (w w' : World) : Prop where
  gr : w.grownBy w' v.ownBlock
  own : w.ownsRow base 22 1 v n cells → w'.ownsRow base 22 1 v n cells
  good : w.heap.size ≥ w0.heap.size → GoodL w0 v n S xs w → GoodL w0 v n S xs w'

theorem grownBy_refl (w : World) (r : Option Nat) : w.grownBy w r := ⟨rfl, rfl, rfl, Nat.le_refl _, fun _ _ _ => rfl⟩
def apPre (w0 : World) (v : Value) (n S : Nat) (cells : List Value) (xs : List Int) (base : Nat) : Cf.Pre where
  R := ApR w0 v n S cells xs base
  refl _ := ⟨grownBy_refl _ _, fun h => h, fun _ h => h⟩
  trans h k := ⟨h.gr.trans k.gr, fun x => k.own (h.own x), fun hs x => k.good (Nat.le_trans hs h.gr.size) (h.good hs x)⟩
  drawn h _ := ⟨⟨h.gr.os, h.gr.tape, h.gr.output, h.gr.size, h.gr.block⟩, fun x => h.own x, fun hs x => h.good hs x⟩
  size h := h.gr.size

section
variable {w0 w w' : World} {v : Value} {n S : Nat} {cells : List Value} {xs : List Int} {base : Nat}
theorem Ext.grownBy (h : Ext w w') (r : Option Nat) : w.grownBy w' r := ⟨h.os, h.tape, h.output, h.le, fun k hk _ => h.block k hk⟩
/-- A call that only makes new memory. -/
theorem ApR.of_ext (h : Ext w w') : ApR w0 v n S cells xs base w w' := by
  refine ⟨h.grownBy _, fun ho => h.owns ho, fun hs hg => ?_⟩
  obtain ⟨g, hb, e, hc, h0, hh⟩ := hg
  exact ⟨g, hb, e, h.cell hc, h0, h.heap hh⟩
theorem ApR.ext {wb : World} (h : ApR w0 v n S cells xs base w0 w) (hb : Ext wb w0) (ho : w0.ownsRow base 22 1 v n cells) (hwb : wb.heap.size ≤ base) : Ext wb w :=
  hb.grown h.gr fun k hk => Nat.le_trans hwb (ho.lt k hk).1

/-- What the slice with the line more is. -/
def AppT (w0 : World) (v : Value) (n S : Nat) (cells : List Value) (xs : List Int) (v' : Value) (w : World) : Prop :=
  (∃ g c, v' = .slice (some ⟨g, 0, none⟩) (n + 1) c ∧ v.ownBlock = some g ∧ w0.heap.size ≤ w.heap.size ∧ GoodL w0 v n S xs w) ∨
  (∃ b c cur h, v' = .slice (some ⟨b, 0, none⟩) (n + 1) c ∧ some b ≠ v.ownBlock ∧ w.heap[b]? = some (.cells cur 22) ∧ cur.toList.take (n + 1) = cells ++ [sl h S] ∧ some h ≠ v.ownBlock ∧ w.heap[h]? = some (.cells (xs.map vint).toArray 3))
theorem AppT.stable {v' : Value} (hR : ApR w0 v n S cells xs base w w') (h : AppT w0 v n S cells xs v' w) : AppT w0 v n S cells xs v' w' := by
  rcases h with ⟨g, c, e, hg, hs, hgood⟩ | ⟨b, c, cur, h, e, hb, hh, ht, hne, hl⟩
  · exact .inl ⟨g, c, e, hg, Nat.le_trans hs hR.gr.size, hR.good hs hgood⟩
  · exact .inr ⟨b, c, cur, h, e, hb, (hR.gr.block b (Array.getElem?_eq_some_iff.1 hh).1 hb).trans hh, ht, hne, (hR.gr.block h (Array.getElem?_eq_some_iff.1 hl).1 hne).trans hl⟩

/-- The append itself. -/
theorem app_run {bs h c : Nat} (ty : TypeId) (hR : ApR w0 v n S cells xs base w0 w) (ho : w0.ownsRow base 22 1 v n cells) (hb0 : base ≤ w0.heap.size) (hn : n ≤ 1000) (hx : w.heap[bs]? = some (.cells #[sl h S] 22)) (h0 : w0.heap.size ≤ h) (hh : w.heap[h]? = some (.cells (xs.map vint).toArray 3)) :
    ∃ v' w', (Builtin.append_ #[106, 106] ty #[v, .slice (some ⟨bs, 0, none⟩) 1 c]).run Try.prog w = .ok v' w' ∧ ApR w0 v n S cells xs base w w' ∧ AppT w0 v n S cells xs v' w' := by
  have how := hR.own ho
  obtain ⟨v', w', hr, o1, o2, o3, o4⟩ := run_append_both ty how (c := c) hx rfl hn (Nat.le_trans hb0 hR.gr.size)
  have hvlt : ∀ k, v.ownBlock = some k → k < w0.heap.size := fun k hk => (ho.lt k hk).2
  have hne : some h ≠ v.ownBlock := fun e => by have := hvlt h e.symm; omega
  have hhlt := (Array.getElem?_eq_some_iff.1 hh).1
  have hh' : w'.heap[h]? = some (.cells (xs.map vint).toArray 3) := (o3.block h hhlt hne).trans hh
  have hlen : cells.length = n := by have := ho.1; omega
  rcases o1.2 with ⟨_, e⟩ | ⟨g, cap, cur, rfl, hbg, hg, hnc, hcm, hcs, htake⟩
  · omega
  · have hcn : w'.cell? ⟨g, n, none⟩ = some (sl h S) := by
      have := World.ownsRow.cellAt (w := w') (e := 22) o1 n (by omega)
      rw [this, List.getElem?_append_right (by omega), hlen]; simp
    refine ⟨_, w', hr, ⟨o3, fun _ => o2, fun hs hgood => ?_⟩, ?_⟩
    · obtain ⟨g2, h2, e1, e2, e3, e4⟩ := hgood
      have hh2 : w'.heap[h2]? = some (.cells (xs.map vint).toArray 3) := (o3.block h2 (Array.getElem?_eq_some_iff.1 e4).1 (fun e => by have := hvlt h2 e.symm; omega)).trans e4
      rcases o4 with e | ⟨_, e⟩
      · have e : some g = v.ownBlock := e
        rw [e1] at e
        have e : g = g2 := Option.some.inj e
        subst e
        exact ⟨g, h, e1, hcn, h0, hh'⟩
      · refine ⟨g2, h2, e1, ?_, e3, hh2⟩
        have hg2 : g2 < w0.heap.size := hvlt g2 e1
        exact (World.cell?_of_block (a := ⟨g2, n, none⟩) (e g2 (by omega))).trans e2
    · rcases o4 with e | ⟨e, _⟩
      · have e : some g = v.ownBlock := e
        exact .inl ⟨g, cap, rfl, e.symm, Nat.le_trans hR.gr.size o3.size, ⟨g, h, e.symm, hcn, h0, hh'⟩⟩
      · refine .inr ⟨g, cap, cur, h, rfl, ?_, hg, by simpa using htake, hne, hh'⟩
        have e : some g = some w.heap.size := e
        have e : g = w.heap.size := Option.some.inj e
        exact fun e2 => by have := hvlt g e2.symm; have := hR.gr.size; omega
end
end Go.Proofs.Ytbclbcldplmppaa

/- The reference's unit line. -/
namespace Go.Proofs.Ytbclbcldplmppaa
open Go.RowKit

set_option maxRecDepth 100000 in
theorem one_ref (n i : Nat) (w : World) (hi : i < n) (hn : n ≤ 1000) :
    Calls Try.prog 80 #[.int .i64 n, .int .i64 i] w fun e w' => ∃ g, e = .returned (sl g n) ∧ NewInts w w' g (unitL n i) := by
  go_enter Try.func80, Try.ntmps80
  have hii : (i : Int) < (n : Int) := by omega
  go_wp2_with (refine own_make (w1 := w) int_elem rfl _ _ rfl Try.underlying22 _ n rfl rfl (by omega) (by unfold maxLen; omega) (by simp) ?_; intro w2 hown hx; rw [made_ints] at hown; have hni := NewInts.of_own hown; have hc := hni.cell (k := i) (by simpa using hi); have hf := hni.free (by simp; unfold maxLen; omega) i)
  go_ret
  exact ⟨_, rfl, hni.store (by simp; unfold maxLen; omega) i 1⟩
end Go.Proofs.Ytbclbcldplmppaa

/- Lines to be read, out of lists of lines; their numbers are small. -/
namespace Go.Proofs.Ytbclbcldplmppaa
open Go.RowKit

theorem add_base (g k : Nat) : (⟨g, 0, none⟩ : Addr).add k = ⟨g, k, none⟩ := by unfold Addr.add; split <;> simp_all

theorem LRow.of_cells {w : World} {g S a : Nat} {h : Nat → Nat} {xs : Nat → List Int} (hc : ∀ k, k < a → w.cell? ⟨g, k, none⟩ = some (sl (h k) S)) (hl : ∀ k, k < a → w.heap[h k]? = some (.cells ((xs k).map vint).toArray 3) ∧ (xs k).length = S) :
    LRow w (some ⟨g, 0, none⟩) S a (fun k j => getI (xs k) j) := fun k hk => by
  obtain ⟨h1, h2⟩ := hl k hk
  refine ⟨_, _, _, rfl, fun w' he => by rw [add_base]; exact he.cell (hc k hk), fun j hj => ⟨_, rfl, fun w' he => ?_⟩⟩
  rw [add_base, cell_heap (he.heap h1)]
  simp [getI, show j < (xs k).length by omega]
theorem LRow.none (w : World) (A : Option Addr) (S : Nat) (L : Nat → Nat → Int) : LRow w A S 0 L := fun k hk => by omega
theorem LRow.congr {w : World} {A : Option Addr} {S a : Nat} {L L' : Nat → Nat → Int} (h : LRow w A S a L) (hL : ∀ k, k < a → ∀ j, j < S → L k j = L' k j) : LRow w A S a L' := fun k hk => by
  obtain ⟨ad, B, c, h1, h2, h3⟩ := h k hk
  exact ⟨ad, B, c, h1, h2, fun j hj => by
    obtain ⟨bd, e1, e2⟩ := h3 j hj
    exact ⟨bd, e1, fun w' he => by rw [e2 w' he, hL k hk j hj]⟩⟩

/-- The equations as a matrix. -/
def gearL (ms : List Msh) (S k j : Nat) : Int := getI (lineI ms S k) j
def gearLs (ms : List Msh) (S : Nat) : List (List Int) := ms.map fun x => facS x S
theorem gearLs_get {ms : List Msh} {S k : Nat} (h : k < (gearLs ms S).length) : (gearLs ms S)[k] = lineI ms S k := by
  have h' : k < ms.length := by simpa [gearLs] using h
  rw [lineI_eq h']
  simp [gearLs]
theorem gearLs_len (ms : List Msh) (S : Nat) : (gearLs ms S).length = ms.length := by simp [gearLs]

theorem getI_set_abs {L : List Int} {b : Nat} (h : ∀ j, (getI L j).natAbs ≤ b) (a : Nat) {v : Int} (hv : v.natAbs ≤ b) (j : Nat) : (getI (L.set a v) j).natAbs ≤ b := by
  have := h j
  unfold getI at *
  rw [List.getElem?_set]
  by_cases e : a = j
  · subst e
    by_cases hl : a < L.length
    · rw [if_pos rfl, if_pos hl]; exact hv
    · rw [if_pos rfl, if_neg hl]; simp
  · rw [if_neg e]; exact this
theorem getI_zeros (n b j : Nat) : (getI (List.replicate n 0) j).natAbs ≤ b := by
  unfold getI
  by_cases h : j < n
  · rw [List.getElem?_replicate, if_pos h]; simp
  · rw [List.getElem?_replicate, if_neg h]; simp
theorem facS_48 {x : Msh} {n : Nat} (h : validB x (n : Int) = true) (j : Nat) : (getI (facS x n) j).natAbs ≤ 48 := by
  have hv : validP x n := of_decide_eq_true h
  have ht : teethS x.kind = true → (1 ≤ x.n ∧ x.n ≤ 24) ∧ (1 ≤ x.m ∧ x.m ≤ 24) := fun e => by
    have := hv.2.2.2.2
    rwa [if_pos e] at this
  have h0 := getI_zeros n 48
  unfold facS
  split
  · rename_i h1
    have := ht (by simp [teethS, h1])
    exact getI_set_abs (getI_set_abs h0 _ (by omega)) _ (by omega) j
  split
  · rename_i _ h1
    have := ht (by simp [teethS, h1])
    exact getI_set_abs (getI_set_abs h0 _ (by omega)) _ (by omega) j
  split
  · exact getI_set_abs h0 _ (by decide) j
  split
  · exact getI_set_abs (getI_set_abs (getI_set_abs h0 _ (by decide)) _ (by decide)) _ (by decide) j
  split
  · rename_i h1
    have := ht (by simp [teethS, h1])
    exact getI_set_abs (getI_set_abs (getI_set_abs h0 _ (by omega)) _ (by omega)) _ (by omega) j
  · exact getI_set_abs (getI_set_abs h0 _ (by decide)) _ (by decide) j

theorem gearL_small {ms : List Msh} {S : Nat} (ht : trainP S ms) : SmallL ms.length S (gearL ms S) := fun k hk j _ => by
  unfold gearL
  rw [lineI_eq hk]
  exact facS_48 (ht.2.2.2 k hk) j
theorem SmallL.snoc {a n : Nat} {L : Nat → Nat → Int} (h : SmallL a n L) (i : Nat) : SmallL (a + 1) n (snocF a L (eU i)) := fun k hk j hj => by
  by_cases e : k = a
  · subst e
    rw [snocF_at]
    unfold eU
    split <;> decide
  · rw [snocF_lt (by omega)]; exact h k (by omega) j hj
theorem getI_unitL {n i j : Nat} (hj : j < n) : getI (unitL n i) j = eU i j := by
  unfold getI unitL eU
  rw [List.getElem?_set]
  by_cases e : i = j
  · subst e; simp [hj]
  · rw [if_neg e, if_neg (fun h => e h.symm)]
    simp [hj]

/-- A list of lines, as lines to be read. -/
theorem LMat.lrow {b w : World} {A : Option Addr} {k c S : Nat} {gs : List Nat} {ls : List (List Int)} (h : LMat b w (.slice A k c) S gs ls) : LRow w A S ls.length (fun i j => getI (ls.getD i []) j) := by
  rcases h.own.2.2 with ⟨e, hl⟩ | ⟨g, cap, cur, e, _, _, _, _, _, _⟩
  · rw [hl]; exact LRow.none _ _ _ _
  · injection e with e1 e2 e3
    subst e1
    refine LRow.of_cells (h := fun k => gs.getD k 0) (fun i hi => ?_) (fun i hi => ?_)
    · have hgi : i < gs.length := by have := h.gl; omega
      rw [h.own.cell (by simpa using hgi)]
      simp [hgi]
    · have hgi : i < gs.length := by have := h.gl; omega
      have := h.rows i hgi hi
      simp only [List.getD_eq_getElem?_getD, List.getElem?_eq_getElem hgi, List.getElem?_eq_getElem hi, Option.getD_some]
      exact ⟨this.1.2.2, this.2⟩

/-- After the append: the new slice's lines. -/
theorem AppT.lrow {b w0 w : World} {v v' : Value} {S base : Nat} {gs : List Nat} {ls : List (List Int)} {xs : List Int} (hm : LMat b w0 v S gs ls) (hb : b.heap.size = base) (hx : xs.length = S) (hR : ApR w0 v ls.length S (slL S gs) xs base w0 w) (hT : AppT w0 v ls.length S (slL S gs) xs v' w) :
    ∃ A c, v' = .slice A (ls.length + 1) c ∧ LRow w A S (ls.length + 1) (fun i j => getI (if i = ls.length then xs else ls.getD i []) j) := by
  subst hb
  have hgl := hm.gl
  have hrow : ∀ i, i < ls.length → w.heap[gs.getD i 0]? = some (.cells ((ls.getD i []).map vint).toArray 3) ∧ (ls.getD i []).length = S := fun i hi => by
    have hgi : i < gs.length := by omega
    have := hm.rows i hgi hi
    simp only [List.getD_eq_getElem?_getD, List.getElem?_eq_getElem hgi, List.getElem?_eq_getElem hi, Option.getD_some]
    exact ⟨(hR.gr.block _ this.1.lt (fun e => hm.apart this.1 e.symm)).trans this.1.2.2, this.2⟩
  have how := hR.own hm.own.2
  rcases hT with ⟨g, c, e, hg, _, hgood⟩ | ⟨bl, c, cur, h, e, hne, hh, ht, hne2, hl⟩
  · refine ⟨_, c, e, ?_⟩
    obtain ⟨g2, h2, e1, e2, e3, e4⟩ := hgood
    rw [hg] at e1
    have e1 := Option.some.inj e1
    subst e1
    refine LRow.of_cells (h := fun i => if i = ls.length then h2 else gs.getD i 0) (fun i hi => ?_) (fun i hi => ?_)
    · by_cases ei : i = ls.length
      · subst ei; rw [if_pos rfl]; exact e2
      · rw [if_neg ei]
        have hi' : i < gs.length := by omega
        rcases how.2 with ⟨ev, _⟩ | ⟨g', cap, cur, ev, _⟩
        · rw [ev] at hg; cases hg
        · rw [ev] at hg how
          have hg : g' = g := Option.some.inj hg
          subst hg
          have := World.ownsRow.cellAt (w := w) (e := 22) how i (by omega)
          rw [this]
          simp [hi']
    · by_cases ei : i = ls.length
      · subst ei; rw [if_pos rfl, if_pos rfl]; exact ⟨e4, hx⟩
      · rw [if_neg ei, if_neg ei]; exact hrow i (by omega)
  · refine ⟨_, c, e, ?_⟩
    refine LRow.of_cells (h := fun i => if i = ls.length then h else gs.getD i 0) (fun i hi => ?_) (fun i hi => ?_)
    · rw [cell_heap hh]
      have h1 : cur[i]? = (cur.toList.take (ls.length + 1))[i]? := by
        rw [List.getElem?_take, if_pos hi]; simp
      rw [h1, ht]
      by_cases ei : i = ls.length
      · subst ei
        rw [if_pos rfl, List.getElem?_append_right (by simp [hgl])]
        simp [hgl]
      · rw [if_neg ei, List.getElem?_append_left (by simp [hgl]; omega)]
        have hi' : i < gs.length := by omega
        simp [hi']
    · by_cases ei : i = ls.length
      · subst ei; rw [if_pos rfl, if_pos rfl]; exact ⟨hl, hx⟩
      · rw [if_neg ei, if_neg ei]; exact hrow i (by omega)
end Go.Proofs.Ytbclbcldplmppaa

/- The reference's Jammed. -/
namespace Go.Proofs.Ytbclbcldplmppaa
open Go.RowKit

noncomputable def jamB (m n : Nat) (L : Nat → Nat → Int) (i : Nat) : Bool := rkF (m + 1) n (snocF m L (eU i)) == rkF m n L

theorem LMat.lrow' {b w : World} {A : Option Addr} {k c S : Nat} {gs : List Nat} {ms : List Msh} (h : LMat b w (.slice A k c) S gs (gearLs ms S)) : LRow w A S ms.length (gearL ms S) := by
  have := h.lrow
  rw [gearLs_len] at this
  refine this.congr fun k hk j hj => ?_
  have hk' : k < (gearLs ms S).length := by rw [gearLs_len]; exact hk
  simp only [List.getD_eq_getElem?_getD, List.getElem?_eq_getElem hk', Option.getD_some]
  rw [gearLs_get]
  rfl
theorem app_lrow_gear {b w0 w : World} {v v' : Value} {S i m : Nat} {gs : List Nat} {ms : List Msh} (hm : LMat b w0 v S gs (gearLs ms S)) (hn : m = ms.length) (hR : ApR w0 v m S (slL S gs) (unitL S i) b.heap.size w0 w) (hT : AppT w0 v m S (slL S gs) (unitL S i) v' w) :
    ∃ A c, v' = .slice A (m + 1) c ∧ LRow w A S (m + 1) (snocF m (gearL ms S) (eU i)) := by
  rw [hn, ← gearLs_len ms S] at hR hT
  subst hn
  have hb : b.heap.size = b.heap.size := rfl
  obtain ⟨A, c, e, h⟩ := hT.lrow hm hb (unitL_length S i) hR
  rw [gearLs_len] at e h
  refine ⟨A, c, e, h.congr fun k hk j hj => ?_⟩
  by_cases ek : k = ms.length
  · subst ek
    rw [if_pos rfl, snocF_at, getI_unitL hj]
  · have hk' : k < (gearLs ms S).length := by rw [gearLs_len]; omega
    rw [if_neg ek, snocF_lt (by omega)]
    simp only [List.getD_eq_getElem?_getD, List.getElem?_eq_getElem hk', Option.getD_some]
    rw [gearLs_get]
    rfl

/-- The old list, after whatever has happened. -/
theorem LMat.apr {b w0 w : World} {v : Value} {S : Nat} {gs : List Nat} {ls : List (List Int)} {xs : List Int} {m : Nat} (hm : LMat b w0 v S gs ls) (hn : ls.length = m) (hR : ApR w0 v m S (slL S gs) xs b.heap.size w0 w) : LMat b w v S gs ls := by
  subst hn
  have hx : Ext b w := hR.ext hm.own.ext hm.own.2 (Nat.le_refl _)
  refine ⟨⟨hx, hR.own hm.own.2⟩, hm.gl, fun i h1 h2 => ?_⟩
  have h := hm.rows i h1 h2
  exact ⟨⟨hx, h.1.2.1, (hR.gr.block _ h.1.lt (fun e => hm.apart h.1 e.symm)).trans h.1.2.2⟩, h.2⟩

theorem AppT.form {w0 w : World} {v v' : Value} {n S : Nat} {cells : List Value} {xs : List Int} (h : AppT w0 v n S cells xs v' w) : ∃ A c, v' = .slice A (n + 1) c := by
  rcases h with ⟨g, c, e, _⟩ | ⟨b, c, _, _, e, _⟩
  · exact ⟨_, c, e⟩
  · exact ⟨_, c, e⟩
/-- A line of the numbers xs, made since w0. -/
def LineT (w0 : World) (S : Nat) (xs : List Int) (v : Value) (w : World) : Prop := ∃ h, v = sl h S ∧ w0.heap.size ≤ h ∧ w.heap[h]? = some (.cells (xs.map vint).toArray 3)

theorem exec_append {a : Act} {o : Oper} {w w' : World} {v v' x : Value} (s q : Operand) (t : TypeId) (ho : o.op = .call { callee := .builtin .append, args := #[s, q], argTypes := #[t, t] }) (hs : a.eval s = v) (hx : a.eval q = x) (hr : (Builtin.append_ #[t, t] o.type #[v, x]).run Try.prog w = .ok v' w') :
    (execOp a.eval o).run Try.prog w = .ok (.value v') w' := by
  unfold execOp
  simp only [ho, resolve, invoke, builtin, Sem.run_bind, Sem.run_pure, Result.andThen_ok, List.map_toArray, List.map_cons, List.map_nil, hs, hx, hr]

/-- What the region's calls hand back: a line, and two ranks. -/
def twoS (w1 : World) (S : Nat) (xs : List Int) (r1 r2 : Int) (j1 j2 j3 j : Nat) (v : Value) (w : World) : Prop := bif j == j1 then LineT w1 S xs v w else bif j == j2 then v = .int .i64 r1 else bif j == j3 then v = .int .i64 r2 else True
theorem twoS.stable {w1 w w' : World} {S : Nat} {xs : List Int} {r1 r2 : Int} {j1 j2 j3 j : Nat} {v : Value} (hn : ∀ k o, w1.heap.size ≤ k → w.heap[k]? = some o → w'.heap[k]? = some o) (h : twoS w1 S xs r1 r2 j1 j2 j3 j v w) : twoS w1 S xs r1 r2 j1 j2 j3 j v w' := by
  unfold twoS at h ⊢
  cases h1 : (j == j1)
  · rw [h1] at h; exact h
  · rw [h1] at h
    obtain ⟨h', e1, e2, e3⟩ := h
    exact ⟨h', e1, e2, hn _ _ e2 e3⟩

set_option maxRecDepth 100000 in
set_option maxHeartbeats 4000000 in
theorem jammed_ref (A : Option Addr) (c S i : Nat) (ms : List Msh) (w : World) (hA : MRow w A ms) (ht : trainP S ms) (hi : i < S) :
    Calls Try.prog 79 #[.agg #[.int .i64 S, .slice A ms.length c], .int .i64 i] w fun e w' => e = .returned (.bool (jamB ms.length S (gearL ms S) i)) ∧ Ext w w' := by
  have h8 : S ≤ 8 := by have := ht.2.1; omega
  have hS0 : 0 < S := by have := ht.1; omega
  have hl16 := ht.2.2.1
  have hsm := gearL_small ht
  have c1 := fun (w' : World) (he : Ext w w') => rows_ref A c S ms w' (hA.ext he) ht
  have C1 := Lib.hid c1
  have Hsm := Lib.hid hsm
  clear c1 hsm hA ht
  obtain ⟨m, hm⟩ : ∃ m, m = ms.length := ⟨_, rfl⟩
  rw [← hm] at hl16 C1 ⊢
  have Hm := Lib.hid hm
  clear hm
  go_enter Try.func79, Try.ntmps79
  have hexb : Ext w (w.alloc (.cells #[.int .i64 S, .slice A m c] 41)) := by simp
  have hp0 : ∀ w', Ext (w.alloc (.cells #[.int .i64 S, .slice A m c] 41)) w' → w'.cell? ⟨w.heap.size, 0, none⟩ = some (.int .i64 S) := fun w' he => he.cell (by simp)
  have hp1 : ∀ w', Ext (w.alloc (.cells #[.int .i64 S, .slice A m c] 41)) w' → w'.cell? ⟨w.heap.size, 1, none⟩ = some (.slice A m c) := fun w' he => he.cell (by simp)
  go_wp2_with (first
    | (go_at_call 69; refine (C1.out _ (by simp)).mono ?_; rintro e w1 ⟨v, gs, rfl, hmat⟩))
  generalize w.alloc (.cells #[.int .i64 S, .slice A m c] 41) = wb at *
  have hmat : LMat wb w1 v S gs (gearLs ms S) := hmat
  have hxb : Ext wb w1 := hmat.own.ext
  have hlen16 : (gearLs ms S).length ≤ 16 := by rw [gearLs_len, ← Hm.out]; exact hl16
  have hgl : (gearLs ms S).length = m := by rw [gearLs_len, Hm.out]
  obtain ⟨Av, cv, e⟩ := hmat.own.form
  subst e
  rw [hgl] at hmat ⊢
  have hown : w1.ownsRow wb.heap.size 22 1 (.slice Av m cv) m (slL S gs) := by
    have := hmat.own.2
    rwa [hgl] at this
  have hob : ∀ k, (Value.slice Av m cv).ownBlock = some k → k < w1.heap.size := fun k hk => (hown.lt k hk).2
  have hbR : ∀ w', ApR w1 (.slice Av m cv) m S (slL S gs) (unitL S i) wb.heap.size w1 w' → Ext wb w' := fun w' hR => hR.ext hxb hown (Nat.le_refl _)
  have hnew : ∀ (w' w'' : World) (k : Nat) (o : Obj), ApR w1 (.slice Av m cv) m S (slL S gs) (unitL S i) wb.heap.size w' w'' → w1.heap.size ≤ k → w'.heap[k]? = some o → w''.heap[k]? = some o := fun w' w'' k o hR hk ho =>
    (hR.gr.block _ (Array.getElem?_eq_some_iff.1 ho).1 (fun e => by have := hob _ e.symm; omega)).trans ho
  obtain ⟨r1, hr1⟩ : ∃ r1, r1 = rkF (m + 1) S (snocF m (gearL ms S) (eU i)) := ⟨_, rfl⟩
  obtain ⟨r2, hr2⟩ : ∃ r2, r2 = rkF m S (gearL ms S) := ⟨_, rfl⟩
  have Hr1 := Lib.hid hr1
  have Hr2 := Lib.hid hr2
  clear hr1 hr2
  have hstab : Cf.StableS (apPre w1 (.slice Av m cv) m S (slL S gs) (unitL S i) wb.heap.size) (fun j _ v w => twoS w1 S (unitL S i) r1 r2 4 9 13 j v w) := fun j _ v w' w'' hR h => twoS.stable (fun k o hk ho => hnew _ _ k o hR hk ho) h
  generalize w.heap.size = bx at *
  refine Cf.wp_region_calm (p := apPre w1 (.slice Av m cv) m S (slL S gs) (unitL S i) wb.heap.size) (fr := fun _ => false) 14 _ hstab (by kernel_rfl) (by kernel_rfl) ?_
  simp only [List.take_succ_cons, List.take_zero, List.drop_succ_cons, List.drop_zero]
  refine Cf.calm_quiet Cf.calm_mono_final wb hbR 4 (by kernel_rfl) ?_
  simp only [List.take_succ_cons, List.take_zero, List.drop_succ_cons, List.drop_zero]
  repeat (go_big_quiet_step (fail))
  refine wpQuiet_nil ?_
  refine Cf.calm_call Cf.calm_mono_final 80 #[.int .i64 S, .int .i64 i] rfl (fun w => ?_) (fun w' hR _ => ?_) ?_
  · go_simp
  · refine (one_ref S i w' hi (by omega)).mono fun e w'' h => ?_
    obtain ⟨g, rfl, hn⟩ := h
    exact ⟨_, rfl, ApR.of_ext hn.ext, (show LineT w1 S (unitL S i) (sl g S) w'' from ⟨g, rfl, Nat.le_trans hR.gr.size hn.2.1, hn.2.2⟩), fun hf => by cases hf⟩
  rintro v4 w4 _ hv4 _
  have hv4' : LineT w1 S (unitL S i) v4 w4 := hv4
  obtain ⟨h, rfl, hh0, _⟩ := hv4'
  clear hv4
  simp only [Act.put, List.setIfInBounds_toArray, List.set_cons_succ, List.set_cons_zero]
  refine Cf.calm_value Cf.calm_mono_final (fun v w => ∃ b, v = .slice (some ⟨b, 0, none⟩) 1 1 ∧ w1.heap.size ≤ b ∧ w.heap[b]? = some (.cells #[sl h S] 22)) (fun _ w' w'' hR ⟨b, e, hb, hh⟩ => ⟨b, e, hb, hnew _ _ _ _ hR hb hh⟩) rfl (fun w' hR _ => ⟨sl w'.heap.size 1, w'.alloc (.cells #[sl h S] 22), by go_simp, ApR.of_ext ((Ext.refl w').alloc _), ⟨_, rfl, hR.gr.size, heap_alloc_new _ _⟩, fun hf => by cases hf⟩) ?_
  rintro v5 _ _ ⟨bs, rfl, hbs, _⟩ _
  simp only [Act.put, List.setIfInBounds_toArray, List.set_cons_succ, List.set_cons_zero]
  refine Cf.calm_value Cf.calm_mono_final (fun v w => AppT w1 (.slice Av m cv) m S (slL S gs) (unitL S i) v w) (fun _ w' w'' hR hT => AppT.stable hR hT) rfl (fun w' hR hf => ?_) ?_
  · obtain ⟨b', eb, _, hb2⟩ := (hf 5 (by kernel_rfl)).2 rfl
    have hl4 : LineT w1 S (unitL S i) (sl h S) w' := (hf 4 (by kernel_rfl)).1.2 rfl
    obtain ⟨h', eh, _, hh2⟩ := hl4
    simp only [sl, Value.slice.injEq, Option.some.injEq, Addr.mk.injEq, and_true] at eb eh
    subst eb eh
    obtain ⟨v', w'', hr, hR2, hT⟩ := app_run (c := 1) 106 hR hown hxb.le (by omega) hb2 hh0 hh2
    exact ⟨v', w'', exec_append _ _ 106 rfl rfl rfl hr, hR2, hT, fun hf => by cases hf⟩
  rintro v6 w6 _ hT6 _
  obtain ⟨A6, c6, e6⟩ := hT6.form
  subst e6
  clear hT6
  simp only [Act.put, List.setIfInBounds_toArray, List.set_cons_succ, List.set_cons_zero]
  refine Cf.calm_quiet Cf.calm_mono_final wb hbR 2 (by kernel_rfl) ?_
  simp only [List.take_succ_cons, List.take_zero, List.drop_succ_cons, List.drop_zero]
  repeat (go_big_quiet_step (fail))
  refine wpQuiet_nil ?_
  refine Cf.calm_call Cf.calm_mono_final 68 #[.slice A6 (m + 1) c6, .int .i64 S] rfl (fun w => ?_) (fun w' hR hf => ?_) ?_
  · go_simp
  · have hT : AppT w1 (.slice Av m cv) m S (slL S gs) (unitL S i) (.slice A6 (m + 1) c6) w' := (hf 6 (by kernel_rfl)).2 rfl
    obtain ⟨A7, c7, e7, hl7⟩ := app_lrow_gear hmat Hm.out hR hT
    simp only [Value.slice.injEq, true_and] at e7
    obtain ⟨rfl, rfl⟩ := e7
    have hs7 : SmallL (m + 1) S (snocF m (gearL ms S) (eU i)) := by
      have := Hsm.out.snoc i
      rwa [← Hm.out] at this
    refine (Rank_any A6 c6 S (m + 1) _ w' hl7 hS0 h8 (by omega) hs7).mono fun e w'' h => ?_
    obtain ⟨rfl, hx⟩ := h
    exact ⟨_, rfl, ApR.of_ext hx, (show _ = _ by rw [Hr1.out]), fun hf => by cases hf⟩
  rintro v9 w9 _ hv9 _
  have hv9' : v9 = .int .i64 r1 := hv9
  subst hv9'
  clear hv9
  simp only [Act.put, List.setIfInBounds_toArray, List.set_cons_succ, List.set_cons_zero]
  refine Cf.calm_quiet Cf.calm_mono_final wb hbR 3 (by kernel_rfl) ?_
  simp only [List.take_succ_cons, List.take_zero, List.drop_succ_cons, List.drop_zero]
  repeat (go_big_quiet_step (fail))
  refine wpQuiet_nil ?_
  refine Cf.calm_call Cf.calm_mono_final 68 #[.slice Av m cv, .int .i64 S] rfl (fun w => ?_) (fun w' hR hf => ?_) ?_
  · go_simp
  · have hl8 := (hmat.apr hgl hR).lrow'
    rw [← Hm.out] at hl8
    have hs8 : SmallL m S (gearL ms S) := by
      have := Hsm.out
      rwa [← Hm.out] at this
    refine (Rank_any Av cv S m _ w' hl8 hS0 h8 (by omega) hs8).mono fun e w'' h => ?_
    obtain ⟨rfl, hx⟩ := h
    exact ⟨_, rfl, ApR.of_ext hx, (show _ = _ by rw [Hr2.out]), fun hf => by cases hf⟩
  rintro v13 w13 _ hv13 _
  have hv13' : v13 = .int .i64 r2 := hv13
  subst hv13'
  clear hv13
  simp only [Act.put, List.setIfInBounds_toArray, List.set_cons_succ, List.set_cons_zero]
  refine Cf.calm_nil fun w3 he3 hF => ?_
  clear hF
  have hx3 := hexb.trans (hbR w3 he3)
  go_wp2
  go_ret
  refine ⟨?_, hx3⟩
  have hb : ((r1 : Int) == (r2 : Int)) = jamB m S (gearL ms S) i := by
    rw [Bool.eq_iff_iff]
    unfold jamB
    rw [← Hr1.out, ← Hr2.out, beq_iff_eq, beq_iff_eq]
    omega
  rw [← hb]
  rfl
end Go.Proofs.Ytbclbcldplmppaa

/- The clutches that slip: a search, written plainly. No program in sight. -/
namespace Go.Proofs.Ytbclbcldplmppaa
open Go.RowKit

def isCl (ms : List Msh) (i : Nat) : Bool := match ms[i]? with
  | some x => x.kind == 7
  | none => false
/-- The clutches from a mesh on. -/
def clF (ms : List Msh) (k : Nat) : List Nat := (List.range' k (ms.length - k)).filter (isCl ms)
theorem clF_end {ms : List Msh} {k : Nat} (h : ms.length ≤ k) : clF ms k = [] := by
  unfold clF
  rw [show ms.length - k = 0 by omega]; rfl
theorem clF_step {ms : List Msh} {k : Nat} (h : k < ms.length) : clF ms k = if isCl ms k = true then k :: clF ms (k + 1) else clF ms (k + 1) := by
  unfold clF
  rw [show ms.length - k = (ms.length - (k + 1)) + 1 by omega, List.range'_succ, List.filter_cons]
theorem isCl_at {ms : List Msh} {k : Nat} (h : k < ms.length) : isCl ms k = (ms[k].kind == 7) := by
  unfold isCl; rw [List.getElem?_eq_getElem h]
theorem clF_take {ms : List Msh} {k : Nat} (h : k < ms.length) (hk : ms[k].kind = 7) : clF ms k = k :: clF ms (k + 1) := by
  rw [clF_step h, isCl_at h, hk]; simp
theorem clF_skip {ms : List Msh} {k : Nat} (h : k < ms.length) (hk : ¬ ms[k].kind = 7) : clF ms k = clF ms (k + 1) := by
  rw [clF_step h, isCl_at h]; simp [hk]
theorem clF_len (ms : List Msh) (k : Nat) : (clF ms k).length ≤ ms.length - k := by
  unfold clF
  have := List.length_filter_le (isCl ms) (List.range' k (ms.length - k))
  rwa [List.length_range'] at this
theorem clF_lt {ms : List Msh} {k c : Nat} (h : c ∈ clF ms k) : c < ms.length := by
  have := (List.mem_filter.1 h).1
  rw [List.mem_range'_1] at this
  omega
/-- The clutches before a mesh. -/
def clP (ms : List Msh) (k : Nat) : List Nat := (List.range k).filter (isCl ms)
theorem clP_take {ms : List Msh} {k : Nat} (h : k < ms.length) (hk : ms[k].kind = 7) : clP ms (k + 1) = clP ms k ++ [k] := by
  unfold clP
  rw [List.range_succ, List.filter_append]
  simp [isCl_at h, hk]
theorem clP_skip {ms : List Msh} {k : Nat} (h : k < ms.length) (hk : ¬ ms[k].kind = 7) : clP ms (k + 1) = clP ms k := by
  unfold clP
  rw [List.range_succ, List.filter_append]
  simp [isCl_at h, hk]
theorem clP_all (ms : List Msh) : clP ms ms.length = clF ms 0 := by
  unfold clP clF
  rw [List.range_eq_range']; rfl

/-- The first set of so many more, of those in the list, that J does not bar. -/
def chooseL (J : List Nat → Bool) : List Nat → Nat → List Nat → Option (List Nat)
  | [], 0, set => if J set = true then none else some set
  | _ :: _, 0, set => if J set = true then none else some set
  | [], _ + 1, _ => none
  | c :: cs, n + 1, set => match chooseL J cs n (set ++ [c]) with
    | some r => some r
    | none => chooseL J cs (n + 1) set
variable {J : List Nat → Bool}
theorem chooseL_zero (l set : List Nat) : chooseL J l 0 set = if J set = true then none else some set := by cases l <;> rfl
theorem chooseL_nil (n : Nat) (set : List Nat) : chooseL J [] (n + 1) set = none := rfl
theorem chooseL_some {c : Nat} {cs : List Nat} {n : Nat} {set r : List Nat} (h : chooseL J cs n (set ++ [c]) = some r) : chooseL J (c :: cs) (n + 1) set = some r := by
  simp only [chooseL, h]
theorem chooseL_none {c : Nat} {cs : List Nat} {n : Nat} {set : List Nat} (h : chooseL J cs n (set ++ [c]) = none) : chooseL J (c :: cs) (n + 1) set = chooseL J cs (n + 1) set := by
  simp only [chooseL, h]
theorem chooseL_few : ∀ (l : List Nat) (n : Nat) (set : List Nat), l.length < n → chooseL J l n set = none
  | [], n + 1, set, _ => rfl
  | c :: cs, n + 1, set, h => by
    simp only [List.length_cons] at h
    rw [chooseL_none (chooseL_few cs n _ (by omega)), chooseL_few cs (n + 1) set (by omega)]
theorem chooseL_mem : ∀ (l : List Nat) (n : Nat) (set r : List Nat), chooseL J l n set = some r → (∀ x ∈ r, x ∈ set ∨ x ∈ l) ∧ r.length = set.length + n ∧ J r = false
  | l, 0, set, r, h => by
    rw [chooseL_zero] at h
    split at h
    · cases h
    · injection h with h
      subst h
      refine ⟨fun x hx => .inl hx, rfl, ?_⟩
      rename_i hj
      simpa using hj
  | [], n + 1, set, r, h => by cases h
  | c :: cs, n + 1, set, r, h => by
    cases h1 : chooseL J cs n (set ++ [c]) with
    | some r' =>
      rw [chooseL_some h1] at h
      injection h with h
      subst h
      obtain ⟨a, b, d⟩ := chooseL_mem cs n _ _ h1
      refine ⟨fun x hx => ?_, by rw [b, List.length_append, List.length_singleton]; omega, d⟩
      rcases a x hx with h2 | h2
      · rcases List.mem_append.1 h2 with h3 | h3
        · exact .inl h3
        · simp at h3; exact .inr (by simp [h3])
      · exact .inr (List.mem_cons_of_mem _ h2)
    | none =>
      rw [chooseL_none h1] at h
      obtain ⟨a, b, d⟩ := chooseL_mem cs (n + 1) _ _ h
      refine ⟨fun x hx => ?_, b, d⟩
      rcases a x hx with h2 | h2
      · exact .inl h2
      · exact .inr (List.mem_cons_of_mem _ h2)

def natI (l : List Nat) : List Int := l.map fun (k : Nat) => (k : Int)
theorem natI_snoc (l : List Nat) (k : Nat) : natI (l ++ [k]) = natI l ++ [(k : Int)] := by simp [natI]
theorem natI_len (l : List Nat) : (natI l).length = l.length := by simp [natI]
/-- The meshes without a set. -/
def offL (ms : List Msh) (set : List Nat) : List Msh := keepL (natI set) ms ms.length
/-- Whether a shaft is jammed without a set. -/
noncomputable def jamO (ms : List Msh) (S i : Nat) (set : List Nat) : Bool := jamB (offL ms set).length S (gearL (offL ms set) S) i
noncomputable def slipN (ms : List Msh) (S i n : Nat) : Option (List Nat) := chooseL (jamO ms S i) (clF ms 0) n []
noncomputable def slipO (ms : List Msh) (S i : Nat) : Option (List Nat) := (List.range (ms.length + 1)).findSome? (slipN ms S i)
theorem findSome_range {f : Nat → Option (List Nat)} {n : Nat} {r : List Nat} : ∀ {m : Nat}, n ≤ m → (∀ k, k < n → f k = none) → f n = some r → (List.range (m + 1)).findSome? f = some r
  | m, hm, hno, h => by
    have e : List.range (m + 1) = List.range n ++ List.range' n (m + 1 - n) := by
      have h0 := @List.range'_append_1 0 n (m + 1 - n)
      rw [Nat.zero_add] at h0
      rw [List.range_eq_range', List.range_eq_range', h0]
      congr 1
      omega
    rw [e, List.findSome?_append, show m + 1 - n = (m - n) + 1 by omega, List.range'_succ, List.findSome?_cons, h]
    rw [List.findSome?_eq_none_iff.2 (fun x hx => hno x (List.mem_range.1 hx))]
    rfl
theorem slipO_some {ms : List Msh} {S i n : Nat} {r : List Nat} (hn : n ≤ ms.length) (hno : ∀ k, k < n → slipN ms S i k = none) (h : slipN ms S i n = some r) : slipO ms S i = some r := findSome_range hn hno h
theorem slipO_none {ms : List Msh} {S i : Nat} (hno : ∀ k, k ≤ ms.length → slipN ms S i k = none) : slipO ms S i = none :=
  List.findSome?_eq_none_iff.2 fun x hx => hno x (by have := List.mem_range.1 hx; omega)
theorem slipO_none' {ms : List Msh} {S i : Nat} (hno : ∀ k, k ≤ (clF ms 0).length → slipN ms S i k = none) : slipO ms S i = none :=
  slipO_none fun k hk => by
    by_cases h : k ≤ (clF ms 0).length
    · exact hno k h
    · exact chooseL_few _ _ _ (by omega)

theorem keepL_mem {all : List Int} {ms : List Msh} {x : Msh} : ∀ {k : Nat}, x ∈ keepL all ms k → x ∈ ms
  | 0, h => by cases h
  | k + 1, h => by
    unfold keepL at h
    rcases List.mem_append.1 h with h | h
    · exact keepL_mem h
    · split at h
      · cases h
      · have := Option.mem_toList.1 h
        exact List.mem_of_getElem? this
theorem offL_train {S : Nat} {ms : List Msh} (h : trainP S ms) (set : List Nat) : trainP S (offL ms set) := by
  refine ⟨h.1, h.2.1, Nat.le_trans (keepL_le _ _ _) h.2.2.1, fun k hk => ?_⟩
  have hm := keepL_mem (List.getElem_mem hk)
  obtain ⟨j, hj, e⟩ := List.getElem_of_mem hm
  rw [← e]
  exact h.2.2.2 j hj

/-- The error of a train and shafts. -/
def askE (s : Int) (ms : List Msh) (l : List Int) : Int := if trainB s ms = true then if (∀ x ∈ l, 0 ≤ x ∧ x < s) then 0 else 2 else 40
def slipE (s : Int) (ms : List Msh) (i : Int) : Int := askE s ms [i]
noncomputable def slipX (s : Int) (ms : List Msh) (i : Int) : Int := if askE s ms [i] = 0 then (if (slipO ms s.toNat i.toNat).isSome = true then 0 else 6) else askE s ms [i]
noncomputable def slipL (s : Int) (ms : List Msh) (i : Int) : List Int := if askE s ms [i] = 0 then natI ((slipO ms s.toNat i.toNat).getD []) else []
end Go.Proofs.Ytbclbcldplmppaa

/- The errors of a train and shafts, both sides. -/
namespace Go.Proofs.Ytbclbcldplmppaa
open Go.RowKit

theorem askE_bad {s : Int} {ms : List Msh} {l : List Int} (h : trainB s ms = false) : askE s ms l = 40 := by unfold askE; rw [h, if_neg (by decide)]
theorem askE_ok {s : Int} {ms : List Msh} {l : List Int} (h : trainB s ms = true) (hl : ∀ x ∈ l, 0 ≤ x ∧ x < s) : askE s ms l = 0 := by unfold askE; rw [h, if_pos rfl, if_pos hl]
theorem askE_out {s : Int} {ms : List Msh} {l : List Int} (h : trainB s ms = true) {x : Int} (hx : x ∈ l) (ho : ¬ (0 ≤ x ∧ x < s)) : askE s ms l = 2 := by unfold askE; rw [h, if_pos rfl, if_neg (fun h => ho (h x hx))]
theorem askE_at {s : Int} {ms : List Msh} {l : List Int} (h : trainB s ms = true) {k : Nat} (hk : k < l.length) (ho : ¬ (0 ≤ getI l k ∧ getI l k < s)) : askE s ms l = 2 :=
  askE_out h (x := getI l k) (by rw [getI_eq hk]; exact List.getElem_mem hk) ho
theorem askE_all {s : Int} {ms : List Msh} {l : List Int} (h : trainB s ms = true) (ho : ∀ k, k < l.length → 0 ≤ getI l k ∧ getI l k < s) : askE s ms l = 0 :=
  askE_ok h fun x hx => by
    obtain ⟨k, hk, e⟩ := List.getElem_of_mem hx
    have := ho k hk
    rwa [getI_eq hk, e] at this

set_option maxRecDepth 100000 in
set_option maxHeartbeats 2000000 in
theorem asked_any (A : Option Addr) (c : Nat) (s : Int) (ms : List Msh) (B : Option Addr) (d : Nat) (l : List Int) (w : World) (hA : MRow w A ms) (hl : ms.length ≤ 1000000) (hB : Ints w B l) (hl2 : l.length ≤ 1000000) :
    Calls Try.prog 73 #[.agg #[.int .i64 s, .slice A ms.length c], .slice B l.length d] w fun e w' => e = .returned (.int .i64 (askE s ms l)) ∧ Ext w w' := by
  have c0 := fun (w' : World) (he : Ext w w') => check_any A c s ms w' (hA.ext he) hl
  have hb := fun (k : Nat) (hk : k < l.length) => hB.some_ (by omega)
  have Hb := Lib.hid hb
  clear hb hB
  cases hT : trainB s ms
  case false =>
    have e2 : trainE s ms = 40 := by unfold trainE; rw [hT, if_neg (by decide)]
    rw [askE_bad hT]
    rw [e2] at c0
    have C0 := Lib.hid c0
    clear c0 e2 hA hT Hb
    generalize ms.length = m at *
    generalize l.length = n at *
    go_enter Try.func73, Try.ntmps73
    go_wp2_with (first
      | (go_at_call 24; refine (C0.out _ (by simp)).mono ?_; rintro e w1 ⟨rfl, hx1⟩))
    go_ret
    exact ⟨rfl, Ext.trans (by simp) hx1⟩
  case true =>
    have e2 : trainE s ms = 0 := by unfold trainE; rw [hT, if_pos rfl]
    have hbad := fun (k : Nat) (hk : k < l.length) => askE_at (l := l) hT hk
    have hgood := askE_all (l := l) hT
    rw [e2] at c0
    have C0 := Lib.hid c0
    have Hbad := Lib.hid hbad
    have Hgood := Lib.hid hgood
    clear c0 e2 hA hT hbad hgood
    generalize askE s ms l = res at *
    generalize ms.length = m at *
    generalize l.length = n at *
    go_enter Try.func73, Try.ntmps73
    have hexb : Ext w (w.alloc (.cells #[.int .i64 s, .slice A m c] 41)) := by simp
    have hp0 : ∀ w', Ext (w.alloc (.cells #[.int .i64 s, .slice A m c] 41)) w' → w'.cell? ⟨w.heap.size, 0, none⟩ = some (.int .i64 s) := fun w' he => he.cell (by simp)
    go_wp2_with (first
      | (go_at_call 24; refine (C0.out _ (by simp)).mono ?_; rintro e w1 ⟨rfl, hx1⟩))
    generalize w.alloc (.cells #[.int .i64 s, .slice A m c] 41) = wb0 at *
    have hp0 := hp0 w1 hx1
    have hexw : Ext w w1 := hexb.trans hx1
    generalize w.heap.size = bx at *
    clear hexb hx1 C0
    go_loop [15, 7] (fun i _ => ∃ k : Nat, k ≤ n ∧ i = .int .i64 k ∧ ∀ j, j < k → 0 ≤ getI l j ∧ getI l j < s) (fun i _ => n - (intOf i).toNat)
    case atStart => exact ⟨0, by omega, rfl, fun j hj => by omega⟩
    case round =>
      obtain ⟨k, hk, rfl, hall⟩ := hrel
      by_cases hlt : k < n
      · obtain ⟨ad, rfl, hcell⟩ := Hb.out k hlt
        have hck := hcell k hlt w1 hexw
        have hbad := Hbad.out k hlt
        have hstep : 0 ≤ getI l k ∧ getI l k < s → ∀ j, j < k + 1 → 0 ≤ getI l j ∧ getI l j < s := fun h j hj => by
          by_cases e : j = k
          · subst e; exact h
          · exact hall j (by omega)
        have Hst := Lib.hid hstep
        have Hbad' := Lib.hid hbad
        clear hstep hbad hall hcell Hbad Hgood Hb
        generalize getI l k = y at *
        cases d1 : decide (y < 0)
        · cases d2 : decide (s ≤ y)
          · have h1 : 0 ≤ y := by simpa using d1
            have h2 : y < s := by simpa using d2
            go_wp2
            go_round
            case rel => exact ⟨k + 1, by omega, by go_num, Hst.out ⟨h1, h2⟩⟩
            case measure => simp [intOf]; omega
          · have h2 : s ≤ y := by simpa using d2
            go_wp2
            go_ret
            exact ⟨ret_i (Hbad'.out (by omega)).symm, hexw⟩
        · have h1 : y < 0 := by simpa using d1
          go_wp2
          go_ret
          exact ⟨ret_i (Hbad'.out (by omega)).symm, hexw⟩
      · obtain rfl : k = n := by omega
        have H0 := Lib.hid (Hgood.out hall)
        clear hall Hgood Hbad Hb
        go_wp2
        go_ret
        exact ⟨ret_i H0.out.symm, hexw⟩

set_option maxRecDepth 100000 in
set_option maxHeartbeats 2000000 in
theorem asked_ref (A : Option Addr) (c : Nat) (s : Int) (ms : List Msh) (i o : Int) (w : World) (hA : MRow w A ms) (hl : ms.length ≤ 1000000) :
    Calls Try.prog 35 #[.agg #[.int .i64 s, .slice A ms.length c], .int .i64 i, .int .i64 o] w fun e w' => e = .returned (.int .i64 (askE s ms [i, o])) ∧ Ext w w' := by
  have c0 := fun (w' : World) (he : Ext w w') => train_ref A c s ms w' (hA.ext he) hl
  cases hT : trainB s ms
  case false =>
    rw [askE_bad hT]
    rw [hT] at c0
    have C0 := Lib.hid c0
    clear c0 hA hT
    generalize ms.length = m at *
    go_enter Try.func35, Try.ntmps35
    go_wp2_with (first
      | (go_at_call 45; refine (C0.out _ (by simp)).mono ?_; rintro e w1 ⟨rfl, hx1⟩))
    go_ret
    exact ⟨rfl, Ext.trans (by simp) hx1⟩
  case true =>
    have hs : 1 ≤ s ∧ s ≤ 8 := by
      have h : trainP s ms := of_decide_eq_true hT
      exact ⟨h.1, h.2.1⟩
    have hb1 : withinB i 0 (s - 1) = false → askE s ms [i, o] = 2 := fun h => askE_out hT (x := i) (by simp) (by have := withinB_false.1 h; omega)
    have hb2 : withinB o 0 (s - 1) = false → askE s ms [i, o] = 2 := fun h => askE_out hT (x := o) (by simp) (by have := withinB_false.1 h; omega)
    have hg : withinB i 0 (s - 1) = true → withinB o 0 (s - 1) = true → askE s ms [i, o] = 0 := fun h1 h2 => askE_ok hT (by have := withinB_true.1 h1; have := withinB_true.1 h2; intro x hx; simp at hx; rcases hx with rfl | rfl <;> omega)
    have e1 : IntKind.i64.wrap (s - 1) = s - 1 := by rw [IntKind.wrap_i64]; omega
    rw [hT] at c0
    have C0 := Lib.hid c0
    have Hb1 := Lib.hid hb1
    have Hb2 := Lib.hid hb2
    have Hg := Lib.hid hg
    clear c0 hA hT hb1 hb2 hg hs
    generalize askE s ms [i, o] = res at *
    generalize ms.length = m at *
    cases w1 : withinB i 0 (s - 1)
    all_goals cases w2 : withinB o 0 (s - 1)
    all_goals
      go_enter Try.func35, Try.ntmps35
      have hexb : Ext w (w.alloc (.cells #[.int .i64 s, .slice A m c] 41)) := by simp
      have hp0 : ∀ w', Ext (w.alloc (.cells #[.int .i64 s, .slice A m c] 41)) w' → w'.cell? ⟨w.heap.size, 0, none⟩ = some (.int .i64 s) := fun w' he => he.cell (by simp)
      go_wp2_with (first
        | (go_at_call 45; refine (C0.out _ (by simp)).mono ?_; rintro e wv ⟨rfl, hx1⟩; have hp0' := hp0 wv hx1)
        | (go_at_call 54; refine (within_any _ _ _ _).mono ?_; rintro e w' ⟨rfl, rfl⟩))
      go_ret
      refine ⟨ret_i ?_, Ext.trans (by simp) hx1⟩
      first
        | exact (Hb1.out w1).symm
        | exact (Hb2.out w2).symm
        | exact (Hg.out w1 w2).symm
end Go.Proofs.Ytbclbcldplmppaa

/- Appending numbers: what is old stays; a growth under which the own slices of certain numbers stay. No program in sight but the table of types. -/
namespace Go.Proofs.Ytbclbcldplmppaa
open Go.RowKit

theorem Ints.src {w : World} {A : Option Addr} {xs : List Int} (h : Ints w A xs) (c : Nat) : Src Try.prog 1 22 (.slice A xs.length c) xs.length (xs.map vint) w := by
  cases A with
  | none =>
    cases xs with
    | nil => exact Src.ofNil w Try.underlying22 c
    | cons x xs =>
      obtain ⟨ad, e, _⟩ := h 0 (by simp)
      cases e
  | some a =>
    refine Src.ofSlice w Try.underlying22 a _ c _ (by simp) (fun j u hu => ?_) (fun u hu => ?_)
    · obtain ⟨ad, e, hc⟩ := h j (List.getElem?_eq_some_iff.1 hu).1
      rw [Option.some.inj e, hc, hu]
    · obtain ⟨x, _, rfl⟩ := List.mem_map.1 hu
      rfl

/-- The own row that a new block holds. -/
theorem own_newRow {w : World} {base : Nat} (hb : base ≤ w.heap.size) (xs : List Value) (n cap : Nat) (hn : n = xs.length) (hc : n ≤ cap) (hm : cap ≤ maxLen) (pad : Array Value) (hp : pad.size = cap - n) :
    (w.alloc (.cells (xs.toArray ++ pad) 3)).ownsRow base 3 1 (.slice (some ⟨w.heap.size, 0, none⟩) n cap) n xs := by
  subst hn
  refine ⟨by simp, .inr ⟨w.heap.size, cap, xs.toArray ++ pad, rfl, hb, heap_alloc_new w _, hc, hm, ?_, ?_⟩⟩
  · simp only [Array.size_append, List.size_toArray, hp]; omega
  · simp

/-- 'append([]int{}, l...)' and 'append(l[:n:n], x)': new memory. -/
theorem app_new {w : World} {A : Option Addr} {xs ys : List Int} {n m : Nat} (x : Value) (ty : TypeId) (h : Ints w A xs) (hn : xs.length = n) (hs : Src Try.prog 1 22 x m (ys.map vint) w) (hm : 0 < m) (hl : n + m ≤ 1000000) :
    ∃ g cap w', (Builtin.append_ #[22, 22] ty #[.slice A n n, x]).run Try.prog w = .ok (.slice (some ⟨g, 0, none⟩) (n + m) cap) w' ∧ Ext w w' ∧ w.heap.size = g ∧ OwnI w w' (.slice (some ⟨g, 0, none⟩) (n + m) cap) (xs ++ ys) := by
  obtain ⟨i, hi, hz0, hz1, hz2⟩ := int_elem.info
  have hlen : ys.length = m := by have := hs.newsLen; simpa using this
  have h1 : xs.length + ys.length = n + m := by omega
  have hfit : Builtin.nextslicecap (n + m) n * i.bytes ≤ 281474976710656 := by rw [hz2]; exact growslice_fits (by omega) (by omega)
  have hold : (Builtin.firstCells i.size n (.slice A n n)).run Try.prog w.drew = .ok (xs.map vint).toArray w.drew := by
    have hd := (h.ext ((Ext.refl w).drew)).src n
    rw [hn] at hd
    rw [hz1]
    exact hd.cells
  have hs' : Src Try.prog i.size 22 x m (ys.map vint) w := by rw [hz1]; exact hs
  have hrun := run_append_grow_src (P := Try.prog) w 22 22 ty 3 i _ Try.underlying22 hi hz0 A n n ((xs.map vint)) hold x m ((ys.map vint)) hs' (by omega) (by omega) hfit
  have hg := grownCap_ge w (n + m) n 3
  have hg2 := grownCap_le_maxLen w (n + m) n 3 (by unfold maxLen; omega)
  have hown := own_newRow (w := w.drew) (base := w.heap.size) (Nat.le_refl _) ((xs ++ ys).map vint) (n + m) (grownCap w (n + m) n 3) (by simp; omega) hg hg2 (Builtin.zeroCells (Value.int .i64 0).cells (grownCap w (n + m) n 3 - (n + m))) (by rw [size_zeroCells]; simp [Value.cells])
  refine ⟨_, _, _, hrun, by simp, rfl, by simp, ?_⟩
  rw [List.map_append] at hown
  have : (xs ++ ys).length = n + m := by rw [List.length_append]; exact h1
  rw [this, List.map_append]
  exact hown

/-- 'append([]int{}, l...)'. -/
theorem app_empty {w : World} {base b c : Nat} {B : Option Addr} {ys : List Int} (ty : TypeId) (hb : w.heap[b]? = some (Obj.cells #[] 3)) (hbb : base ≤ b) (hB : Ints w B ys) (hl : ys.length ≤ 1000000) :
    ∃ v' w', (Builtin.append_ #[22, 22] ty #[.slice (some ⟨b, 0, none⟩) 0 0, .slice B ys.length c]).run Try.prog w = .ok v' w' ∧ Ext w w' ∧ w'.ownsRow base 3 1 v' ys.length (ys.map vint) := by
  obtain ⟨i, hi, hz0, hz1, hz2⟩ := int_elem.info
  have hbl := (Array.getElem?_eq_some_iff.1 hb).1
  by_cases h0 : ys.length = 0
  · have : ys = [] := List.eq_nil_of_length_eq_zero h0
    subst this
    have hs := hB.src c
    have hs' : Src Try.prog i.size 22 (.slice B 0 c) 0 [] w := by rw [hz1]; exact hs
    exact ⟨_, w, run_append_nothing w 22 22 ty 3 i Try.underlying22 hi _ 0 0 (Nat.le_refl _) _ hs', Ext.refl _, rfl, .inr ⟨b, 0, #[], rfl, hbb, hb, Nat.le_refl _, by unfold maxLen; omega, rfl, rfl⟩⟩
  · obtain ⟨g, cap, w', hr, hx, hg, ho⟩ := app_new (w := w) (A := some ⟨b, 0, none⟩) (xs := []) (ys := ys) (n := 0) (m := ys.length) _ ty (Ints.nil _ _) rfl (hB.src c) (by omega) (by omega)
    rw [Nat.zero_add] at hr ho
    refine ⟨_, w', hr, hx, ?_⟩
    refine ⟨by simp, ?_⟩
    rcases ho.2.2 with ⟨e, _⟩ | ⟨g', cap', cur, e, hb', r⟩
    · cases e
    · exact .inr ⟨g', cap', cur, e, by omega, r⟩

/-- Of each block all cells stay but the one at place n, and this one, too, if it is x. -/
def KeepB (n : Nat) (x : Int) (w w' : World) : Prop := ∀ (k : Nat) cs t, w.heap[k]? = some (Obj.cells cs t) → ∃ cs', w'.heap[k]? = some (Obj.cells cs' t) ∧ cs'.size = cs.size ∧ ∀ (j : Nat) v, cs[j]? = some v → (j ≠ n ∨ v = vint x) → cs'[j]? = some v
theorem KeepB.of_same {n : Nat} {x : Int} {w w' : World} (h : ∀ (k : Nat) o, w.heap[k]? = some o → w'.heap[k]? = some o) : KeepB n x w w' := fun k cs _ hk => ⟨cs, h k _ hk, rfl, fun _ _ h _ => h⟩
theorem KeepB.trans {n : Nat} {x : Int} {a b c : World} (h : KeepB n x a b) (h' : KeepB n x b c) : KeepB n x a c := fun k cs t hk => by
  obtain ⟨cs1, a1, a2, a3⟩ := h k cs t hk
  obtain ⟨cs2, b1, b2, b3⟩ := h' k cs1 t a1
  exact ⟨cs2, b1, b2.trans a2, fun j v hj hv => b3 j v (a3 j v hj hv) hv⟩

theorem app_keep {w : World} {base : Nat} {v : Value} {n : Nat} {xs : List Value} (ty : TypeId) (hown : w.ownsRow base 3 1 v n xs) {bs c : Nat} {x : Int} (hx : w.heap[bs]? = some (.cells #[vint x] 3)) (hn : n ≤ 1000000) (hbase : base ≤ w.heap.size) :
    ∃ v' w', (Builtin.append_ #[22, 22] ty #[v, .slice (some ⟨bs, 0, none⟩) 1 c]).run Try.prog w = .ok v' w' ∧ w'.ownsRow base 3 1 v' (n + 1) (xs ++ [vint x]) ∧ w.grownBy w' v.ownBlock ∧ KeepB n x w w' := by
  obtain ⟨i, hi, hz0, hz1, hz2⟩ := int_elem.info
  have hnews : ∀ j u, [vint x][j]? = some u → w.cell? ((⟨bs, 0, none⟩ : Addr).add j) = some u := fun j u hj => by
    have e : j = 0 := by
      have := (List.getElem?_eq_some_iff.1 hj).1
      simpa using this
    subst e
    have : (⟨bs, 0, none⟩ : Addr).add 0 = ⟨bs, 0, none⟩ := by simp [Addr.add]
    rw [this, cell_heap hx]
    simpa using hj
  have hone : ∀ u ∈ [vint x], u.oneCell' = true := fun u hu => by simp at hu; subst hu; rfl
  have hbytes : (n + 1) * 8 ≤ 140737488355328 := by omega
  have h63 : n + 1 ≤ maxLen := by unfold maxLen; omega
  obtain ⟨v', w', hr, o1, o2, _, o4⟩ := run_append_own_at (P := Try.prog) w base 22 ty 3 i _ 1 8 Try.underlying22 hi hz0 hz1 hz2 int_elem.zs int_elem.pos v n xs hown ⟨bs, 0, none⟩ 1 c [vint x] rfl hnews hone h63 hbytes hbase
  refine ⟨v', w', hr, o1, o2, ?_⟩
  rcases hown.2 with ⟨rfl, rfl⟩ | ⟨g, cap, cur, rfl, hbg, hg, hnc, hcm, hcs, htake⟩
  · exact KeepB.of_same fun k o h => (o2.block k (Array.getElem?_eq_some_iff.1 h).1 (by simp [Value.ownBlock])).trans h
  · have hglt : g < w.heap.size := (Array.getElem?_eq_some_iff.1 hg).1
    have hlen : xs.length = n := by have := hown.1; omega
    by_cases hroom : n + 1 ≤ cap
    · have hr2 := run_append_room (P := Try.prog) w 22 ty 3 i Try.underlying22 hi g n cap cur hg ⟨bs, 0, none⟩ 1 c [vint x] (by rw [hz1]; rfl) hnews hone hroom (by rw [hz1, hcs]; simp; omega)
      rw [hr] at hr2
      injection hr2 with e1 e2
      rw [hz1, Nat.mul_one] at e2
      have hcurl : cur.toList.length = cap := by rw [Array.length_toList]; omega
      rw [Nat.mul_one] at htake
      have hnew : w'.heap[g]? = some (.cells (xs ++ [vint x] ++ cur.toList.drop (n + 1)).toArray 3) := by
        rw [e2, setRow_heap w g cur _ _ _ hg, htake]
        simp
      have hsz : (xs ++ [vint x] ++ cur.toList.drop (n + 1)).toArray.size = cur.size := by
        simp only [List.size_toArray, List.length_append, List.length_drop, List.length_singleton, hcurl, hlen]; omega
      intro k cs t hk
      by_cases e : k = g
      · subst e
        rw [hg] at hk
        simp only [Option.some.injEq, Obj.cells.injEq, and_true] at hk
        obtain ⟨rfl, rfl⟩ := hk
        refine ⟨_, hnew, hsz, fun j u hj hu => ?_⟩
        rw [List.getElem?_toArray]
        have hj' : cur.toList[j]? = some u := by simpa using hj
        rcases Nat.lt_trichotomy j n with h | h | h
        · rw [List.append_assoc, List.getElem?_append_left (by omega), ← htake, List.getElem?_take, if_pos h]
          exact hj'
        · subst h
          rw [List.append_assoc, List.getElem?_append_right (by omega), hlen]
          rcases hu with hu | hu
          · exact absurd rfl hu
          · simp [hu]
        · rw [List.getElem?_append_right (by simp; omega), List.getElem?_drop]
          simp only [List.length_append, List.length_singleton, hlen]
          rw [show n + 1 + (j - (n + 1)) = j by omega]
          exact hj'
      · exact ⟨cs, (o2.block k (Array.getElem?_eq_some_iff.1 hk).1 (fun e' => e (by simpa [Value.ownBlock] using e'))).trans hk, rfl, fun _ _ h _ => h⟩
    · have holds : ∀ j u, xs[j]? = some u → w.cell? ((⟨g, 0, none⟩ : Addr).add j) = some u := hown.cells (g := g) rfl
      have hr2 := run_append_grow (P := Try.prog) w 22 ty 3 i _ Try.underlying22 hi hz0 ⟨g, 0, none⟩ n cap xs (by rw [hz1]; exact hown.1) holds ⟨bs, 0, none⟩ 1 c [vint x] (by rw [hz1]; rfl) hnews (by omega) (by omega) (by rw [hz2]; exact growslice_fits (by omega) hbytes)
      rw [hr] at hr2
      injection hr2 with e1 e2
      have hx : Ext w w' := by rw [e2]; simp
      exact KeepB.of_same fun k o h => hx.heap h

/-- The growth. -/
structure KeepR (base : Nat) (n : Nat) (x : Int) (w w' : World) : Prop where
  below : Below base w w'
  blk : KeepB n x w w'

def keepPre (base n : Nat) (x : Int) : Cf.Pre where
  R := KeepR base n x
  refl _ := ⟨Below.refl _ _, KeepB.of_same fun _ _ h => h⟩
  trans h k := ⟨h.below.trans k.below, h.blk.trans k.blk⟩
  drawn h _ := ⟨⟨h.below.os, h.below.tape, h.below.output, h.below.size, h.below.block⟩, fun k cs t hk => h.blk k cs t hk⟩
  size h := h.below.size
section
variable {base n : Nat} {x : Int} {w w' : World}
theorem KeepR.of_ext (h : Ext w w') (hb : base ≤ w.heap.size) : KeepR base n x w w' := ⟨Below.mono h hb, KeepB.of_same fun _ _ ho => h.heap ho⟩
theorem KeepR.ext {w0 : World} (h : KeepR w0.heap.size n x w0 w) : Ext w0 w := h.below
theorem KeepR.row {b k : Nat} {e : TypeId} {u : Value} {ys : List Value} (h : KeepR base n x w w') (hu : w.ownsRow b e 1 u k ys) (hy : ∀ y, ys[n]? = some y → y = vint x) : w'.ownsRow b e 1 u k ys := by
  refine ⟨hu.1, ?_⟩
  rcases hu.2 with h1 | ⟨g, cap, cur, rfl, hb, hg, hk, hm, hc, ht⟩
  · exact .inl h1
  · obtain ⟨cs', e1, e2, e3⟩ := h.blk g cur e hg
    refine .inr ⟨g, cap, cs', rfl, hb, e1, hk, hm, e2.trans hc, ?_⟩
    rw [← ht] at hy ⊢
    apply List.ext_getElem?
    intro j
    rw [List.getElem?_take, List.getElem?_take]
    split
    · rename_i hj
      have hj2 : j < cur.size := by omega
      have hcj : cur[j]? = some cur[j] := Array.getElem?_eq_getElem hj2
      have := e3 j cur[j] hcj (by
        by_cases e : j = n
        · subst e
          exact .inr (hy _ (by rw [List.getElem?_take, if_pos hj]; simp))
        · exact .inl e)
      rw [Array.getElem?_toList, Array.getElem?_toList, this, hcj]
    · rfl
theorem KeepR.lit0 {k : Nat} (h : KeepR base n x w w') (hk : w.heap[k]? = some (Obj.cells #[] 3)) : w'.heap[k]? = some (Obj.cells #[] 3) := by
  obtain ⟨cs', e1, e2, _⟩ := h.blk k _ _ hk
  rw [e1, Array.eq_empty_of_size_eq_zero e2]
theorem KeepR.lit1 {k : Nat} (h : KeepR base n x w w') (hk : w.heap[k]? = some (Obj.cells #[vint x] 3)) : w'.heap[k]? = some (Obj.cells #[vint x] 3) := by
  obtain ⟨cs', e1, e2, e3⟩ := h.blk k _ _ hk
  have h0 := e3 0 (vint x) rfl (.inr rfl)
  rw [e1]
  congr 2
  apply Array.ext
  · exact e2
  · intro j h1 h2
    have : j = 0 := by simp at h2; omega
    subst this
    exact (Array.getElem?_eq_some_iff.1 h0).2
end

/-- Numbers in a slice that begins its block. -/
def RowI (l : List Int) (v : Value) (w : World) : Prop := w.ownsRow 0 3 1 v l.length (l.map vint)
theorem RowI.later {l : List Int} {v : Value} {w w' : World} (h : RowI l v w) (he : Ext w w') : RowI l v w' := he.owns h
theorem RowI.isInts {l : List Int} {v : Value} {w : World} (h : RowI l v w) : isInts l v w := by
  have hr : w.ownsRow 0 3 1 v l.length (l.map vint) := h
  rcases h.2 with ⟨rfl, e⟩ | ⟨g, cap, cur, rfl, _⟩
  · exact ⟨none, 0, by rw [e], by rw [e] at hr; exact Row.of_own hr⟩
  · exact ⟨_, cap, rfl, Row.of_own hr⟩
theorem RowI.nil (w : World) : RowI [] (.slice none 0 0) w := World.ownsRow_nil _ _ _ _
theorem RowI.keep {base n : Nat} {x : Int} {w w' : World} {l : List Int} {v : Value} (h : RowI l v w) (hR : KeepR base n x w w') (hl : ∀ y, l[n]? = some y → y = x) : RowI l v w' :=
  hR.row h fun y hy => by
    rw [List.getElem?_map] at hy
    cases e : l[n]? with
    | none => rw [e] at hy; cases hy
    | some z => rw [e] at hy; injection hy with hy; rw [← hy, hl z e]
theorem ownsRow_zero {base : Nat} {w : World} {e : TypeId} {size n : Nat} {v : Value} {xs : List Value} (h : w.ownsRow base e size v n xs) : w.ownsRow 0 e size v n xs := by
  refine ⟨h.1, ?_⟩
  rcases h.2 with h1 | ⟨g, cap, cur, e1, _, r⟩
  · exact .inl h1
  · exact .inr ⟨g, cap, cur, e1, Nat.zero_le _, r⟩

theorem Own.mrow {w1 w : World} {A : Option Addr} {m c : Nat} {l : List Msh} (h : Own w1 w 57 6 (.slice A m c) l.length (cellsL l)) : MRow w A l := Own.row h
end Go.Proofs.Ytbclbcldplmppaa

/- solve: the lists of a row's numbers, the map's law, a shaft's factor. -/
namespace Go.Proofs.Ytbclbcldplmppaa
open Go.RowKit

def lineOf (M : Nat → Nat → Int) (n x : Nat) : List Int := (List.range n).map fun j => M x j
def byOf (M : Nat → Nat → Int) (n m x : Nat) : List Int := (List.range m).map fun j => M x (n + j)
def mixL (N M : Nat → Nat → Int) (n x j : Nat) : List Int := (List.range n).map fun i => if i < j then N x i else M x i
def mixB (N M : Nat → Nat → Int) (n m x j : Nat) : List Int := (List.range m).map fun i => if i < j then N x (n + i) else M x (n + i)
section
variable {N M : Nat → Nat → Int} {n m x j : Nat}
theorem lineOf_length : (lineOf M n x).length = n := by simp [lineOf]
theorem byOf_length : (byOf M n m x).length = m := by simp [byOf]
theorem mixL_length : (mixL N M n x j).length = n := by simp [mixL]
theorem mixB_length : (mixB N M n m x j).length = m := by simp [mixB]
theorem getI_lineOf (h : j < n) : getI (lineOf M n x) j = M x j := by simp [getI, lineOf, h]
theorem getI_byOf (h : j < m) : getI (byOf M n m x) j = M x (n + j) := by simp [getI, byOf, h]
theorem getI_mixL (h : j < n) : getI (mixL N M n x j) j = M x j := by simp [getI, mixL, h]
theorem getI_mixB (h : j < m) : getI (mixB N M n m x j) j = M x (n + j) := by simp [getI, mixB, h]
theorem mixL_zero : mixL N M n x 0 = lineOf M n x := by simp [mixL, lineOf]
theorem mixB_zero : mixB N M n m x 0 = byOf M n m x := by simp [mixB, byOf]
theorem mixL_all : mixL N M n x n = lineOf N n x := List.map_congr_left fun _ hi => if_pos (List.mem_range.1 hi)
theorem mixB_all : mixB N M n m x m = byOf N n m x := List.map_congr_left fun _ hi => if_pos (List.mem_range.1 hi)
theorem mixL_set (_h : j < n) : (mixL N M n x j).set j (N x j) = mixL N M n x (j + 1) := by
  refine List.ext_getElem (by simp [mixL]) fun i h1 h2 => ?_
  simp only [mixL, List.length_map, List.length_range] at h2
  by_cases e : j = i
  · subst e; simp [mixL]
  · rw [List.getElem_set_ne e]
    simp only [mixL, List.getElem_map, List.getElem_range]
    by_cases e2 : i < j
    · rw [if_pos e2, if_pos (by omega)]
    · rw [if_neg e2, if_neg (by omega)]
theorem mixB_set (_h : j < m) : (mixB N M n m x j).set j (N x (n + j)) = mixB N M n m x (j + 1) := by
  refine List.ext_getElem (by simp [mixB]) fun i h1 h2 => ?_
  simp only [mixB, List.length_map, List.length_range] at h2
  by_cases e : j = i
  · subst e; simp [mixB]
  · rw [List.getElem_set_ne e]
    simp only [mixB, List.getElem_map, List.getElem_range]
    by_cases e2 : i < j
    · rw [if_pos e2, if_pos (by omega)]
    · rw [if_neg e2, if_neg (by omega)]
end

theorem wf_nat (x : Nat) (hx : x ≤ 1000) : (Lit.int .i64 (x : Int)).wf = true := by
  have h1 : IntKind.i64.min = -9223372036854775808 := by decide
  have h2 : IntKind.i64.max = 9223372036854775807 := by decide
  simp [Lit.wf, h1, h2]
  omega

/-- The map holds each pivot column's number. -/
structure MapIs (D : DataW Unit) (cs : List Nat) : Prop where
  tidy : Maps.Tidy D
  has : ∀ c : Nat, Maps.has D (.int .i64 (c : Int)) = decide (c ∈ cs)
  at_ : ∀ k (h : k < cs.length), ∀ z, D.atKey (.int .i64 (cs[k] : Int)) z = .lit (.int .i64 (k : Int))
  size : Maps.size D = cs.length
theorem MapIs.start : MapIs (.map []) [] := ⟨Maps.tidy_empty, fun c => by simp [Maps.has], fun k h => by simp at h, rfl⟩
theorem isKey_nat (c : Nat) : WideAt.IsKeyLit (.int .i64 (c : Int)) := by simp [WideAt.IsKeyLit]
theorem MapIs.put {D : DataW Unit} {cs : List Nat} (h : MapIs D cs) {c : Nat} (hc : c ∉ cs) : MapIs (D.put (.int .i64 (c : Int)) (.lit (.int .i64 (cs.length : Int)))) (cs ++ [c]) := by
  have hk := isKey_nat c
  have hne : ∀ c' : Nat, c' ≠ c → (Lit.int .i64 (c' : Int)) ≠ .int .i64 (c : Int) := fun c' e e' => by injection e' with _ e'; omega
  refine ⟨h.tidy.put hk _, fun c' => ?_, fun k hk' z => ?_, ?_⟩
  · by_cases e : c' = c
    · subst e; rw [Maps.has_put_same h.tidy.isMap hk]; simp
    · rw [Maps.has_put_other (hne c' e), h.has]; simp [e]
  · by_cases e : k < cs.length
    · have : (cs ++ [c])[k] = cs[k] := List.getElem_append_left e
      rw [this, Maps.atKey_put_other (hne _ (fun e' => hc (e' ▸ List.getElem_mem e)))]
      exact h.at_ k e z
    · have e2 : k = cs.length := by simp at hk'; omega
      subst e2
      simp only [List.getElem_concat_length]
      exact Maps.atKey_put_same h.tidy.isMap hk _ _
  · rw [Maps.size_put h.tidy, h.has, h.size]
    simp [hc]

theorem at_any (A : Option Addr) (c k : Nat) (xs : List Int) (w : World) (hA : Ints w A xs) (hk : k < xs.length) :
    Calls Try.prog 78 #[.slice A xs.length c, .int .i64 k] w fun e w' => e = .returned (.int .i64 (getI xs k)) ∧ w = w' := by
  obtain ⟨ad, rfl, hc⟩ := hA.at_ hk
  have hi : (k : Int) < (xs.length : Int) := by omega
  generalize xs.length = n at *
  generalize getI xs k = x at *
  go_enter Try.func78, Try.ntmps78
  go_wp2
  go_ret
  exact ⟨rfl, rfl⟩
end Go.Proofs.Ytbclbcldplmppaa

/- solve: what lies beside the rows. -/
namespace Go.Proofs.Ytbclbcldplmppaa
open Go.RowKit

/-- The rows that come in, to be read. -/
def RIn (w : World) (A : Option Addr) (n m : Nat) (L B : Nat → List Int) : Prop := ∀ k, k < m → ∃ ad A1 A2, A = some ad ∧
  (∀ w', Ext w w' → w'.cell? (ad.add (k * 2)) = some (.slice A1 n n)) ∧ (∀ w', Ext w w' → w'.cell? ⟨(ad.add (k * 2)).block, (ad.add (k * 2)).off + 1, none⟩ = some (.slice A2 m m)) ∧
  (∀ w', Ext w w' → Ints w' A1 (L k)) ∧ (∀ w', Ext w w' → Ints w' A2 (B k)) ∧ (L k).length = n ∧ (B k).length = m

abbrev MapI (w : World) (mb cnt : Nat) (D : DataW Unit) : Prop := w.ownsMap Try.prog 3 (plainElem Try.prog 3) mb cnt D

/-- What lies beside the rows: the result's place, the map, the struct. -/
structure Fr (w : World) (g4 mb g5 : Nat) (v ord : Value) (d : Int) (cnt : Nat) (D : DataW Unit) : Prop where
  b4 : Bx w g4 [.slice none 0 0, .map none, .slice none 0 0, .int .i64 0]
  b5 : Bx w g5 [v, .map (some mb), ord, .int .i64 d]
  mp : MapI w mb cnt D
  e4 : g4 < mb
  e5 : mb < g5
structure Sep (g5 : Nat) (v : Value) (c : Nat) (g h : Nat → Nat) : Prop where
  v : ∀ k, v.ownBlock = some k → g5 < k
  g : ∀ k, k < c → g5 < g k
  h : ∀ k, k < c → g5 < h k

theorem Fr.later {w w' : World} {g4 mb g5 : Nat} {v ord : Value} {d : Int} {cnt : Nat} {D : DataW Unit} (h : Fr w g4 mb g5 v ord d cnt D) (he : Ext w w') : Fr w' g4 mb g5 v ord d cnt D := by
  refine ⟨h.b4.later he, h.b5.later he, ?_, h.e4, h.e5⟩
  obtain ⟨es, clock, hb, r⟩ := h.mp
  exact ⟨es, clock, he.heap hb, r⟩
theorem Fr.grown {w w' : World} {g4 mb g5 : Nat} {v ord : Value} {d : Int} {cnt : Nat} {D : DataW Unit} (h : Fr w g4 mb g5 v ord d cnt D) {row : Option Nat} (hg : w.grownBy w' row) (hr : ∀ k, row = some k → g5 < k) : Fr w' g4 mb g5 v ord d cnt D := by
  have e4 := h.e4
  have e5 := h.e5
  refine ⟨h.b4.grown hg (fun e => by have := hr _ e; omega), h.b5.grown hg (fun e => by have := hr _ e; omega), ?_, h.e4, h.e5⟩
  exact h.mp.kept hg (fun e => by have := hr _ e.symm; omega)
/-- A store behind all of these. -/
theorem Fr.other {w : World} {g4 mb g5 : Nat} {v ord : Value} {d : Int} {cnt : Nat} {D : DataW Unit} (h : Fr w g4 mb g5 v ord d cnt D) {p : Addr} (hp : g5 < p.block) (u : Value) : Fr (w.setCell p u) g4 mb g5 v ord d cnt D := by
  have e4 := h.e4
  have e5 := h.e5
  exact ⟨h.b4.other (by omega) u, h.b5.other (by omega) u, h.mp.setCell (by omega) u, h.e4, h.e5⟩
theorem Fr.setRows {w : World} {g4 mb g5 : Nat} {v ord : Value} {d : Int} {cnt : Nat} {D : DataW Unit} (h : Fr w g4 mb g5 v ord d cnt D) (v' : Value) : Fr (w.setCell ⟨g5, 0, none⟩ v') g4 mb g5 v' ord d cnt D := by
  have e4 := h.e4
  have e5 := h.e5
  refine ⟨h.b4.other (p := ⟨g5, 0, none⟩) (by simp only; omega) _, ?_, h.mp.setCell (a := ⟨g5, 0, none⟩) (by simp only; omega) _, h.e4, h.e5⟩
  have := h.b5.set (j := 0) (by simp) v'
  simpa using this


theorem Fr.pivot {w w2 : World} {g4 mb g5 : Nat} {v ord : Value} {d : Int} {cnt cnt2 : Nat} {D D2 : DataW Unit} (h : Fr w g4 mb g5 v ord d cnt D) (hown : MapI w2 mb cnt2 D2) (hg : w.grownBy w2 (some mb)) (p : Int) :
    Fr (w2.setCell ⟨g5, 3, none⟩ (.int .i64 p)) g4 mb g5 v ord p cnt2 D2 := by
  have e4 := h.e4
  have e5 := h.e5
  refine ⟨(h.b4.grown hg (fun e => by have := Option.some.inj e; omega)).other (p := ⟨g5, 3, none⟩) (by first | omega | (simp only; omega)) _, ?_, hown.setCell (a := ⟨g5, 3, none⟩) (by first | omega | (simp only; omega)) _, h.e4, h.e5⟩
  have := (h.b5.grown hg (fun e => by have := Option.some.inj e; omega)).set (j := 3) (by simp) (.int .i64 p)
  simpa using this

/-- Another block turns. -/
theorem MF.grown {b w w' : World} {v : Value} {n m c : Nat} {g h : Nat → Nat} {L B : Nat → List Int} (hm : MF b w v n m c g h L B) {k : Nat} (hg : w.grownBy w' (some k)) (hk : b.heap.size ≤ k) (hv : v.ownBlock ≠ some k) (h1 : ∀ i, i < c → g i ≠ k) (h2 : ∀ i, i < c → h i ≠ k) :
    MF b w' v n m c g h L B := by
  have hx : Ext b w' := hm.ext.grown hg (fun j e => by have := Option.some.inj e; omega)
  have old : ∀ {j : Nat} {xs : List Int}, NewInts b w j xs → j ≠ k → NewInts b w' j xs := fun {j xs} hj hne => ⟨hx, hj.2.1, (hg.block j hj.lt (fun e => hne (Option.some.inj e))).trans hj.2.2⟩
  exact ⟨⟨hx, hm.own.2.kept hg (.inr hv)⟩, fun i hi => ⟨old (hm.gl i hi).1 (h1 i hi), (hm.gl i hi).2⟩, fun i hi => ⟨old (hm.hb i hi).1 (h2 i hi), (hm.hb i hi).2⟩, hm.gg, hm.hh, hm.gh⟩
end Go.Proofs.Ytbclbcldplmppaa

/- math/bits: the number of bits of a word. -/
namespace Go.Proofs.Ytbclbcldplmppaa
open Go.RowKit

def lenT (v : Nat) : Nat := if v = 0 then 0 else Nat.log2 v + 1
def tabT : ByteArray := ⟨#[0, 1, 2, 2, 3, 3, 3, 3, 4, 4, 4, 4, 4, 4, 4, 4, 5, 5, 5, 5, 5, 5, 5, 5, 5, 5, 5, 5, 5, 5, 5, 5, 6, 6, 6, 6, 6, 6, 6, 6, 6, 6, 6, 6, 6, 6, 6, 6, 6, 6, 6, 6, 6, 6, 6, 6, 6, 6, 6, 6, 6, 6, 6, 6, 7, 7, 7, 7, 7, 7, 7, 7, 7, 7, 7, 7, 7, 7, 7, 7, 7, 7, 7, 7, 7, 7, 7, 7, 7, 7, 7, 7, 7, 7, 7, 7, 7, 7, 7, 7, 7, 7, 7, 7, 7, 7, 7, 7, 7, 7, 7, 7, 7, 7, 7, 7, 7, 7, 7, 7, 7, 7, 7, 7, 7, 7, 7, 7, 8, 8, 8, 8, 8, 8, 8, 8, 8, 8, 8, 8, 8, 8, 8, 8, 8, 8, 8, 8, 8, 8, 8, 8, 8, 8, 8, 8, 8, 8, 8, 8, 8, 8, 8, 8, 8, 8, 8, 8, 8, 8, 8, 8, 8, 8, 8, 8, 8, 8, 8, 8, 8, 8, 8, 8, 8, 8, 8, 8, 8, 8, 8, 8, 8, 8, 8, 8, 8, 8, 8, 8, 8, 8, 8, 8, 8, 8, 8, 8, 8, 8, 8, 8, 8, 8, 8, 8, 8, 8, 8, 8, 8, 8, 8, 8, 8, 8, 8, 8, 8, 8, 8, 8, 8, 8, 8, 8, 8, 8, 8, 8, 8, 8, 8, 8, 8, 8, 8, 8, 8, 8, 8, 8, 8, 8, 8, 8]⟩
set_option maxRecDepth 100000 in
theorem tabT_at : ∀ x : Fin 256, (tabT.data[x.val]'(x.isLt)).toNat = lenT x.val ∧ (1 ≤ x.val → 1 ≤ lenT x.val ∧ 2 ^ (lenT x.val - 1) ≤ x.val ∧ x.val < 2 ^ lenT x.val ∧ lenT x.val ≤ 8) := by decide +kernel

theorem wrap64_small {a : Int} (h0 : 0 ≤ a) (h : a ≤ 1000) : wrap64 a = a := by
  unfold wrap64
  omega

theorem len_back {x n v L : Nat} (hv : v = x / 2 ^ n) (h : 1 ≤ L ∧ 2 ^ (L - 1) ≤ v ∧ v < 2 ^ L) : 1 ≤ n + L ∧ 2 ^ (n + L - 1) ≤ x ∧ x < 2 ^ (n + L) := by
  subst hv
  obtain ⟨h1, h2, h3⟩ := h
  refine ⟨by omega, ?_, ?_⟩
  · rw [show n + L - 1 = (L - 1) + n by omega, Nat.pow_add]
    exact (Nat.le_div_iff_mul_le (Nat.two_pow_pos n)).1 h2
  · rw [Nat.add_comm, Nat.pow_add]
    exact (Nat.div_lt_iff_lt_mul (Nat.two_pow_pos n)).1 h3

theorem wrapT {t L n : Nat} {N : Int} (h : t = L) (hN : N = n) (hL : L ≤ 8) (hn : n ≤ 56) : wrap64 (N + wrap64 (t : Int)) = ((n + L : Nat) : Int) := by
  rw [wrap64_small (a := (t : Int)) (by omega) (by omega), wrap64_small (by omega) (by omega)]
  omega
theorem wrapT0 {t L : Nat} (h : t = L) (hL : L ≤ 8) : wrap64 (wrap64 (t : Int)) = ((0 + L : Nat) : Int) := by
  rw [wrap64_small (a := (t : Int)) (by omega) (by omega), wrap64_small (by omega) (by omega)]
  omega

set_option maxRecDepth 100000 in
set_option maxHeartbeats 4000000 in
theorem len64_any (x : Nat) (w : World) (hx : x < 18446744073709551616) (h1 : 1 ≤ x) :
    Calls Try.prog 115 #[.int .u64 x] w fun e w' => ∃ L : Nat, e = .returned (.int .i64 L) ∧ (1 ≤ L ∧ 2 ^ (L - 1) ≤ x ∧ x < 2 ^ L) ∧ w = w' := by
  by_cases c0 : x < 4294967296
  · have d0 : decide ((4294967296 : Int) ≤ ((x : Nat) : Int)) = false := by simp; omega
    by_cases c1 : x < 65536
    · have d1 : decide ((65536 : Int) ≤ ((x : Nat) : Int)) = false := by simp; omega
      by_cases c2 : x < 256
      · have d2 : decide ((256 : Int) ≤ ((x : Nat) : Int)) = false := by simp; omega
        have hv1 : 1 ≤ x := by omega
        obtain ⟨t1, t2⟩ := tabT_at ⟨x, c2⟩
        simp only at t1
        have t3 : 1 ≤ lenT x ∧ 2 ^ (lenT x - 1) ≤ x ∧ x < 2 ^ lenT x ∧ lenT x ≤ 8 := t2 hv1
        have T1 := Lib.hid t1
        have T3 := Lib.hid t3
        clear t1 t2 t3 hv1
        go_enter Try.func115, Try.ntmps115
        go_wp2
        go_ret
        refine ⟨0 + lenT x, ?_, ?_, rfl⟩
        · exact congrArg (fun z => Ending.returned (Value.int .i64 z)) (wrapT0 T1.out T3.out.2.2.2)
        · have t3 := T3.out
          have t4 : 1 ≤ lenT x ∧ 2 ^ (lenT x - 1) ≤ x ∧ x < 2 ^ lenT x := ⟨t3.1, t3.2.1, t3.2.2.1⟩
          rw [Nat.zero_add]
          exact t4
      · have d2 : decide ((256 : Int) ≤ ((x : Nat) : Int)) = true := by simp; omega
        obtain ⟨v, hv⟩ : ∃ v, v = x / 2 ^ 8 := ⟨_, rfl⟩
        have s2 : ((x : Nat) : Int) / 256 = (v : Int) := by rw [hv]; omega
        have b2 : 1 ≤ v ∧ v < 256 := by rw [hv]; omega
        have Hv := Lib.hid hv
        clear hv
        have c2 := b2.2
        have hv1 : 1 ≤ v := by omega
        obtain ⟨t1, t2⟩ := tabT_at ⟨v, c2⟩
        simp only at t1
        have t3 : 1 ≤ lenT v ∧ 2 ^ (lenT v - 1) ≤ v ∧ v < 2 ^ lenT v ∧ lenT v ≤ 8 := t2 hv1
        have T1 := Lib.hid t1
        have T3 := Lib.hid t3
        clear t1 t2 t3 hv1
        go_enter Try.func115, Try.ntmps115
        go_wp2
        go_ret
        refine ⟨8 + lenT v, ?_, ?_, rfl⟩
        · exact congrArg (fun z => Ending.returned (Value.int .i64 z)) (wrapT T1.out rfl T3.out.2.2.2 (by omega))
        · have t3 := T3.out
          have t4 : 1 ≤ lenT v ∧ 2 ^ (lenT v - 1) ≤ v ∧ v < 2 ^ lenT v := ⟨t3.1, t3.2.1, t3.2.2.1⟩
          have v_ := len_back (n := 8) Hv.out t4
          exact v_
    · have d1 : decide ((65536 : Int) ≤ ((x : Nat) : Int)) = true := by simp; omega
      obtain ⟨z, hz⟩ : ∃ z, z = x / 2 ^ 16 := ⟨_, rfl⟩
      have s1 : ((x : Nat) : Int) / 65536 = (z : Int) := by rw [hz]; omega
      have b1 : 1 ≤ z ∧ z < 65536 := by rw [hz]; omega
      have Hz := Lib.hid hz
      clear hz
      by_cases c2 : z < 256
      · have d2 : decide ((256 : Int) ≤ ((z : Nat) : Int)) = false := by simp; omega
        have hv1 : 1 ≤ z := by omega
        obtain ⟨t1, t2⟩ := tabT_at ⟨z, c2⟩
        simp only at t1
        have t3 : 1 ≤ lenT z ∧ 2 ^ (lenT z - 1) ≤ z ∧ z < 2 ^ lenT z ∧ lenT z ≤ 8 := t2 hv1
        have T1 := Lib.hid t1
        have T3 := Lib.hid t3
        clear t1 t2 t3 hv1
        go_enter Try.func115, Try.ntmps115
        go_wp2
        go_ret
        refine ⟨16 + lenT z, ?_, ?_, rfl⟩
        · exact congrArg (fun z => Ending.returned (Value.int .i64 z)) (wrapT T1.out rfl T3.out.2.2.2 (by omega))
        · have t3 := T3.out
          have t4 : 1 ≤ lenT z ∧ 2 ^ (lenT z - 1) ≤ z ∧ z < 2 ^ lenT z := ⟨t3.1, t3.2.1, t3.2.2.1⟩
          have z_ := len_back (n := 16) Hz.out t4
          exact z_
      · have d2 : decide ((256 : Int) ≤ ((z : Nat) : Int)) = true := by simp; omega
        obtain ⟨v, hv⟩ : ∃ v, v = z / 2 ^ 8 := ⟨_, rfl⟩
        have s2 : ((z : Nat) : Int) / 256 = (v : Int) := by rw [hv]; omega
        have b2 : 1 ≤ v ∧ v < 256 := by rw [hv]; omega
        have Hv := Lib.hid hv
        clear hv
        have c2 := b2.2
        have hv1 : 1 ≤ v := by omega
        obtain ⟨t1, t2⟩ := tabT_at ⟨v, c2⟩
        simp only at t1
        have t3 : 1 ≤ lenT v ∧ 2 ^ (lenT v - 1) ≤ v ∧ v < 2 ^ lenT v ∧ lenT v ≤ 8 := t2 hv1
        have T1 := Lib.hid t1
        have T3 := Lib.hid t3
        clear t1 t2 t3 hv1
        go_enter Try.func115, Try.ntmps115
        go_wp2
        go_ret
        refine ⟨24 + lenT v, ?_, ?_, rfl⟩
        · exact congrArg (fun z => Ending.returned (Value.int .i64 z)) (wrapT T1.out rfl T3.out.2.2.2 (by omega))
        · have t3 := T3.out
          have t4 : 1 ≤ lenT v ∧ 2 ^ (lenT v - 1) ≤ v ∧ v < 2 ^ lenT v := ⟨t3.1, t3.2.1, t3.2.2.1⟩
          have v_ := len_back (n := 8) Hv.out t4
          have z_ := len_back (n := 16) Hz.out v_
          have ee : 24 + lenT v = 16 + (8 + (lenT v)) := by omega
          rw [ee]
          exact z_
  · have d0 : decide ((4294967296 : Int) ≤ ((x : Nat) : Int)) = true := by simp; omega
    obtain ⟨y, hy⟩ : ∃ y, y = x / 2 ^ 32 := ⟨_, rfl⟩
    have s0 : ((x : Nat) : Int) / 4294967296 = (y : Int) := by rw [hy]; omega
    have b0 : 1 ≤ y ∧ y < 4294967296 := by rw [hy]; omega
    have Hy := Lib.hid hy
    clear hy
    by_cases c1 : y < 65536
    · have d1 : decide ((65536 : Int) ≤ ((y : Nat) : Int)) = false := by simp; omega
      by_cases c2 : y < 256
      · have d2 : decide ((256 : Int) ≤ ((y : Nat) : Int)) = false := by simp; omega
        have hv1 : 1 ≤ y := by omega
        obtain ⟨t1, t2⟩ := tabT_at ⟨y, c2⟩
        simp only at t1
        have t3 : 1 ≤ lenT y ∧ 2 ^ (lenT y - 1) ≤ y ∧ y < 2 ^ lenT y ∧ lenT y ≤ 8 := t2 hv1
        have T1 := Lib.hid t1
        have T3 := Lib.hid t3
        clear t1 t2 t3 hv1
        go_enter Try.func115, Try.ntmps115
        go_wp2
        go_ret
        refine ⟨32 + lenT y, ?_, ?_, rfl⟩
        · exact congrArg (fun z => Ending.returned (Value.int .i64 z)) (wrapT T1.out rfl T3.out.2.2.2 (by omega))
        · have t3 := T3.out
          have t4 : 1 ≤ lenT y ∧ 2 ^ (lenT y - 1) ≤ y ∧ y < 2 ^ lenT y := ⟨t3.1, t3.2.1, t3.2.2.1⟩
          have y_ := len_back (n := 32) Hy.out t4
          exact y_
      · have d2 : decide ((256 : Int) ≤ ((y : Nat) : Int)) = true := by simp; omega
        obtain ⟨v, hv⟩ : ∃ v, v = y / 2 ^ 8 := ⟨_, rfl⟩
        have s2 : ((y : Nat) : Int) / 256 = (v : Int) := by rw [hv]; omega
        have b2 : 1 ≤ v ∧ v < 256 := by rw [hv]; omega
        have Hv := Lib.hid hv
        clear hv
        have c2 := b2.2
        have hv1 : 1 ≤ v := by omega
        obtain ⟨t1, t2⟩ := tabT_at ⟨v, c2⟩
        simp only at t1
        have t3 : 1 ≤ lenT v ∧ 2 ^ (lenT v - 1) ≤ v ∧ v < 2 ^ lenT v ∧ lenT v ≤ 8 := t2 hv1
        have T1 := Lib.hid t1
        have T3 := Lib.hid t3
        clear t1 t2 t3 hv1
        go_enter Try.func115, Try.ntmps115
        go_wp2
        go_ret
        refine ⟨40 + lenT v, ?_, ?_, rfl⟩
        · exact congrArg (fun z => Ending.returned (Value.int .i64 z)) (wrapT T1.out rfl T3.out.2.2.2 (by omega))
        · have t3 := T3.out
          have t4 : 1 ≤ lenT v ∧ 2 ^ (lenT v - 1) ≤ v ∧ v < 2 ^ lenT v := ⟨t3.1, t3.2.1, t3.2.2.1⟩
          have v_ := len_back (n := 8) Hv.out t4
          have y_ := len_back (n := 32) Hy.out v_
          have ee : 40 + lenT v = 32 + (8 + (lenT v)) := by omega
          rw [ee]
          exact y_
    · have d1 : decide ((65536 : Int) ≤ ((y : Nat) : Int)) = true := by simp; omega
      obtain ⟨z, hz⟩ : ∃ z, z = y / 2 ^ 16 := ⟨_, rfl⟩
      have s1 : ((y : Nat) : Int) / 65536 = (z : Int) := by rw [hz]; omega
      have b1 : 1 ≤ z ∧ z < 65536 := by rw [hz]; omega
      have Hz := Lib.hid hz
      clear hz
      by_cases c2 : z < 256
      · have d2 : decide ((256 : Int) ≤ ((z : Nat) : Int)) = false := by simp; omega
        have hv1 : 1 ≤ z := by omega
        obtain ⟨t1, t2⟩ := tabT_at ⟨z, c2⟩
        simp only at t1
        have t3 : 1 ≤ lenT z ∧ 2 ^ (lenT z - 1) ≤ z ∧ z < 2 ^ lenT z ∧ lenT z ≤ 8 := t2 hv1
        have T1 := Lib.hid t1
        have T3 := Lib.hid t3
        clear t1 t2 t3 hv1
        go_enter Try.func115, Try.ntmps115
        go_wp2
        go_ret
        refine ⟨48 + lenT z, ?_, ?_, rfl⟩
        · exact congrArg (fun z => Ending.returned (Value.int .i64 z)) (wrapT T1.out rfl T3.out.2.2.2 (by omega))
        · have t3 := T3.out
          have t4 : 1 ≤ lenT z ∧ 2 ^ (lenT z - 1) ≤ z ∧ z < 2 ^ lenT z := ⟨t3.1, t3.2.1, t3.2.2.1⟩
          have z_ := len_back (n := 16) Hz.out t4
          have y_ := len_back (n := 32) Hy.out z_
          have ee : 48 + lenT z = 32 + (16 + (lenT z)) := by omega
          rw [ee]
          exact y_
      · have d2 : decide ((256 : Int) ≤ ((z : Nat) : Int)) = true := by simp; omega
        obtain ⟨v, hv⟩ : ∃ v, v = z / 2 ^ 8 := ⟨_, rfl⟩
        have s2 : ((z : Nat) : Int) / 256 = (v : Int) := by rw [hv]; omega
        have b2 : 1 ≤ v ∧ v < 256 := by rw [hv]; omega
        have Hv := Lib.hid hv
        clear hv
        have c2 := b2.2
        have hv1 : 1 ≤ v := by omega
        obtain ⟨t1, t2⟩ := tabT_at ⟨v, c2⟩
        simp only at t1
        have t3 : 1 ≤ lenT v ∧ 2 ^ (lenT v - 1) ≤ v ∧ v < 2 ^ lenT v ∧ lenT v ≤ 8 := t2 hv1
        have T1 := Lib.hid t1
        have T3 := Lib.hid t3
        clear t1 t2 t3 hv1
        go_enter Try.func115, Try.ntmps115
        go_wp2
        go_ret
        refine ⟨56 + lenT v, ?_, ?_, rfl⟩
        · exact congrArg (fun z => Ending.returned (Value.int .i64 z)) (wrapT T1.out rfl T3.out.2.2.2 (by omega))
        · have t3 := T3.out
          have t4 : 1 ≤ lenT v ∧ 2 ^ (lenT v - 1) ≤ v ∧ v < 2 ^ lenT v := ⟨t3.1, t3.2.1, t3.2.2.1⟩
          have v_ := len_back (n := 8) Hv.out t4
          have z_ := len_back (n := 16) Hz.out v_
          have y_ := len_back (n := 32) Hy.out z_
          have ee : 56 + lenT v = 32 + (16 + (8 + (lenT v))) := by omega
          rw [ee]
          exact y_
end Go.Proofs.Ytbclbcldplmppaa

/- math/bits: the product of two words, and the number of leading zeros. -/
namespace Go.Proofs.Ytbclbcldplmppaa
open Go.RowKit

theorem maskN_ (a : Nat) (ha : a < 18446744073709551616) : bits .and .u64 (a : Int) 4294967295 = ((a % 4294967296 : Nat) : Int) := by
  have h := bits_and_u64_nat a 4294967295 ha (by omega)
  have e : a &&& 4294967295 = a % 4294967296 := Nat.and_two_pow_sub_one_eq_mod a 32
  rw [e] at h
  exact h
theorem divN_ (a : Nat) : (a : Int) / 4294967296 = ((a / 4294967296 : Nat) : Int) := by omega
theorem mulN_ (a b : Nat) : (a : Int) * (b : Int) = ((a * b : Nat) : Int) := (Int.natCast_mul a b).symm
theorem addN_ (a b : Nat) : (a : Int) + (b : Int) = ((a + b : Nat) : Int) := (Int.natCast_add a b).symm
theorem wrapN_ (a : Nat) (ha : a < 18446744073709551616) : IntKind.u64.wrap (a : Int) = (a : Int) := by rw [IntKind.wrap_u64]; omega
theorem wrapM_ (a : Nat) : IntKind.u64.wrap (a : Int) = ((a % 18446744073709551616 : Nat) : Int) := by rw [IntKind.wrap_u64]; omega

set_option maxHeartbeats 1000000 in
theorem mul64_any (x y : Nat) (hx : x < 18446744073709551616) (hy : y < 18446744073709551616) (w : World) :
    Calls Try.prog 113 #[.int .u64 x, .int .u64 y] w fun e w' => e = .returned (.tuple #[.int .u64 ((x * y / 18446744073709551616 : Nat) : Int), .int .u64 ((x * y % 18446744073709551616 : Nat) : Int)]) ∧ w = w' := by
  obtain ⟨bd, bt, bw, hhi⟩ := Lib.mul64_hi x y hx hy
  have ba := Lib.half_mul_le (a := x / 4294967296) (b := y / 4294967296) (by omega) (by omega)
  have bb := Lib.half_mul_le (a := x / 4294967296) (b := y % 4294967296) (by omega) (by omega)
  have bc := Lib.half_mul_le (a := x % 4294967296) (b := y / 4294967296) (by omega) (by omega)
  have ba' : x / 4294967296 * (y / 4294967296) < 18446744073709551616 := by omega
  have bb' : x / 4294967296 * (y % 4294967296) < 18446744073709551616 := by omega
  have bc' : x % 4294967296 * (y / 4294967296) < 18446744073709551616 := by omega
  have bh1 : x / 4294967296 * (y / 4294967296) + (x / 4294967296 * (y % 4294967296) + x % 4294967296 * (y % 4294967296) / 4294967296) / 4294967296 < 18446744073709551616 := by omega
  have bh : x / 4294967296 * (y / 4294967296) + (x / 4294967296 * (y % 4294967296) + x % 4294967296 * (y % 4294967296) / 4294967296) / 4294967296 + ((x / 4294967296 * (y % 4294967296) + x % 4294967296 * (y % 4294967296) / 4294967296) % 4294967296 + x % 4294967296 * (y / 4294967296)) / 4294967296 < 18446744073709551616 := by omega
  go_enter Try.func113, Try.ntmps113
  go_wp2
  simp only [maskN_ x hx, maskN_ y hy, divN_, mulN_, addN_, wrapN_ _ bd, wrapN_ _ bb', wrapN_ _ bt, maskN_ _ bt, wrapN_ _ bc', wrapN_ _ bw, wrapN_ _ ba', wrapN_ _ bh1, wrapN_ _ bh, wrapM_ (x * y)]
  rw [hhi]
  go_ret2
  exact ⟨rfl, rfl⟩

theorem lead_any (x : Nat) (w : World) (hx : x < 18446744073709551616) (h1 : 1 ≤ x) :
    Calls Try.prog 114 #[.int .u64 x] w fun e w' => ∃ s : Nat, e = .returned (.int .i64 s) ∧ (s ≤ 63 ∧ 9223372036854775808 ≤ x * 2 ^ s ∧ x * 2 ^ s < 18446744073709551616) ∧ w = w' := by
  have cl := len64_any x w hx h1
  go_enter Try.func114, Try.ntmps114
  go_wp2_with (go_at_call 115; refine cl.mono ?_; rintro e w' ⟨L, rfl, hL, rfl⟩)
  go_ret
  obtain ⟨h2, h3, h4⟩ := hL
  have hL64 : L ≤ 64 := by
    rcases Nat.lt_or_ge 64 L with h | h
    · have := Nat.pow_le_pow_right (n := 2) (by omega) (show 64 ≤ L - 1 by omega)
      omega
    · exact h
  refine ⟨64 - L, ?_, ⟨by omega, ?_, ?_⟩, rfl⟩
  · refine congrArg (fun z => Ending.returned (Value.int .i64 z)) ?_
    first
      | (rw [IntKind.wrap_i64]; omega)
      | (unfold wrap64; omega)
  · have e : (9223372036854775808 : Nat) = 2 ^ (L - 1) * 2 ^ (64 - L) := by rw [← Nat.pow_add, show L - 1 + (64 - L) = 63 by omega]
    rw [e]
    exact Nat.mul_le_mul_right _ h3
  · have e : (18446744073709551616 : Nat) = 2 ^ L * 2 ^ (64 - L) := by rw [← Nat.pow_add, show L + (64 - L) = 64 by omega]
    rw [e]
    exact Nat.mul_lt_mul_of_pos_right h4 (Nat.two_pow_pos _)
end Go.Proofs.Ytbclbcldplmppaa

/- The arithmetic of a division of two words by one, digit by digit. Plain Lean. -/
namespace Go.Proofs.Ytbclbcldplmppaa
open Go.RowKit

/-- A digit that is too great by little, and what it leaves. -/
structure Dig (Y1 Y0 u u1 q r : Nat) : Prop where
  sum : q * Y1 + r = u
  up : u * 4294967296 + u1 < (q + 1) * (Y1 * 4294967296 + Y0)

section
variable {Y1 Y0 u u1 q r : Nat}
theorem mul_y (q Y1 Y0 : Nat) : q * (Y1 * 4294967296 + Y0) = q * Y1 * 4294967296 + q * Y0 := by rw [Nat.mul_add, Nat.mul_assoc]
theorem Dig.start (h1 : 1 ≤ Y1) (hu1 : u1 < 4294967296) : Dig Y1 Y0 u u1 (u / Y1) (u % Y1) := by
  have h := Nat.div_add_mod u Y1
  have hr := Nat.mod_lt u (show 0 < Y1 by omega)
  rw [Nat.mul_comm] at h
  refine ⟨h, ?_⟩
  rw [mul_y, Nat.add_mul, Nat.one_mul, Nat.add_mul, Nat.add_mul, Nat.one_mul]
  generalize u / Y1 * Y1 = a at *
  generalize u / Y1 * Y0 = b at *
  omega
theorem Dig.exit (h : Dig Y1 Y0 u u1 q r) (hb : q * Y0 ≤ 4294967296 * r + u1) : (u * 4294967296 + u1) / (Y1 * 4294967296 + Y0) = q := by
  obtain ⟨hs, hu⟩ := h
  refine Nat.div_eq_of_lt_le ?_ hu
  rw [mul_y]
  generalize q * Y1 = a at *
  generalize q * Y0 = b at *
  omega
theorem Dig.pos (hb : 4294967296 ≤ q ∨ 4294967296 * r + u1 < q * Y0) : 1 ≤ q := by
  rcases hb with h | h
  · omega
  · rcases Nat.eq_zero_or_pos q with e | e
    · subst e; omega
    · exact e
theorem Dig.dec (h : Dig Y1 Y0 u u1 q r) (hu : u < Y1 * 4294967296 + Y0) (hu1 : u1 < 4294967296) (hb : 4294967296 ≤ q ∨ 4294967296 * r + u1 < q * Y0) : Dig Y1 Y0 u u1 (q - 1) (r + Y1) := by
  have hp := Dig.pos hb
  obtain ⟨q', rfl⟩ : ∃ q', q = q' + 1 := ⟨q - 1, by omega⟩
  obtain ⟨hs, _⟩ := h
  simp only [Nat.add_sub_cancel]
  refine ⟨by rw [Nat.add_mul, Nat.one_mul] at hs; generalize q' * Y1 = a at *; omega, ?_⟩
  rcases hb with h | h
  · have := Nat.mul_le_mul_right (Y1 * 4294967296 + Y0) h
    omega
  · rw [mul_y]
    generalize (q' + 1) * Y1 = a at *
    generalize (q' + 1) * Y0 = b at *
    omega
theorem Dig.brk (h : Dig Y1 Y0 u u1 q r) (hu : u < Y1 * 4294967296 + Y0) (h0 : Y0 < 4294967296) (hr : 4294967296 ≤ r) : q < 4294967296 ∧ q * Y0 ≤ 4294967296 * r + u1 := by
  have hq : q < 4294967296 := by
    rcases Nat.lt_or_ge q 4294967296 with h1 | h1
    · exact h1
    · have := Nat.mul_le_mul_right Y1 h1
      obtain ⟨hs, _⟩ := h
      generalize q * Y1 = a at *
      omega
  refine ⟨hq, ?_⟩
  have h1 : q * Y0 ≤ 4294967296 * 4294967296 := Nat.mul_le_mul (by omega) (by omega)
  have h2 : 4294967296 * 4294967296 ≤ 4294967296 * r := Nat.mul_le_mul_left _ hr
  omega
theorem Dig.le (h : Dig Y1 Y0 u u1 q r) (hu : u < Y1 * 4294967296 + Y0) (h0 : Y0 < 4294967296) (h1 : 2147483648 ≤ Y1) : q ≤ 4294967297 := by
  rcases Nat.lt_or_ge 4294967297 q with h2 | h2
  · have := Nat.mul_le_mul_right Y1 h2
    obtain ⟨hs, _⟩ := h
    generalize q * Y1 = a at *
    omega
  · exact h2
theorem Dig.small (h : Dig Y1 Y0 u u1 q r) (hu : u < Y1 * 4294967296 + Y0) (h0 : Y0 < 4294967296) (hq : 4294967296 ≤ q) : r < 4294967296 := by
  have := Nat.mul_le_mul_right Y1 hq
  obtain ⟨hs, _⟩ := h
  generalize q * Y1 = a at *
  omega
theorem digit_lt (hu : u < Y1 * 4294967296 + Y0) (hu1 : u1 < 4294967296) : (u * 4294967296 + u1) / (Y1 * 4294967296 + Y0) < 4294967296 := by
  rw [Nat.div_lt_iff_lt_mul (by omega)]
  omega
end

/-- What the first digit leaves. -/
theorem div_second {U Y T1 q : Nat} (hU : U < Y) (hY : Y < 18446744073709551616) (_hT : T1 < 4294967296) (hq : (U * 4294967296 + T1) / Y = q) :
    ∃ U2 : Nat, IntKind.u64.wrap (IntKind.u64.wrap (IntKind.u64.wrap ((U : Int) * 4294967296) + (T1 : Int)) - IntKind.u64.wrap ((q : Int) * (Y : Int))) = (U2 : Int) ∧ U2 < Y ∧ q * Y + U2 = U * 4294967296 + T1 := by
  have h := Nat.div_add_mod (U * 4294967296 + T1) Y
  have hr := Nat.mod_lt (U * 4294967296 + T1) (show 0 < Y by omega)
  rw [hq, Nat.mul_comm] at h
  refine ⟨(U * 4294967296 + T1) % Y, ?_, hr, h⟩
  rw [mulN_]
  generalize (U * 4294967296 + T1) % Y = R at *
  generalize q * Y = P at *
  simp only [IntKind.wrap_u64]
  omega

/-- The two digits together. -/
theorem div_both {U Y T1 T0 q q0 U2 : Nat} (hU : U < Y) (hY : Y < 18446744073709551616) (hT : T1 < 4294967296) (hT0 : T0 < 4294967296) (h1 : q * Y + U2 = U * 4294967296 + T1) (h2 : U2 < Y) (hq0 : (U2 * 4294967296 + T0) / Y = q0) {N : Nat} (hN : N = (U * 18446744073709551616 + (T1 * 4294967296 + T0)) / Y) :
    IntKind.u64.wrap (IntKind.u64.wrap ((q : Int) * 4294967296) + (q0 : Int)) = (N : Int) := by
  have e : U * 18446744073709551616 + (T1 * 4294967296 + T0) = (U2 * 4294967296 + T0) + q * 4294967296 * Y := by
    rw [Nat.mul_right_comm]
    generalize q * Y = P at *
    omega
  rw [e, Nat.add_mul_div_right _ _ (by omega), hq0] at hN
  have hq : q < 4294967296 := by
    rcases Nat.lt_or_ge q 4294967296 with h | h
    · exact h
    · have := Nat.mul_le_mul_right Y h
      generalize q * Y = P at *
      omega
  have hq1 : q0 < 4294967296 := by
    rw [← hq0, Nat.div_lt_iff_lt_mul (by omega)]
    omega
  subst hN
  rw [IntKind.wrap_u64, IntKind.wrap_u64]
  omega

/-- The numbers of the division, as the words hold them. -/
theorem div_setup (hi lo y s : Nat) (hy : hi < y) (hlo : lo < 18446744073709551616) (hs : s ≤ 63) (hs2 : 9223372036854775808 ≤ y * 2 ^ s) (hs3 : y * 2 ^ s < 18446744073709551616) :
    ∃ Y Y1 Y0 U T T1 T0 : Nat, IntKind.u64.wrap ((y : Int) * 2 ^ s) = (Y : Int) ∧ (Y : Int) / 4294967296 = (Y1 : Int) ∧ bits .and .u64 (Y : Int) 4294967295 = (Y0 : Int) ∧
      bits .or .u64 (IntKind.u64.wrap ((hi : Int) * 2 ^ s)) ((lo : Int) / 2 ^ (64 - s)) = (U : Int) ∧ IntKind.u64.wrap ((lo : Int) * 2 ^ s) = (T : Int) ∧ (T : Int) / 4294967296 = (T1 : Int) ∧ bits .and .u64 (T : Int) 4294967295 = (T0 : Int) ∧
      Y = Y1 * 4294967296 + Y0 ∧ Y0 < 4294967296 ∧ 2147483648 ≤ Y1 ∧ Y1 < 4294967296 ∧ U < Y ∧ T1 < 4294967296 ∧ T0 < 4294967296 ∧
      (hi * 18446744073709551616 + lo) / y = (U * 18446744073709551616 + (T1 * 4294967296 + T0)) / Y := by
  have hp : 0 < 2 ^ s := Nat.two_pow_pos s
  have e64 : (18446744073709551616 : Nat) = 2 ^ (64 - s) * 2 ^ s := by rw [← Nat.pow_add, show 64 - s + s = 64 by omega]
  have hc : ∀ a : Nat, ((a : Int) * 2 ^ s) = ((a * 2 ^ s : Nat) : Int) := fun a => by rw [Int.natCast_mul, Int.natCast_pow]; rfl
  have hhi : (hi + 1) * 2 ^ s ≤ y * 2 ^ s := Nat.mul_le_mul_right _ hy
  rw [Nat.add_mul, Nat.one_mul] at hhi
  have hC : lo / 2 ^ (64 - s) < 2 ^ s := by
    rw [Nat.div_lt_iff_lt_mul (Nat.two_pow_pos _), Nat.mul_comm, ← e64]; exact hlo
  have hdiv : lo * 2 ^ s / 18446744073709551616 = lo / 2 ^ (64 - s) := by
    rw [e64]; exact Nat.mul_div_mul_right _ _ hp
  have hor : (hi * 2 ^ s) ||| (lo / 2 ^ (64 - s)) = hi * 2 ^ s + lo / 2 ^ (64 - s) := by
    have := Nat.shiftLeft_add_eq_or_of_lt hC hi
    rw [Nat.shiftLeft_eq] at this
    exact this.symm
  refine ⟨y * 2 ^ s, y * 2 ^ s / 4294967296, y * 2 ^ s % 4294967296, hi * 2 ^ s + lo / 2 ^ (64 - s), lo * 2 ^ s % 18446744073709551616, lo * 2 ^ s % 18446744073709551616 / 4294967296, lo * 2 ^ s % 18446744073709551616 % 4294967296, ?_, ?_, ?_, ?_, ?_, ?_, ?_, ?_, ?_, ?_, ?_, ?_, ?_, ?_, ?_⟩
  · rw [hc, wrapN_ _ hs3]
  · rw [divN_]
  · rw [maskN_ _ hs3]
  · have h1 : ((lo : Int) / 2 ^ (64 - s)) = ((lo / 2 ^ (64 - s) : Nat) : Int) := by
      rw [Int.natCast_ediv, Int.natCast_pow]; rfl
    rw [hc, wrapN_ _ (by omega), h1, ← hor]
    exact bits_or_u64_nat _ _ (by omega) (by omega)
  · rw [hc, wrapM_]
  · rw [divN_]
  · rw [maskN_ _ (Nat.mod_lt _ (by omega))]
  · omega
  · exact Nat.mod_lt _ (by omega)
  · omega
  · omega
  · omega
  · omega
  · exact Nat.mod_lt _ (by omega)
  · have e1 : (hi * 18446744073709551616 + lo) * 2 ^ s = (hi * 2 ^ s + lo / 2 ^ (64 - s)) * 18446744073709551616 + (lo * 2 ^ s % 18446744073709551616 / 4294967296 * 4294967296 + lo * 2 ^ s % 18446744073709551616 % 4294967296) := by
      rw [Nat.add_mul, Nat.mul_right_comm, ← hdiv]
      generalize hi * 2 ^ s = a
      generalize lo * 2 ^ s = b
      omega
    rw [← e1]
    exact (Nat.mul_div_mul_right _ _ hp).symm
end Go.Proofs.Ytbclbcldplmppaa
