/- Slices that read as lists of numbers. No program in sight. -/
import Derived.Test.YtbclbcldplmppaaCalm
namespace Go.Proofs.Ytbclbcldplmppaa
open Go.RowKit

theorem block_of_add (a : Addr) (n : Nat) : (a.add n).block = a.block := by unfold Addr.add; split <;> rfl
theorem add_of_add (a : Addr) (i j : Nat) : (a.add i).add j = a.add (i + j) := by
  unfold Addr.add
  by_cases hi : i = 0 <;> by_cases hj : j = 0 <;> simp [hi, hj, Nat.add_assoc]

/-- The slice with this address, of as many cells as there are values, holds them. -/
def Row (w : World) (A : Option Addr) (xs : List Value) : Prop := ∀ k, k < xs.length → ∃ ad, A = some ad ∧ w.cell? (ad.add k) = xs[k]?

abbrev vint (x : Int) : Value := .int .i64 x
def Ints (w : World) (A : Option Addr) (xs : List Int) : Prop := Row w A (xs.map vint)

/-- The number at a place, behind a name that the walk does not open. -/
def getI (xs : List Int) (k : Nat) : Int := xs[k]?.getD 0
theorem getI_eq {xs : List Int} {k : Nat} (h : k < xs.length) : getI xs k = xs[k] := by simp [getI, h]

theorem Row.ext {w w' : World} {A : Option Addr} {xs : List Value} (h : Row w A xs) (he : Ext w w') : Row w' A xs := fun k hk => by
  obtain ⟨ad, ha, hc⟩ := h k hk
  refine ⟨ad, ha, ?_⟩
  rw [List.getElem?_eq_getElem hk] at hc ⊢
  exact he.cell hc
theorem Ints.ext {w w' : World} {A : Option Addr} {xs : List Int} (h : Ints w A xs) (he : Ext w w') : Ints w' A xs := Row.ext h he
theorem Row.nil (w : World) (A : Option Addr) : Row w A [] := fun k hk => absurd hk (by simp)
theorem Ints.nil (w : World) (A : Option Addr) : Ints w A [] := Row.nil w A

theorem Ints.at_ {w : World} {A : Option Addr} {xs : List Int} (h : Ints w A xs) {k : Nat} (hk : k < xs.length) : ∃ ad, A = some ad ∧ w.cell? (ad.add k) = some (.int .i64 (getI xs k)) := by
  obtain ⟨ad, ha, hc⟩ := h k (by simpa using hk)
  refine ⟨ad, ha, ?_⟩
  rw [hc]
  simp [getI, hk]
/-- The cells of a slice that is not empty, for every world that holds what w holds. -/
theorem Ints.some_ {w : World} {A : Option Addr} {xs : List Int} (h : Ints w A xs) (hn : 0 < xs.length) : ∃ ad, A = some ad ∧ ∀ k, k < xs.length → ∀ w', Ext w w' → w'.cell? (ad.add k) = some (.int .i64 (getI xs k)) := by
  obtain ⟨ad, ha, _⟩ := h.at_ hn
  refine ⟨ad, ha, fun k hk w' he => ?_⟩
  obtain ⟨ad', ha', hc⟩ := h.at_ hk
  rw [ha] at ha'
  injection ha' with ha'
  subst ha'
  exact he.cell hc

theorem add_zero_ (ad : Addr) : ad.add 0 = ad := by unfold Addr.add; simp
/-- .. and the first one, as the walk writes it. -/
theorem Ints.some0 {w : World} {A : Option Addr} {xs : List Int} (h : Ints w A xs) (hn : 0 < xs.length) :
    ∃ ad, A = some ad ∧ (∀ k, k < xs.length → ∀ w', Ext w w' → w'.cell? (ad.add k) = some (.int .i64 (getI xs k))) ∧ ∀ w', Ext w w' → w'.cell? ad = some (.int .i64 (getI xs 0)) := by
  obtain ⟨ad, ha, hc⟩ := h.some_ hn
  exact ⟨ad, ha, hc, fun w' he => by have := hc 0 hn w' he; rwa [add_zero_] at this⟩

theorem Row.of_own {w : World} {base : Nat} {e : TypeId} {size : Nat} {A : Option Addr} {n c : Nat} {xs : List Value} (h : w.ownsRow base e size (.slice A n c) n xs) : Row w A xs := by
  intro k hk
  rcases h.2 with ⟨hv, hn⟩ | ⟨g, cap, cur, hv, _, hh, _, _, _, htake⟩
  · have := h.1; rw [hn] at this; omega
  · injection hv with h1 h2 h3
    subst h1
    refine ⟨_, rfl, ?_⟩
    exact (World.ownsRow.cells h (g := g) rfl k _ (List.getElem?_eq_getElem hk)).trans (List.getElem?_eq_getElem hk).symm

theorem add_lit (a : Addr) (j : Nat) (h : j ≠ 0) : a.add j = ⟨a.block, a.off + j, none⟩ := by unfold Addr.add; rw [if_neg h]

/-! ### Slices of structs: rows of cells -/

theorem flatten_get (size : Nat) : ∀ (rows : List (List Value)), (∀ r ∈ rows, r.length = size) → ∀ k j, j < size → (hk : k < rows.length) → rows.flatten[k * size + j]? = rows[k][j]?
  | [], _, _, _, _, hk => by simp at hk
  | r :: rows, h, 0, j, hj, _ => by
    have hr := h r (by simp)
    simp [List.getElem?_append, hr, hj]
  | r :: rows, h, k + 1, j, hj, hk => by
    have hr := h r (by simp)
    have ih := flatten_get size rows (fun x hx => h x (by simp [hx])) k j hj (by simpa using hk)
    rw [List.flatten_cons, List.getElem?_append_right (by rw [hr, Nat.add_mul]; omega), hr, show (k + 1) * size + j - size = k * size + j by rw [Nat.add_mul]; omega]
    simpa using ih
theorem flatten_len (size : Nat) : ∀ (rows : List (List Value)), (∀ r ∈ rows, r.length = size) → rows.flatten.length = rows.length * size
  | [], _ => by simp
  | r :: rows, h => by
    rw [List.flatten_cons, List.length_append, h r (by simp), flatten_len size rows (fun x hx => h x (by simp [hx])), List.length_cons, Nat.add_mul]
    omega

/-- Element k's cells, for every world that holds what w holds. -/
theorem Row.struct {w : World} {A : Option Addr} {rows : List (List Value)} {size : Nat} (h : Row w A rows.flatten) (hs : ∀ r ∈ rows, r.length = size) {k : Nat} (hk : k < rows.length) (hpos : 0 < size) :
    ∃ ad, A = some ad ∧ ∀ j (hj : j < size), ∀ w', Ext w w' → w'.cell? ((ad.add (k * size)).add j) = some (rows[k][j]'(by rw [hs _ (List.getElem_mem hk)]; exact hj)) := by
  have hlen := flatten_len size rows hs
  have hlt : ∀ j, j < size → k * size + j < rows.flatten.length := fun j hj => by
    rw [hlen]
    have : (k + 1) * size ≤ rows.length * size := Nat.mul_le_mul_right _ hk
    rw [Nat.add_mul] at this
    omega
  obtain ⟨ad, ha, _⟩ := h _ (hlt 0 hpos)
  refine ⟨ad, ha, fun j hj w' he => ?_⟩
  obtain ⟨ad', ha', hc⟩ := h _ (hlt j hj)
  rw [ha] at ha'
  injection ha' with ha'
  subst ha'
  rw [add_of_add]
  refine he.cell (hc.trans ?_)
  rw [flatten_get size rows hs k j hj hk, List.getElem?_eq_getElem]
end Go.Proofs.Ytbclbcldplmppaa
