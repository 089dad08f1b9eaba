/- Pistons, sixth text: the period, by the reference. -/
import Derived.Test.YtbclbcldplmppaaGu
namespace Go.Proofs.Ytbclbcldplmppaa
open Go.RowKit

structure Pis where
  a : Option Addr
  c : Nat
  lift : List Int
  op : Int
  st : Int
def Pis.cells (p : Pis) : List Value := [.slice p.a p.lift.length p.c, vint p.op, vint p.st]
def Pis.val (p : Pis) : Value := .agg #[.slice p.a p.lift.length p.c, vint p.op, vint p.st]
def Pis.ok (p : Pis) : Bool := vpB p.lift p.op p.st
/-- A slice of pistons, each with its own lifts (of a modest number). -/
structure PRow (w : World) (A : Option Addr) (ps : List Pis) : Prop where
  row : Row w A (ps.map Pis.cells).flatten
  lifts : ∀ p ∈ ps, Ints w p.a p.lift
  small : ∀ p ∈ ps, p.lift.length ≤ 100000
theorem PRow.ext {w w' : World} {A : Option Addr} {ps : List Pis} (h : PRow w A ps) (he : Ext w w') : PRow w' A ps := ⟨h.row.ext he, fun p hp => (h.lifts p hp).ext he, h.small⟩

theorem PRow.at_ {w : World} {A : Option Addr} {ps : List Pis} (h : PRow w A ps) {k : Nat} (hk : k < ps.length) :
    ∃ ad, A = some ad ∧ (∀ w', Ext w w' → w'.cell? (ad.add (k * 3)) = some (.slice ps[k].a ps[k].lift.length ps[k].c)) ∧
      (∀ w', Ext w w' → w'.cell? ⟨(ad.add (k * 3)).block, (ad.add (k * 3)).off + 1, none⟩ = some (.int .i64 ps[k].op)) ∧ (∀ w', Ext w w' → w'.cell? ⟨(ad.add (k * 3)).block, (ad.add (k * 3)).off + 2, none⟩ = some (.int .i64 ps[k].st)) ∧ Ints w ps[k].a ps[k].lift := by
  obtain ⟨ad, ha, hc⟩ := h.row.struct (size := 3) (by simp [Pis.cells]) (k := k) (by simpa using hk) (by omega)
  refine ⟨ad, ha, fun w' he => ?_, fun w' he => ?_, fun w' he => ?_, h.lifts _ (List.getElem_mem hk)⟩
  · have := hc 0 (by omega) w' he
    rw [add_zero_] at this
    simpa [Pis.cells] using this
  · have := hc 1 (by omega) w' he
    rw [add_lit _ _ (by omega)] at this
    simpa [Pis.cells] using this
  · have := hc 2 (by omega) w' he
    rw [add_lit _ _ (by omega)] at this
    simpa [Pis.cells] using this

/-- Whether n is a multiple of all numbers of entries, or above 5000. -/
def fitsB (ps : List Pis) (n : Nat) : Bool := decide (∀ p ∈ ps, n % p.lift.length = 0) || decide (5000 < n)
theorem fitsB_all {ps : List Pis} {n : Nat} (h : ∀ i (hi : i < ps.length), n % ps[i].lift.length = 0) : true = fitsB ps n := by
  have : ∀ p ∈ ps, n % p.lift.length = 0 := fun p hp => by
    obtain ⟨i, hi, rfl⟩ := List.getElem_of_mem hp
    exact h i hi
  simp only [fitsB, decide_eq_true this, Bool.true_or]
theorem fitsB_not {ps : List Pis} {n i : Nat} (hi : i < ps.length) (h : n % ps[i].lift.length ≠ 0) : decide (5000 < n) = fitsB ps n := by
  have : ¬ ∀ p ∈ ps, n % p.lift.length = 0 := fun hh => h (hh _ (List.getElem_mem hi))
  simp only [fitsB, decide_eq_false this, Bool.false_or]

theorem ret_dec {p q : Prop} [Decidable p] [Decidable q] (h : p ↔ q) : decide p = decide q := by simp [h]
theorem mod_ne {n q : Nat} (h : ((n : Int) % (q : Int) != 0) = true) : n % q ≠ 0 := by
  rw [bne_iff_ne] at h
  intro h'
  exact h (by rw [← Int.natCast_emod, h']; rfl)
theorem mod_eq {n q : Nat} (h : ((n : Int) % (q : Int) != 0) = false) : n % q = 0 := by
  have h' : (n : Int) % (q : Int) = 0 := by simpa using h
  rw [← Int.natCast_emod] at h'
  omega

set_option maxHeartbeats 400000 in
theorem fits_any (A : Option Addr) (c : Nat) (ps : List Pis) (n : Nat) (w : World) (hA : PRow w A ps) (hl : ps.length ≤ 1000) (hn : n ≤ 1000000) (hpos : ∀ p ∈ ps, 0 < p.lift.length) :
    Calls Try.prog 91 #[.slice A ps.length c, .int .i64 n] w fun e w' => e = .returned (.bool (fitsB ps n)) ∧ w = w' := by
  have hr := fun k (hk : k < ps.length) => hA.at_ hk
  have ha := fitsB_all (ps := ps) (n := n)
  have hno := fun i (hi : i < ps.length) h => fitsB_not (ps := ps) (n := n) hi h
  have hp := fun i (hi : i < ps.length) => hpos _ (List.getElem_mem hi)
  have hsm := fun i (hi : i < ps.length) => hA.small _ (List.getElem_mem hi)
  have Hr := Lib.hid hr
  have Ha := Lib.hid ha
  have Hno := Lib.hid hno
  have Hp := Lib.hid hp
  have Hsm := Lib.hid hsm
  clear hr ha hno hp hA hpos hsm
  obtain ⟨m, hm⟩ : ∃ m, m = ps.length := ⟨_, rfl⟩
  rw [← hm] at hl ⊢
  have Hm := Lib.hid hm
  clear hm
  go_enter Try.func91, Try.ntmps91
  go_wp2
  go_loop [5] (fun i => ∃ k : Nat, k ≤ m ∧ i = .int .i64 k ∧ ∀ j (hj : j < ps.length), j < k → n % ps[j].lift.length = 0) (fun i => m - (intOf i).toNat)
  case atStart => exact ⟨0, by omega, rfl, fun j _ hj => by omega⟩
  case round =>
    obtain ⟨k, hk, rfl, hall⟩ := hrel
    have Hall := Lib.hid hall
    clear hall
    by_cases hlt : k < m
    · have hkp : k < ps.length := by rw [← Hm.out]; exact hlt
      obtain ⟨ad, rfl, h0, h1, h2, _⟩ := Hr.out k hkp
      have hpk := Hp.out k hkp
      have hsk := Hsm.out k hkp
      have hno := Hno.out k hkp
      have hstep : n % ps[k].lift.length = 0 → ∀ j (hj : j < ps.length), j < k + 1 → n % ps[j].lift.length = 0 := fun h j hj hjk => by
        by_cases e : j = k
        · subst e; exact h
        · exact Hall.out j hj (by omega)
      have e2 : ((n : Int)).tmod (ps[k].lift.length : Int) = ((n % ps[k].lift.length : Nat) : Int) := (Int.tmod_eq_emod_of_nonneg (by omega)).trans (Int.natCast_emod _ _).symm
      generalize ps[k].lift.length = q at *
      have e3 : ((q : Int) = 0) = False := by simp; omega
      have Hno' := Lib.hid hno
      have Hst := Lib.hid hstep
      clear hno hstep
      go_wp2
      · go_ret
        exact ⟨ret_b ((ret_dec (by omega)).trans (Hno'.out (mod_ne (by assumption)))), rfl⟩
      · go_round
        case rel => exact ⟨k + 1, by omega, by go_num, Hst.out (mod_eq (by assumption))⟩
        case measure => simp [intOf]; omega
    · go_wp2
      go_ret
      exact ⟨ret_b (Ha.out fun i hi => Hall.out i hi (by rw [← Hm.out] at hi; omega)), rfl⟩

/-! ### The least period -/

theorem fits_big (ps : List Pis) : fitsB ps 5001 = true := by simp [fitsB]
/-- The least number from k on that fits; the search ends at 5001. -/
def perFrom (ps : List Pis) : Nat → Nat → Nat
  | 0, k => k
  | f + 1, k => if fitsB ps k = true then k else perFrom ps f (k + 1)
def perS (ps : List Pis) : Nat := perFrom ps 5000 1
theorem perFrom_spec (ps : List Pis) : ∀ f k, fitsB ps (k + f) = true → fitsB ps (perFrom ps f k) = true ∧ k ≤ perFrom ps f k ∧ perFrom ps f k ≤ k + f ∧ ∀ j, k ≤ j → j < perFrom ps f k → fitsB ps j = false
  | 0, k, h => ⟨h, Nat.le_refl _, Nat.le_refl _, fun j h1 h2 => by simp [perFrom] at h2; omega⟩
  | f + 1, k, h => by
    unfold perFrom
    split
    · rename_i hk
      exact ⟨hk, Nat.le_refl _, by omega, fun j h1 h2 => by omega⟩
    · rename_i hk
      obtain ⟨h1, h2, h3, h4⟩ := perFrom_spec ps f (k + 1) (by rw [show k + 1 + f = k + (f + 1) by omega]; exact h)
      refine ⟨h1, by omega, by omega, fun j hj1 hj2 => ?_⟩
      by_cases e : j = k
      · subst e; simpa using hk
      · exact h4 j (by omega) hj2
theorem perS_spec (ps : List Pis) : fitsB ps (perS ps) = true ∧ 1 ≤ perS ps ∧ perS ps ≤ 5001 ∧ ∀ j, 1 ≤ j → j < perS ps → fitsB ps j = false := perFrom_spec ps 5000 1 (fits_big ps)

set_option maxHeartbeats 400000 in
theorem period_any (A : Option Addr) (c : Nat) (ps : List Pis) (w : World) (hA : PRow w A ps) (hl : ps.length ≤ 1000) (hpos : ∀ p ∈ ps, 0 < p.lift.length) :
    Calls Try.prog 61 #[.slice A ps.length c] w fun e w' => e = .returned (.int .i64 (perS ps)) ∧ w = w' := by
  have c1 := fun n (hn : n ≤ 1000000) => fits_any A c ps n w hA hl hn hpos
  have sp := perS_spec ps
  have C1 := Lib.hid c1
  have Sp := Lib.hid sp
  clear c1 sp hpos hA
  generalize ps.length = m at *
  go_enter Try.func61, Try.ntmps61
  go_wp2
  go_loop [3] (fun i => ∃ k : Nat, 1 ≤ k ∧ k ≤ perS ps ∧ i = .int .i64 k) (fun i => 6000 - (intOf i).toNat)
  case atStart => exact ⟨1, by omega, Sp.out.2.1, rfl⟩
  case round =>
    obtain ⟨k, hk1, hk2, rfl⟩ := hrel
    have hle : k ≤ 5001 := by have := Sp.out.2.2.1; omega
    have h5 := Sp.out.2.2.1
    by_cases hlt : k < perS ps
    · have hf := Sp.out.2.2.2 k hk1 hlt
      go_wp2_with (go_at_call 91; refine (C1.out _ (by omega)).mono ?_; rintro e w' ⟨rfl, rfl⟩)
      go_round
      case rel => exact ⟨k + 1, by omega, by omega, by go_num⟩
      case measure => simp [intOf]; omega
    · have hk : k = perS ps := by omega
      have hf : fitsB ps k = true := by rw [hk]; exact Sp.out.1
      have Hk := Lib.hid hk
      clear hk
      go_wp2_with (go_at_call 91; refine (C1.out _ (by omega)).mono ?_; rintro e w' ⟨rfl, rfl⟩)
      go_ret
      exact ⟨ret_i (by rw [Hk.out]), rfl⟩
end Go.Proofs.Ytbclbcldplmppaa
