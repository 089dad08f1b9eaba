/- Lists of numbers compared and copied; the reference's Places. -/
import Derived.Test.YtbclbcldplmppaaGs
namespace Go.Proofs.Ytbclbcldplmppaa
open Go.RowKit

def sameB (xs ys : List Int) : Bool := decide (xs = ys)
theorem sameB_true {xs ys : List Int} (hl : xs.length = ys.length) (h : ∀ j, j < xs.length → getI xs j = getI ys j) : true = sameB xs ys := by
  have : xs = ys := by
    apply List.ext_getElem hl
    intro i h1 h2
    have := h i h1
    rwa [getI_eq h1, getI_eq h2] at this
  simp [sameB, this]
theorem sameB_len {xs ys : List Int} (hl : xs.length ≠ ys.length) : false = sameB xs ys := by
  have : xs ≠ ys := fun h => hl (by rw [h])
  simp [sameB, this]
theorem sameB_at {xs ys : List Int} (j : Nat) (h : getI xs j ≠ getI ys j) : false = sameB xs ys := by
  have : xs ≠ ys := fun h' => h (by rw [h'])
  simp [sameB, this]

set_option maxHeartbeats 400000 in
theorem same_ints (A B : Option Addr) (c d : Nat) (xs ys : List Int) (w : World) (hA : Ints w A xs) (hB : Ints w B ys) (hx : xs.length ≤ 1000000) :
    Calls Try.prog 16 #[.slice A xs.length c, .slice B ys.length d] w fun e w' => e = .returned (.bool (sameB xs ys)) ∧ Ext w w' := by
  by_cases hl : xs.length = ys.length
  · have ht := fun h => sameB_true hl h
    have hf := fun j h => sameB_at (xs := xs) (ys := ys) j h
    have Ht := Lib.hid ht
    have Hf := Lib.hid hf
    have ca := fun (k : Nat) (hk : k < xs.length) => hA.some_ (by omega)
    have cb := fun (k : Nat) (hk : k < xs.length) => hB.some_ (by omega)
    have Ca := Lib.hid ca
    have Cb := Lib.hid cb
    clear ca cb ht hf hA hB
    rw [← hl] at Cb ⊢
    clear hl
    generalize xs.length = n at *
    go_enter Try.func16, Try.ntmps16
    go_wp2
    go_loopw [5] (fun i wr => ∃ k : Nat, k ≤ n ∧ i = .int .i64 k ∧ Ext w wr ∧ ∀ j, j < k → getI xs j = getI ys j) (fun i _ => n - (intOf i).toNat)
    case atStart => exact ⟨0, by omega, rfl, Ext.refl _, fun j hj => by omega⟩
    case round =>
      obtain ⟨k, hk, rfl, hex, hall⟩ := hrel
      have Hall := Lib.hid hall
      clear hall
      by_cases hlt : k < n
      · obtain ⟨ad, rfl, hca⟩ := Ca.out k hlt
        obtain ⟨bd, rfl, hcb⟩ := Cb.out k hlt
        have c1 := hca k hlt wr hex
        have c2 := hcb k hlt wr hex
        have b1 : (k : Int) < (n : Int) := by omega
        clear hca hcb
        go_wp2
        go_quiet (fail)
        go_wp2
        · go_ret
          exact ⟨ret_b (Hf.out k (by simp_all)), hex.trans (by simp)⟩
        · go_roundw
          case rel => exact ⟨k + 1, by omega, by go_num, hex.trans (by simp), fun j hj => by
            by_cases hjk : j = k
            · subst hjk; simp_all
            · exact Hall.out j (by omega)⟩
          case measure => simp [intOf]; omega
      · go_wp2
        go_ret
        exact ⟨ret_b (Ht.out fun j hj => Hall.out j (by omega)), hex⟩
  · have hf := sameB_len hl
    have hne : ((xs.length : Int) != (ys.length : Int)) = true := by rw [bne_iff_ne]; omega
    have Hf := Lib.hid hf
    clear hf hl hA hB
    generalize xs.length = n at *
    generalize ys.length = m at *
    go_enter Try.func16, Try.ntmps16
    go_wp2
    go_ret
    exact ⟨ret_b Hf.out, by simp⟩
set_option maxHeartbeats 400000 in
theorem equal_ints (A B : Option Addr) (c d : Nat) (xs ys : List Int) (w : World) (hA : Ints w A xs) (hB : Ints w B ys) (hx : xs.length ≤ 1000000) :
    Calls Try.prog 60 #[.slice A xs.length c, .slice B ys.length d] w fun e w' => e = .returned (.bool (sameB xs ys)) ∧ Ext w w' := by
  by_cases hl : xs.length = ys.length
  · have ht := fun h => sameB_true hl h
    have hf := fun j h => sameB_at (xs := xs) (ys := ys) j h
    have Ht := Lib.hid ht
    have Hf := Lib.hid hf
    have ca := fun (k : Nat) (hk : k < xs.length) => hA.some_ (by omega)
    have cb := fun (k : Nat) (hk : k < xs.length) => hB.some_ (by omega)
    have Ca := Lib.hid ca
    have Cb := Lib.hid cb
    clear ca cb ht hf hA hB
    rw [← hl] at Cb ⊢
    clear hl
    generalize xs.length = n at *
    go_enter Try.func60, Try.ntmps60
    go_wp2
    go_loopw [13] (fun i wr => ∃ k : Nat, k ≤ n ∧ i = .int .i64 k ∧ Ext w wr ∧ ∀ j, j < k → getI xs j = getI ys j) (fun i _ => n - (intOf i).toNat)
    case atStart => exact ⟨0, by omega, rfl, Ext.refl _, fun j hj => by omega⟩
    case round =>
      obtain ⟨k, hk, rfl, hex, hall⟩ := hrel
      have Hall := Lib.hid hall
      clear hall
      by_cases hlt : k < n
      · obtain ⟨ad, rfl, hca⟩ := Ca.out k hlt
        obtain ⟨bd, rfl, hcb⟩ := Cb.out k hlt
        have c1 := hca k hlt wr hex
        have c2 := hcb k hlt wr hex
        have b1 : (k : Int) < (n : Int) := by omega
        clear hca hcb
        go_wp2
        go_quiet (fail)
        go_wp2
        · go_ret
          exact ⟨ret_b (Hf.out k (by simp_all)), hex.trans (by simp)⟩
        · go_roundw
          case rel => exact ⟨k + 1, by omega, by go_num, hex.trans (by simp), fun j hj => by
            by_cases hjk : j = k
            · subst hjk; simp_all
            · exact Hall.out j (by omega)⟩
          case measure => simp [intOf]; omega
      · go_wp2
        go_ret
        exact ⟨ret_b (Ht.out fun j hj => Hall.out j (by omega)), hex⟩
  · have hf := sameB_len hl
    have hne : ((xs.length : Int) != (ys.length : Int)) = true := by rw [bne_iff_ne]; omega
    have Hf := Lib.hid hf
    clear hf hl hA hB
    generalize xs.length = n at *
    generalize ys.length = m at *
    go_enter Try.func60, Try.ntmps60
    go_wp2
    go_ret
    exact ⟨ret_b Hf.out, by simp⟩

/-- slices.Clone: a copy of its own. -/
theorem clone_ints (A : Option Addr) (c : Nat) (xs : List Int) (w : World) (hA : Ints w A xs) (hx : xs.length ≤ 1000000) (hpos : 0 < xs.length) :
    Calls Try.prog 59 #[.slice A xs.length c] w fun e w' => ∃ v, e = .returned v ∧ OwnI w w' v xs := by
  obtain ⟨ad, rfl, _⟩ := hA.some_ hpos
  have HA := Lib.hid hA
  obtain ⟨n, hn⟩ : ∃ n, n = xs.length := ⟨_, rfl⟩
  rw [← hn] at hx hpos ⊢
  have Hn := Lib.hid hn
  clear hn hA
  have hnil := fun W => Lib.run_eql_slice_nil (P := Try.prog) W 22 3 (some ad) n c 0 0 Try.underlying22
  go_enter Try.func59, Try.ntmps59
  have hown0 : Own w (w.alloc (.cells #[] 3)) 3 1 (.slice (some ⟨w.heap.size, 0, none⟩) 0 0) 0 [] := Own.lit (Ext.refl _) #[] 0 (Nat.zero_le _) rfl
  have hrow : Row (w.alloc (.cells #[] 3)) (some ad) (xs.map vint) := Row.ext HA.out (by simp)
  have k1 : (xs.map vint).length = n * 1 := by simp [Hn.out]
  have k2 : ∀ u ∈ xs.map vint, u.oneCell' = true := by intro u hu; simp at hu; obtain ⟨x, _, rfl⟩ := hu; rfl
  have K1 := Lib.hid k1
  have K2 := Lib.hid k2
  clear k1 k2
  go_wp2_with (at_builtin; refine own_append_src (w1 := w) int_elem rfl _ _ 22 rfl Try.underlying22 (.slice (some ⟨w.heap.size, 0, none⟩) 0 0) 0 [] rfl hown0 ad n c (xs.map vint) rfl K1.out hrow K2.out (by omega) (by unfold maxLen; omega) ?_; intro v' w2 hown2 _)
  go_ret
  rw [Nat.zero_add, List.nil_append, Hn.out] at hown2
  exact ⟨_, rfl, hown2⟩
end Go.Proofs.Ytbclbcldplmppaa
