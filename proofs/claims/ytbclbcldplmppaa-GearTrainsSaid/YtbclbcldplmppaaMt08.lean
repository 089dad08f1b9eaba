/- The order of shafts, by the code. -/
import Derived.Deep.Upon
import Derived.Maps.OwnSet
import Derived.Test.YtbclbcldplmppaaMt07
namespace Go.Proofs.Ytbclbcldplmppaa
open Go.RowKit

def ordP (xs : List Int) : Nat → List Int
  | 0 => []
  | k + 1 => ordP xs k ++ (if memB xs k then [] else [(k : Int)])
theorem ordP_skip {xs : List Int} {k : Nat} (h : memB xs k = true) : ordP xs (k + 1) = ordP xs k := by simp [ordP, h]
theorem ordP_take {xs : List Int} {k : Nat} (h : memB xs k = false) : ordP xs (k + 1) = ordP xs k ++ [(k : Int)] := by simp [ordP, h]
theorem ordP_le (xs : List Int) : ∀ k, (ordP xs k).length ≤ k
  | 0 => by simp [ordP]
  | k + 1 => by
    have := ordP_le xs k
    unfold ordP
    split <;> simp <;> omega
/-- The order: those that are not named, then those that are. -/
def ordS (S : Nat) (xs : List Int) : List Int := ordP xs S ++ (match xs with
  | [] => []
  | [x] => [x]
  | [x, y] => if x = y then [x] else [x, y]
  | l => l)
def OrdRes (b : World) (l : List Int) (e : Ending) (w' : World) : Prop := ∃ A c, e = .returned (.slice A l.length c) ∧ Ints w' A l ∧ Ext b w'

theorem Own.cap {w1 w : World} {e : TypeId} {size : Nat} {A : Option Addr} {n m c : Nat} {xs : List Value} (h : Own w1 w e size (.slice A m c) n xs) : n ≤ c := by
  rcases h.2.2 with ⟨hv, hn⟩ | ⟨g, cap, cur, hv, _, _, hle, _⟩
  · injection hv with _ _ h3; omega
  · injection hv with _ _ h3; omega
theorem append_nothing (w : World) (ty : TypeId) (A : Option Addr) (n c : Nat) (h : n ≤ c) : (Builtin.append_ #[22, 22] ty #[.slice A n c, .slice none 0 0]).run Try.prog w = .ok (.slice A n c) w := by
  obtain ⟨i, hi, _⟩ := int_elem.info
  exact run_append_nothing w 22 22 ty 3 i Try.underlying22 hi A n c h _ (Src.ofNil w Try.underlying22 0)


theorem wpList_append_none {ops : Array Oper} {rest : List Oper} {o : Oper} {a : Act} {Q : Exit → Act → World → Prop} {w : World} (hg : o.guard = none) (s x : Operand)
    (hop : o.op = .call { callee := .builtin .append, args := #[s, x], argTypes := #[22, 22] }) (A : Option Addr) (n c : Nat) (h : n ≤ c) (hs : a.eval s = .slice A n c) (hx : a.eval x = .slice none 0 0)
    (hK : wpList Try.prog ops Q rest (a.put o.dst (.slice A n c)) w) : wpList Try.prog ops Q (o :: rest) a w := by
  refine wpList_plain hg fun K' hK' => ?_
  unfold Oper.wp execOp
  simp only [hop, resolve, invoke, builtin, Sem.run_bind, Sem.run_pure, Result.andThen_ok, List.map_toArray, List.map_cons, List.map_nil, hs, hx, append_nothing w _ A n c h]
  exact hK' _ _ hK

theorem he_ {w w' : World} {p : Addr} {v : Value} (h : Ext w w') (hc : w.cell? p = some v) : w'.cell? p = some v := h.cell hc
theorem ints_one {w : World} {g : Nat} {x : Int} (h0 : w.cell? ⟨g, 0, none⟩ = some (vint x)) : Ints w (some ⟨g, 0, none⟩) [x] := fun k hk => by
  obtain rfl : k = 0 := by simpa using hk
  exact ⟨_, rfl, by rw [add_zero_, h0]; rfl⟩
theorem ints_two {w : World} {g : Nat} {x y : Int} (h0 : w.cell? ⟨g, 0, none⟩ = some (vint x)) (h1 : w.cell? ⟨g, 1, none⟩ = some (vint y)) : Ints w (some ⟨g, 0, none⟩) [x, y] := fun k hk => by
  rcases (by simp at hk; omega : k = 0 ∨ k = 1) with rfl | rfl
  · exact ⟨_, rfl, by rw [add_zero_, h0]; rfl⟩
  · exact ⟨_, rfl, by rw [add_lit _ _ (by omega), h1]; rfl⟩

set_option maxRecDepth 100000 in
set_option maxHeartbeats 4000000 in
theorem order_nil (S : Nat) (ms : Value) (b w : World) (hb : Ext b w) (hS : S ≤ 8)  :
    Calls Try.prog 67 #[.agg #[.int .i64 S, ms], .slice none 0 0] w (OrdRes b (ordS S [])) := by
  have hcon := fun (s : Nat) (w' : World) (he : Ext w w') => contains_any none 0 [] s w' (Ints.nil _ _) (by simp)
  simp only [List.length_nil] at hcon
  have Hcon := Lib.hid hcon
  clear hcon
  have hsk := fun (k : Nat) (h : memB [] (k : Int) = true) => ordP_skip (xs := []) h
  have htk := fun (k : Nat) (h : memB [] (k : Int) = false) => ordP_take (xs := []) h
  have hle := fun (k : Nat) => ordP_le [] k
  have Hsk := Lib.hid hsk
  have Htk := Lib.hid htk
  have Hle := Lib.hid hle
  clear hsk htk hle
  have Hb := Lib.hid hb
  clear hb
  go_enter Try.func67, Try.ntmps67
  go_wp2
  go_loopw [9, 5] (fun i o wr => ∃ k : Nat, k ≤ S ∧ i = .int .i64 k ∧ Own w wr 3 1 o (ordP [] k).length ((ordP [] k).map vint)) (fun i _ _ => S - (intOf i).toNat)
  case atStart => exact ⟨0, by omega, rfl, Own.nil' (by simp) _ _⟩
  case round =>
    obtain ⟨k, hk, rfl, hown⟩ := hrel
    obtain ⟨Av, cv, hv⟩ := hown.form
    subst hv
    have hex := hown.ext
    have hlk := Hle.out k
    by_cases hlt : k < S
    · cases hm : memB [] (k : Int)
      · have htk := Htk.out k hm
        have hc := Hcon.out k
        rw [hm] at hc
        have Hc := Lib.hid hc
        have Hk := Lib.hid htk
        clear hc htk hm
        generalize ordP [] k = l at *
        go_wp2_with (first
          | (go_at_call 93; refine (Hc.out _ hex).mono ?_; rintro e w' ⟨rfl, rfl⟩)
          | (refine own_append_int (w1 := w) rfl _ _ rfl _ l.length (l.map vint) rfl hown k rfl (by omega) ?_; intro v' w' ho))
        go_roundw
        case rel =>
          refine ⟨k + 1, by omega, by go_num, ?_⟩
          rw [Hk.out, List.length_append, List.map_append]
          exact ho
        case measure => simp [intOf]; omega
      · have htk := Hsk.out k hm
        have hc := Hcon.out k
        rw [hm] at hc
        have Hc := Lib.hid hc
        have Hk := Lib.hid htk
        clear hc htk hm
        go_wp2_with (go_at_call 93; refine (Hc.out _ hex).mono ?_; rintro e w' ⟨rfl, rfl⟩)
        go_roundw
        case rel => exact ⟨k + 1, by omega, by go_num, by rw [Hk.out]; exact hown⟩
        case measure => simp [intOf]; omega
    · obtain rfl : k = S := by omega
      have hcap : (ordP [] k).length ≤ cv := hown.cap
      have hown' := Lib.hid hown
      generalize hl : ordP [] k = l at *
      clear hown
      go_wp2_with (first
        | (go_at_call 96; refine (compact_nil _).mono ?_; rintro e w' ⟨rfl, rfl⟩)
        | (refine wpList_append_none rfl _ _ rfl Av l.length cv hcap rfl rfl ?_))
      go_ret
      have hown := hown'.out
      have e : ordS k [] = l := by simp [ordS, hl]
      rw [e]
      exact ⟨Av, cv, rfl, Own.row hown, Hb.out.trans hown.ext⟩

set_option maxRecDepth 100000 in
set_option maxHeartbeats 4000000 in
theorem order_one (S : Nat) (ms : Value) (b w : World) (hb : Ext b w) (hS : S ≤ 8) (gl : Nat) (x : Int) (h0 : w.cell? ⟨gl, 0, none⟩ = some (vint x)) :
    Calls Try.prog 67 #[.agg #[.int .i64 S, ms], .slice (some ⟨gl, 0, none⟩) 1 1] w (OrdRes b (ordS S [x])) := by
  have hcon := fun (s : Nat) (w' : World) (he : Ext w w') => contains_any (some ⟨gl, 0, none⟩) 1 [x] s w' (ints_one (he.cell h0)) (by simp)
  simp only [List.length_nil, List.length_cons, Nat.zero_add] at hcon
  have Hcon := Lib.hid hcon
  clear hcon
  have hsk := fun (k : Nat) (h : memB [x] (k : Int) = true) => ordP_skip (xs := [x]) h
  have htk := fun (k : Nat) (h : memB [x] (k : Int) = false) => ordP_take (xs := [x]) h
  have hle := fun (k : Nat) => ordP_le [x] k
  have Hsk := Lib.hid hsk
  have Htk := Lib.hid htk
  have Hle := Lib.hid hle
  clear hsk htk hle
  have Hb := Lib.hid hb
  clear hb
  go_enter Try.func67, Try.ntmps67
  go_wp2
  go_loopw [9, 5] (fun i o wr => ∃ k : Nat, k ≤ S ∧ i = .int .i64 k ∧ Own w wr 3 1 o (ordP [x] k).length ((ordP [x] k).map vint)) (fun i _ _ => S - (intOf i).toNat)
  case atStart => exact ⟨0, by omega, rfl, Own.nil' (by simp) _ _⟩
  case round =>
    obtain ⟨k, hk, rfl, hown⟩ := hrel
    obtain ⟨Av, cv, hv⟩ := hown.form
    subst hv
    have hex := hown.ext
    have hlk := Hle.out k
    by_cases hlt : k < S
    · cases hm : memB [x] (k : Int)
      · have htk := Htk.out k hm
        have hc := Hcon.out k
        rw [hm] at hc
        have Hc := Lib.hid hc
        have Hk := Lib.hid htk
        clear hc htk hm
        generalize ordP [x] k = l at *
        go_wp2_with (first
          | (go_at_call 93; refine (Hc.out _ hex).mono ?_; rintro e w' ⟨rfl, rfl⟩)
          | (refine own_append_int (w1 := w) rfl _ _ rfl _ l.length (l.map vint) rfl hown k rfl (by omega) ?_; intro v' w' ho))
        go_roundw
        case rel =>
          refine ⟨k + 1, by omega, by go_num, ?_⟩
          rw [Hk.out, List.length_append, List.map_append]
          exact ho
        case measure => simp [intOf]; omega
      · have htk := Hsk.out k hm
        have hc := Hcon.out k
        rw [hm] at hc
        have Hc := Lib.hid hc
        have Hk := Lib.hid htk
        clear hc htk hm
        go_wp2_with (go_at_call 93; refine (Hc.out _ hex).mono ?_; rintro e w' ⟨rfl, rfl⟩)
        go_roundw
        case rel => exact ⟨k + 1, by omega, by go_num, by rw [Hk.out]; exact hown⟩
        case measure => simp [intOf]; omega
    · obtain rfl : k = S := by omega
      have hcap : (ordP [x] k).length ≤ cv := hown.cap
      have hown' := Lib.hid hown
      have hr := ints_one (he_ hown.ext h0)
      generalize hl : ordP [x] k = l at *
      clear hown
      go_wp2_with (first
        | (go_at_call 96; refine (compact_one _ _ _).mono ?_; rintro e w' ⟨rfl, rfl⟩)
        | (refine own_append_src (w1 := w) int_elem rfl _ _ 22 rfl Try.underlying22 _ l.length (l.map vint) rfl hown'.out _ 1 1 [vint x] rfl rfl hr (by intro u hu; simp at hu; subst hu; rfl) (by omega) (by unfold maxLen; omega) ?_; intro v' w' ho _; obtain ⟨A', c', rfl⟩ := ho.form))
      go_ret
      have e : ordS k [x] = l ++ [x] := by simp [ordS, hl]
      rw [e]
      refine ⟨A', c', by simp, ?_, Hb.out.trans ho.ext⟩
      have := Own.row ho
      simpa [Ints] using this

set_option maxRecDepth 100000 in
set_option maxHeartbeats 4000000 in
theorem order_two (S : Nat) (ms : Value) (b w : World) (hb : Ext b w) (hS : S ≤ 8) (gl : Nat) (x y : Int) (h0 : w.cell? ⟨gl, 0, none⟩ = some (vint x)) (h1 : w.cell? ⟨gl, 1, none⟩ = some (vint y)) (hf : w.frozen? ⟨gl, 1, none⟩ = false) (hgl : b.heap.size ≤ gl) :
    Calls Try.prog 67 #[.agg #[.int .i64 S, ms], .slice (some ⟨gl, 0, none⟩) 2 2] w (OrdRes b (ordS S [x, y])) := by
  have hcon := fun (s : Nat) (w' : World) (he : Ext w w') => contains_any (some ⟨gl, 0, none⟩) 2 [x, y] s w' (ints_two (he.cell h0) (he.cell h1)) (by simp)
  simp only [List.length_nil, List.length_cons, Nat.zero_add, Nat.reduceAdd] at hcon
  have Hcon := Lib.hid hcon
  clear hcon
  have hsk := fun (k : Nat) (h : memB [x, y] (k : Int) = true) => ordP_skip (xs := [x, y]) h
  have htk := fun (k : Nat) (h : memB [x, y] (k : Int) = false) => ordP_take (xs := [x, y]) h
  have hle := fun (k : Nat) => ordP_le [x, y] k
  have Hsk := Lib.hid hsk
  have Htk := Lib.hid htk
  have Hle := Lib.hid hle
  clear hsk htk hle
  have Hb := Lib.hid hb
  clear hb
  go_enter Try.func67, Try.ntmps67
  go_wp2
  go_loopw [9, 5] (fun i o wr => ∃ k : Nat, k ≤ S ∧ i = .int .i64 k ∧ Own w wr 3 1 o (ordP [x, y] k).length ((ordP [x, y] k).map vint)) (fun i _ _ => S - (intOf i).toNat)
  case atStart => exact ⟨0, by omega, rfl, Own.nil' (by simp) _ _⟩
  case round =>
    obtain ⟨k, hk, rfl, hown⟩ := hrel
    obtain ⟨Av, cv, hv⟩ := hown.form
    subst hv
    have hex := hown.ext
    have hlk := Hle.out k
    by_cases hlt : k < S
    · cases hm : memB [x, y] (k : Int)
      · have htk := Htk.out k hm
        have hc := Hcon.out k
        rw [hm] at hc
        have Hc := Lib.hid hc
        have Hk := Lib.hid htk
        clear hc htk hm
        generalize ordP [x, y] k = l at *
        go_wp2_with (first
          | (go_at_call 93; refine (Hc.out _ hex).mono ?_; rintro e w' ⟨rfl, rfl⟩)
          | (refine own_append_int (w1 := w) rfl _ _ rfl _ l.length (l.map vint) rfl hown k rfl (by omega) ?_; intro v' w' ho))
        go_roundw
        case rel =>
          refine ⟨k + 1, by omega, by go_num, ?_⟩
          rw [Hk.out, List.length_append, List.map_append]
          exact ho
        case measure => simp [intOf]; omega
      · have htk := Hsk.out k hm
        have hc := Hcon.out k
        rw [hm] at hc
        have Hc := Lib.hid hc
        have Hk := Lib.hid htk
        clear hc htk hm
        go_wp2_with (go_at_call 93; refine (Hc.out _ hex).mono ?_; rintro e w' ⟨rfl, rfl⟩)
        go_roundw
        case rel => exact ⟨k + 1, by omega, by go_num, by rw [Hk.out]; exact hown⟩
        case measure => simp [intOf]; omega
    · obtain rfl : k = S := by omega
      have hcap : (ordP [x, y] k).length ≤ cv := hown.cap
      have hown' := Lib.hid hown
      have hlw : gl < w.heap.size := World.block_lt_of_cell? _ _ h0
      have hc := compact_two gl x y wr (he_ hown.ext h0) (he_ hown.ext h1) ((hown.ext.frozen hlw).trans hf)
      have Hc2 := Lib.hid hc
      clear hc
      generalize hl : ordP [x, y] k = l at *
      clear hown
      by_cases exy : x = y
      · have Exy := Lib.hid exy
        go_wp2_with (first
          | (go_at_call 96; refine Hc2.out.mono ?_; rintro e w2 (⟨hne, _⟩ | ⟨_, rfl, w1, hx1, rfl⟩); exact absurd Exy.out hne; have hoc := (hown'.out.later hx1); have hob := (hoc.since Hb.out).other (p := ⟨gl, 1, none⟩) hgl (fun e => by have := (hown'.out.2.lt gl e).1; omega) (vint 0); have hr : Row (w1.setCell ⟨gl, 1, none⟩ (vint 0)) (some ⟨gl, 0, none⟩) [vint x] := ints_one (by rw [World.cell?_setCell_other _ _ _ _ (by simp)]; exact hx1.cell (he_ hown'.out.ext h0)))
          | (refine own_append_src (w1 := b) int_elem rfl _ _ 22 rfl Try.underlying22 _ l.length (l.map vint) rfl hob _ 1 2 [vint x] rfl rfl hr (by intro u hu; simp at hu; subst hu; rfl) (by omega) (by unfold maxLen; omega) ?_; intro v' w' ho _; obtain ⟨A', c', rfl⟩ := ho.form))
        go_ret
        have e : ordS k [x, y] = l ++ [x] := by
          show ordP [x, y] k ++ (if x = y then [x] else [x, y]) = _
          rw [hl, if_pos Exy.out]
        rw [e]
        refine ⟨A', c', by simp, ?_, ho.ext⟩
        have := Own.row ho
        simpa [Ints] using this
      · have Exy := Lib.hid exy
        go_wp2_with (first
          | (go_at_call 96; refine Hc2.out.mono ?_; rintro e w2 (⟨_, rfl, hx2⟩ | ⟨he, _⟩); rotate_left; exact absurd he Exy.out; have hob := hown'.out.later hx2; have hr : Row w2 (some ⟨gl, 0, none⟩) [vint x, vint y] := ints_two (hx2.cell (he_ hown'.out.ext h0)) (hx2.cell (he_ hown'.out.ext h1)))
          | (refine own_append_src (w1 := w) int_elem rfl _ _ 22 rfl Try.underlying22 _ l.length (l.map vint) rfl hob _ 2 2 [vint x, vint y] rfl rfl hr (by intro u hu; simp at hu; rcases hu with rfl | rfl <;> rfl) (by omega) (by unfold maxLen; omega) ?_; intro v' w' ho _; obtain ⟨A', c', rfl⟩ := ho.form))
        go_ret
        have e : ordS k [x, y] = l ++ [x, y] := by
          show ordP [x, y] k ++ (if x = y then [x] else [x, y]) = _
          rw [hl, if_neg Exy.out]
        rw [e]
        refine ⟨A', c', by simp, ?_, Hb.out.trans ho.ext⟩
        have := Own.row ho
        simpa [Ints] using this
end Go.Proofs.Ytbclbcldplmppaa

/- A train's equations, solved: the code's three calls brought together. -/
namespace Go.Proofs.Ytbclbcldplmppaa
open Go.RowKit

/-! ### The order of columns, as natural numbers -/
def ordN (S : Nat) (ex tl : List Nat) : List Nat := (List.range S).filter (fun k => decide (k ∉ ex)) ++ tl
theorem ordP_nat (ex : List Nat) : ∀ S, ordP (ex.map fun (k : Nat) => (k : Int)) S = ((List.range S).filter (fun k => decide (k ∉ ex))).map fun (k : Nat) => (k : Int)
  | 0 => rfl
  | S + 1 => by
    have hm : memB (ex.map fun (k : Nat) => (k : Int)) (S : Int) = decide (S ∈ ex) := by
      unfold memB
      simp only [List.mem_map, decide_eq_decide]
      constructor
      · rintro ⟨a, h1, h2⟩
        have : a = S := by omega
        exact this ▸ h1
      · intro h; exact ⟨S, h, rfl⟩
    rw [List.range_succ, List.filter_append, List.map_append, ← ordP_nat ex S]
    by_cases h : S ∈ ex
    · rw [ordP_skip (by rw [hm]; simpa using h)]; simp [h]
    · rw [ordP_take (by rw [hm]; simpa using h)]; simp [h]
theorem ordS_nil (S : Nat) : ordS S [] = (ordN S [] []).map fun (k : Nat) => (k : Int) := by
  have := ordP_nat [] S
  unfold ordS ordN
  rw [List.map_append, ← this]
  rfl
theorem ordS_one (S i : Nat) : ordS S [(i : Int)] = (ordN S [i] [i]).map fun (k : Nat) => (k : Int) := by
  have := ordP_nat [i] S
  unfold ordS ordN
  rw [List.map_append, ← this]
  rfl
theorem ordS_same (S i : Nat) : ordS S [(i : Int), (i : Int)] = (ordN S [i] [i]).map fun (k : Nat) => (k : Int) := by
  have h1 : ∀ S, ordP [(i : Int), (i : Int)] S = ordP [(i : Int)] S := by
    intro S
    induction S with
    | zero => rfl
    | succ S ih => unfold ordP; rw [ih]; simp [memB]
  rw [← ordS_one]
  unfold ordS
  rw [h1]
  simp
theorem ordS_two {S o i : Nat} (h : o ≠ i) : ordS S [(o : Int), (i : Int)] = (ordN S [o, i] [o, i]).map fun (k : Nat) => (k : Int) := by
  have := ordP_nat [o, i] S
  unfold ordS ordN
  rw [List.map_append, ← this]
  have hne : ¬ ((o : Int) = (i : Int)) := by omega
  simp [hne]
theorem ordN_lt {S : Nat} {ex tl : List Nat} (ht : ∀ c ∈ tl, c < S) : ∀ c ∈ ordN S ex tl, c < S := fun c hc => by
  rcases List.mem_append.1 hc with h | h
  · exact List.mem_range.1 (List.mem_filter.1 h).1
  · exact ht c h
theorem ordN_all {S : Nat} {ex tl : List Nat} (ht : ∀ c ∈ ex, c ∈ tl) : ∀ c, c < S → c ∈ ordN S ex tl := fun c hc => by
  by_cases h : c ∈ ex
  · exact List.mem_append.2 (.inr (ht c h))
  · exact List.mem_append.2 (.inl (List.mem_filter.2 ⟨List.mem_range.2 hc, by simpa using h⟩))
theorem ordN_nodup {S : Nat} {ex tl : List Nat} (ht : ∀ c ∈ tl, c ∈ ex) (hn : tl.Nodup) : (ordN S ex tl).Nodup :=
  List.nodup_append.2 ⟨List.nodup_range.filter _, hn, fun a ha b hb e => by
    subst e
    have := (List.mem_filter.1 ha).2
    simp at this
    exact this (ht a hb)⟩
theorem ordN_len {S : Nat} {ex tl : List Nat} (ht : tl.length ≤ 2) : (ordN S ex tl).length ≤ S + 2 := by
  unfold ordN
  rw [List.length_append]
  have := List.length_filter_le (fun k => decide (k ∉ ex)) (List.range S)
  simp at this ⊢
  omega

/-! ### The rows, as solve reads them -/
theorem augA_eq (ms : List Msh) (S : Nat) : augA S (lineI ms S) = augF S (gearL ms S) := rfl
theorem lineOf_aug {ms : List Msh} {S k : Nat} (hk : k < ms.length) : lineOf (augA S (lineI ms S)) S k = lineI ms S k := by
  have hl : (lineI ms S k).length = S := by rw [lineI_eq hk]; exact facS_length _ _
  apply List.ext_getElem?
  intro j
  unfold lineOf
  by_cases hj : j < S
  · simp [hj, augA, getI, hl]
  · rw [List.getElem?_eq_none (by simpa using hj), List.getElem?_eq_none (by omega)]
theorem byOf_aug {ms : List Msh} {S m k : Nat} : byOf (augA S (lineI ms S)) S m k = unitL m k := by
  apply List.ext_getElem?
  intro j
  unfold byOf unitL
  by_cases hj : j < m
  · have hh : augA S (lineI ms S) k (S + j) = if j = k then 1 else 0 := by unfold augA; rw [if_neg (by omega), Nat.add_sub_cancel_left]
    by_cases e : j = k
    · subst e; rw [if_pos rfl] at hh; simp [hj, hh]
    · have e' : ¬ k = j := fun h => e h.symm
      rw [if_neg e] at hh
      simp [hj, hh, e']
  · rw [List.getElem?_eq_none (by simpa using hj), List.getElem?_eq_none (by simpa using hj)]

theorem Mat.rin {b w : World} {A : Option Addr} {k c S : Nat} {ms : List Msh} {rs : List RowM} (h : Mat b w (.slice A k c) S ms.length rs) (hr : RowsOf ms S ms.length rs) :
    RIn w A S ms.length (fun k => lineOf (augA S (lineI ms S)) S k) (fun k => byOf (augA S (lineI ms S)) S ms.length k) := fun k hk => by
  have hk' : k < rs.length := by rw [hr.len]; exact hk
  obtain ⟨ad, e1, hc⟩ := Row.struct (w := w) (size := 2) (rows := rs.map (RowM.cells S ms.length)) h.own.row (by simp [RowM.cells]) (k := k) (by simpa using hk') (by omega)
  have hrow := h.rows rs[k] (List.getElem_mem hk')
  refine ⟨ad, some ⟨rs[k].g, 0, none⟩, some ⟨rs[k].h, 0, none⟩, e1, fun w' he => ?_, fun w' he => ?_, fun w' he => ?_, fun w' he => ?_, ?_, ?_⟩
  · have := hc 0 (by omega) w' he
    rw [add_zero_] at this
    simpa [RowM.cells] using this
  · have := hc 1 (by omega) w' he
    rw [add_lit _ _ (by omega)] at this
    simpa [RowM.cells] using this
  · show Ints w' _ (lineOf (augA S (lineI ms S)) S k)
    rw [lineOf_aug hk, ← hr.l k hk']
    exact (hrow.gl.later he).ints
  · show Ints w' _ (byOf (augA S (lineI ms S)) S ms.length k)
    rw [byOf_aug, ← hr.b k hk']
    exact (hrow.hb.later he).ints
  · exact lineOf_length
  · exact byOf_length

def isRows (b : World) (ms : List Msh) (S : Nat) (v : Value) (w : World) : Prop := ∃ rs, Mat b w v S ms.length rs ∧ RowsOf ms S ms.length rs
def isNats (l : List Nat) (v : Value) (w : World) : Prop := isInts (l.map fun (k : Nat) => (k : Int)) v w
/-- A value of the type 'solved'. -/
def isSolved (b : World) (ms : List Msh) (S : Nat) (cols : List Nat) (u : Value) (w : World) : Prop :=
  ∃ v ordv mb g h σ pv M d D, u = .agg #[v, .map (some mb), ordv, .int .i64 d] ∧ SolSt (augF S (gearL ms S)) S ms.length cols σ pv M d ∧
    MF b w v S ms.length ms.length g h (fun k => lineOf M S (σ k)) (fun k => byOf M S ms.length (σ k)) ∧ MapI w mb pv.length D ∧ MapIs D (colsP pv) ∧ isNats cols ordv w
theorem MapI.later {w w' : World} {mb cnt : Nat} {D : DataW Unit} (h : MapI w mb cnt D) (he : Ext w w') : MapI w' mb cnt D := by
  obtain ⟨es, clock, hb, r⟩ := h
  exact ⟨es, clock, he.heap hb, r⟩
theorem isRows.later {b w w' : World} {ms : List Msh} {S : Nat} {v : Value} (h : isRows b ms S v w) (he : Ext w w') : isRows b ms S v w' := by
  obtain ⟨rs, h1, h2⟩ := h
  exact ⟨rs, h1.later he, h2⟩
theorem isNats.later {l : List Nat} {v : Value} {w w' : World} (h : isNats l v w) (he : Ext w w') : isNats l v w' := isInts.ext he h
theorem MF.since {b0 b w : World} {v : Value} {n m c : Nat} {g h : Nat → Nat} {L B : Nat → List Int} (hm : MF b w v n m c g h L B) (he : Ext b0 b) : MF b0 w v n m c g h L B :=
  ⟨hm.own.since he, fun k hk => ⟨(hm.gl k hk).1.since he, (hm.gl k hk).2⟩, fun k hk => ⟨(hm.hb k hk).1.since he, (hm.hb k hk).2⟩, hm.gg, hm.hh, hm.gh⟩
theorem isSolved.later {b w w' : World} {ms : List Msh} {S : Nat} {cols : List Nat} {u : Value} (h : isSolved b ms S cols u w) (he : Ext w w') : isSolved b ms S cols u w' := by
  obtain ⟨v, ordv, mb, g, h, σ, pv, M, d, D, e, hs, hm, hp, hd, ho⟩ := h
  exact ⟨v, ordv, mb, g, h, σ, pv, M, d, D, e, hs, hm.later he, hp.later he, hd, ho.later he⟩
theorem isSolved.since {b0 b w : World} {ms : List Msh} {S : Nat} {cols : List Nat} {u : Value} (h : isSolved b ms S cols u w) (he : Ext b0 b) : isSolved b0 ms S cols u w := by
  obtain ⟨v, ordv, mb, g, h, σ, pv, M, d, D, e, hs, hm, r⟩ := h
  exact ⟨v, ordv, mb, g, h, σ, pv, M, d, D, e, hs, hm.since he, r⟩

theorem rows_is (A : Option Addr) (c S : Nat) (ms : List Msh) (w : World) (hA : MRow w A ms) (ht : trainP S ms) :
    Calls Try.prog 66 #[.agg #[.int .i64 S, .slice A ms.length c]] w fun e w' => ∃ v, e = .returned v ∧ Ext w w' ∧ isRows w ms S v w' :=
  (rows_any A c S ms w hA ht).mono fun e w' h => by
    obtain ⟨v, rs, rfl, h1, h2⟩ := h
    exact ⟨v, rfl, h1.own.ext, rs, h1, h2⟩

theorem solve_is {b w : World} {S : Nat} {ms : List Msh} {cols : List Nat} {rv ov : Value} (ht : trainP S ms) (hr : isRows b ms S rv w) (ho : isNats cols ov w) (hc : ∀ c ∈ cols, c < S) (hcl : cols.length ≤ 1000) :
    Calls Try.prog 65 #[rv, ov] w fun e w' => ∃ v, e = .returned v ∧ Ext w w' ∧ isSolved w ms S cols v w' := by
  obtain ⟨rs, h1, h2⟩ := hr
  obtain ⟨A, c, rfl⟩ := h1.own.form
  obtain ⟨Or, oc, rfl, hoi⟩ := ho
  have hrl : rs.length = ms.length := h2.len
  have hl : (cols.map fun (k : Nat) => (k : Int)).length = cols.length := by simp
  rw [hrl, hl]
  rw [hrl] at h1
  refine (solve_any A c S ms.length (augA S (lineI ms S)) Or oc cols w (h1.rin h2) hoi hc hcl (by have := ht.2.1; omega) ht.2.2.1 fun x hx C hC => aug_small (by rw [lineI_eq hx]; exact facS_small (ht.2.2.2 x hx)) C hC).mono fun e w' h => ?_
  obtain ⟨v, mb, g, h, σ, pv, M, d, D, rfl, hs, hm, hp, hd, _⟩ := h
  refine ⟨_, rfl, hm.ext, v, _, mb, g, h, σ, pv, M, d, D, rfl, hs, hm, hp, hd, Or, oc, by rw [hl], hoi.ext hm.ext⟩
end Go.Proofs.Ytbclbcldplmppaa

/- The reference's Verdict. -/
namespace Go.Proofs.Ytbclbcldplmppaa
open Go.RowKit

noncomputable def looseB (m n : Nat) (L : Nat → Nat → Int) (i o : Nat) : Bool := rkF (m + 1 + 1) n (snocF (m + 1) (snocF m L (eU i)) (eU o)) != rkF (m + 1) n (snocF m L (eU i))
noncomputable def verdS (m n : Nat) (L : Nat → Nat → Int) (i o : Nat) : Int := if jamB m n L i = true then 41 else if looseB m n L i o = true then 42 else 0

theorem held_get {ms : List Msh} {S i k j : Nat} (hk : k < ms.length + 1) (hj : j < S) : getI ((gearLs ms S ++ [unitL S i]).getD k []) j = snocF ms.length (gearL ms S) (eU i) k j := by
  by_cases ek : k = ms.length
  · subst ek
    rw [snocF_at, ← getI_unitL (n := S) hj]
    congr 1
    rw [List.getD_eq_getElem?_getD, List.getElem?_append_right (by rw [gearLs_len]; exact Nat.le_refl _), gearLs_len]
    simp
  · have hk' : k < (gearLs ms S).length := by rw [gearLs_len]; omega
    rw [snocF_lt (by omega), List.getD_eq_getElem?_getD, List.getElem?_append_left hk', List.getElem?_eq_getElem hk', Option.getD_some, gearLs_get]
    rfl
theorem held_len (ms : List Msh) (S i : Nat) : (gearLs ms S ++ [unitL S i]).length = ms.length + 1 := by simp [gearLs_len]
theorem lrow_held {b w : World} {A : Option Addr} {k c S i m : Nat} {gs : List Nat} {ms : List Msh} (h : LMat b w (.slice A k c) S gs (gearLs ms S ++ [unitL S i])) (hm : m = ms.length) : LRow w A S (m + 1) (snocF m (gearL ms S) (eU i)) := by
  subst hm
  have := h.lrow
  rw [held_len] at this
  exact this.congr fun k hk j hj => held_get hk hj
theorem app_lrow_held {b w0 w : World} {v v' : Value} {S i o m : Nat} {gs : List Nat} {ms : List Msh} (hm : LMat b w0 v S gs (gearLs ms S ++ [unitL S i])) (hn : m = ms.length) (hR : ApR w0 v (m + 1) S (slL S gs) (unitL S o) b.heap.size w0 w) (hT : AppT w0 v (m + 1) S (slL S gs) (unitL S o) v' w) :
    ∃ A c, v' = .slice A (m + 1 + 1) c ∧ LRow w A S (m + 1 + 1) (snocF (m + 1) (snocF m (gearL ms S) (eU i)) (eU o)) := by
  subst hn
  rw [← held_len ms S i] at hR hT
  obtain ⟨A, c, e, h⟩ := hT.lrow hm rfl (unitL_length S o) hR
  rw [held_len] at e h
  refine ⟨A, c, e, h.congr fun k hk j hj => ?_⟩
  by_cases ek : k = ms.length + 1
  · subst ek
    rw [if_pos rfl, snocF_at, getI_unitL hj]
  · rw [if_neg ek, snocF_lt (by omega)]
    exact held_get (by omega) hj

set_option maxRecDepth 100000 in
set_option maxHeartbeats 8000000 in
theorem verdict_ref (A : Option Addr) (c S i o : Nat) (ms : List Msh) (w : World) (hA : MRow w A ms) (ht : trainP S ms) (hi : i < S) (ho : o < S) :
    Calls Try.prog 36 #[.agg #[.int .i64 S, .slice A ms.length c], .int .i64 i, .int .i64 o] w fun e w' => e = .returned (.int .i64 (verdS ms.length S (gearL ms S) i o)) ∧ Ext w w' := by
  have h8 : S ≤ 8 := by have := ht.2.1; omega
  have hS0 : 0 < S := by have := ht.1; omega
  have hl16 := ht.2.2.1
  have hsm := gearL_small ht
  have c1 := fun (w' : World) (he : Ext w w') => rows_ref A c S ms w' (hA.ext he) ht
  have c0 := fun (w' : World) (he : Ext w w') => jammed_ref A c S i ms w' (hA.ext he) ht hi
  have C1 := Lib.hid c1
  have C0 := Lib.hid c0
  have Hsm := Lib.hid hsm
  clear c0 c1 hsm hA ht
  obtain ⟨m, hm⟩ : ∃ m, m = ms.length := ⟨_, rfl⟩
  rw [← hm] at hl16 C1 C0 ⊢
  have Hm := Lib.hid hm
  clear hm
  obtain ⟨vS, hvS⟩ : ∃ vS, vS = verdS m S (gearL ms S) i o := ⟨_, rfl⟩
  obtain ⟨jB, hjB⟩ : ∃ jB, jB = jamB m S (gearL ms S) i := ⟨_, rfl⟩
  rw [← hvS]
  rw [← hjB] at C0
  have HvS := Lib.hid hvS
  have HjB := Lib.hid hjB
  clear hvS hjB
  go_enter Try.func36, Try.ntmps36
  have hexb : Ext w (w.alloc (.cells #[.int .i64 S, .slice A m c] 41)) := by simp
  have hp0 : ∀ w', Ext (w.alloc (.cells #[.int .i64 S, .slice A m c] 41)) w' → w'.cell? ⟨w.heap.size, 0, none⟩ = some (.int .i64 S) := fun w' he => he.cell (by simp)
  have hp1 : ∀ w', Ext (w.alloc (.cells #[.int .i64 S, .slice A m c] 41)) w' → w'.cell? ⟨w.heap.size, 1, none⟩ = some (.slice A m c) := fun w' he => he.cell (by simp)
  cases jB
  case true =>
    go_wp2_with (first
      | (go_at_call 79; refine (C0.out _ (by simp)).mono ?_; rintro e w1 ⟨rfl, hx1⟩))
    go_ret
    refine ⟨?_, hexb.trans hx1⟩
    have : vS = 41 := by rw [HvS.out]; unfold verdS; rw [← HjB.out, if_pos rfl]
    rw [this]; rfl
  case false =>
    go_wp2_with (first
      | (go_at_call 79; refine (C0.out _ (by simp)).mono ?_; rintro e w1 ⟨rfl, hx1⟩))
    generalize w.alloc (.cells #[.int .i64 S, .slice A m c] 41) = wb0 at *
    generalize w.heap.size = bx at *
    have hp0 : ∀ w', Ext w1 w' → _ := fun w' he => hp0 w' (hx1.trans he)
    have hp1 : ∀ w', Ext w1 w' → _ := fun w' he => hp1 w' (hx1.trans he)
    obtain ⟨wb, rfl⟩ : ∃ wb : World, wb = w1 := ⟨_, rfl⟩
    have hexb : Ext w wb := hexb.trans hx1
    clear hx1
    refine wp_region_calm 7 (fun j _ v w => if j = 1 then ∃ gs, LMat wb w v S gs (gearLs ms S) else ∃ g, v = sl g S ∧ NewInts wb w g (unitL S i)) (fun j _ v w w' he h => by
      by_cases e : j = 1
      · simp only [e, if_true] at h ⊢
        obtain ⟨gs, hm⟩ := h
        exact ⟨gs, hm.later he⟩
      · simp only [e, if_false] at h ⊢
        obtain ⟨g, e, hn⟩ := h
        exact ⟨g, e, hn.later he⟩) (by kernel_rfl) (by kernel_rfl) ?_
    simp only [List.take_succ_cons, List.take_zero, List.drop_succ_cons, List.drop_zero]
    refine calm_quiet calm_mono_final 1 (by kernel_rfl) ?_
    simp only [List.take_succ_cons, List.take_zero, List.drop_succ_cons, List.drop_zero]
    repeat (go_big_quiet_step (fail))
    refine wpQuiet_nil ?_
    refine calm_call calm_mono_final 69 #[.agg #[.int .i64 S, .slice A m c]] rfl (fun w => ?_) (fun w' he _ => ?_) ?_
    · go_simp
    · refine (C1.out w' (hexb.trans he)).mono fun e w'' h => ?_
      obtain ⟨v, gs, rfl, hm⟩ := h
      exact ⟨_, rfl, hm.own.ext, (show ∃ gs, LMat wb w'' v S gs (gearLs ms S) from ⟨gs, hm.since he⟩)⟩
    rintro v1 w1 _ hv1
    have hv1' : ∃ gs, LMat wb w1 v1 S gs (gearLs ms S) := hv1
    obtain ⟨gs0, hm0⟩ := hv1'
    have hv1 : ∃ A c, v1 = .slice A m c := by
      obtain ⟨A, c, e⟩ := hm0.own.form
      rw [gearLs_len, ← Hm.out] at e
      exact ⟨A, c, e⟩
    obtain ⟨Av, cv, rfl⟩ := hv1
    clear hm0
    simp only [Act.put, List.setIfInBounds_toArray, List.set_cons_succ, List.set_cons_zero]
    refine calm_quiet calm_mono_final 3 (by kernel_rfl) ?_
    simp only [List.take_succ_cons, List.take_zero, List.drop_succ_cons, List.drop_zero]
    repeat (go_big_quiet_step (fail))
    refine wpQuiet_nil ?_
    refine calm_call calm_mono_final 80 #[.int .i64 S, .int .i64 i] rfl (fun w => ?_) (fun w' he _ => ?_) ?_
    · go_simp
    · refine (one_ref S i w' hi (by omega)).mono fun e w'' h => ?_
      obtain ⟨g, rfl, hn⟩ := h
      exact ⟨_, rfl, hn.ext, (show ∃ g', sl g S = sl g' S ∧ NewInts wb w'' g' (unitL S i) from ⟨g, rfl, hn.since he⟩)⟩
    rintro v5 w5 _ hv5
    have hv5' : ∃ g, v5 = sl g S ∧ NewInts wb w5 g (unitL S i) := hv5
    obtain ⟨hl, rfl, _⟩ := hv5'
    clear hv5
    simp only [Act.put, List.setIfInBounds_toArray, List.set_cons_succ, List.set_cons_zero]
    refine calm_alloc calm_mono_final (fun b => .slice (some ⟨b, 0, none⟩) 1 1) (.cells #[sl hl S] 22) (fun b c h => by simpa using h) rfl (fun w => ?_) (fun b hb => ?_)
    · go_simp
    simp only [Act.put, List.setIfInBounds_toArray, List.set_cons_succ, List.set_cons_zero]
    refine calm_nil fun w3 he3 hF => ?_
    have hrow := row_heap ((hF 6).2 rfl)
    have hf5 : ∃ g, sl hl S = sl g S ∧ NewInts wb w3 g (unitL S i) := (hF 5).1.2 rfl
    obtain ⟨g', eg, hg⟩ := hf5
    have hf1 : ∃ gs, LMat wb w3 (.slice Av m cv) S gs (gearLs ms S) := (hF 1).1.1.2 rfl
    obtain ⟨gs, hmat⟩ := hf1
    simp only [sl, Value.slice.injEq, Option.some.injEq, Addr.mk.injEq, and_true] at eg
    subst eg
    clear hF
    have hgl : (gearLs ms S).length = m := by rw [gearLs_len, Hm.out]
    have hbv := hmat.own
    rw [hgl] at hbv
    go_wp2_with (first
      | (refine own_append_at (w1 := wb) slice_elem rfl _ _ 106 rfl Try.underlying106 _ m (slL S gs) rfl hbv _ 1 1 _ rfl rfl hrow (by intro u hu; simp at hu; subst hu; rfl) (by omega) (by unfold maxLen; omega) ?_; intro v' w2 ho' hgr _))
    have hheld := hmat.append (Ext.refl _) hg (unitL_length S i) (by rw [hgl]; exact ho') hgr
    obtain ⟨Ah, ch, e⟩ := ho'.form
    subst e
    have hown : w2.ownsRow wb.heap.size 22 1 (.slice Ah (m + 1) ch) (m + 1) (slL S (gs ++ [hl])) := by
      have := hheld.own.2
      rwa [held_len, ← Hm.out] at this
    have hgl2 : (gearLs ms S ++ [unitL S i]).length = m + 1 := by rw [held_len, Hm.out]
    have hxb : Ext wb w2 := hheld.own.ext
    clear hmat hbv hrow hg ho' hgr he3
    have hob : ∀ k, (Value.slice Ah (m + 1) ch).ownBlock = some k → k < w2.heap.size := fun k hk => (hown.lt k hk).2
    have hbR : ∀ w', ApR w2 (.slice Ah (m + 1) ch) (m + 1) S (slL S (gs ++ [hl])) (unitL S o) wb.heap.size w2 w' → Ext wb w' := fun w' hR => hR.ext hxb hown (Nat.le_refl _)
    have hnew : ∀ (w' w'' : World) (k : Nat) (ob : Obj), ApR w2 (.slice Ah (m + 1) ch) (m + 1) S (slL S (gs ++ [hl])) (unitL S o) wb.heap.size w' w'' → w2.heap.size ≤ k → w'.heap[k]? = some ob → w''.heap[k]? = some ob := fun w' w'' k ob hR hk ho =>
      (hR.gr.block _ (Array.getElem?_eq_some_iff.1 ho).1 (fun e => by have := hob _ e.symm; omega)).trans ho
    obtain ⟨r1, hr1⟩ : ∃ r1, r1 = rkF (m + 1 + 1) S (snocF (m + 1) (snocF m (gearL ms S) (eU i)) (eU o)) := ⟨_, rfl⟩
    obtain ⟨r2, hr2⟩ : ∃ r2, r2 = rkF (m + 1) S (snocF m (gearL ms S) (eU i)) := ⟨_, rfl⟩
    have Hr1 := Lib.hid hr1
    have Hr2 := Lib.hid hr2
    clear hr1 hr2
    have hstab : Cf.StableS (apPre w2 (.slice Ah (m + 1) ch) (m + 1) S (slL S (gs ++ [hl])) (unitL S o) wb.heap.size) (fun j _ v w => twoS w2 S (unitL S o) r1 r2 4 9 13 j v w) := fun j _ v w' w'' hR h => twoS.stable (fun k o hk ho => hnew _ _ k o hR hk ho) h
    refine Cf.wp_region_calm (p := apPre w2 (.slice Ah (m + 1) ch) (m + 1) S (slL S (gs ++ [hl])) (unitL S o) wb.heap.size) (fr := fun _ => false) 14 _ hstab (by kernel_rfl) (by kernel_rfl) ?_
    simp only [List.take_succ_cons, List.take_zero, List.drop_succ_cons, List.drop_zero]
    refine Cf.calm_quiet Cf.calm_mono_final wb hbR 4 (by kernel_rfl) ?_
    simp only [List.take_succ_cons, List.take_zero, List.drop_succ_cons, List.drop_zero]
    repeat (go_big_quiet_step (fail))
    refine wpQuiet_nil ?_
    refine Cf.calm_call Cf.calm_mono_final 80 #[.int .i64 S, .int .i64 o] rfl (fun w => ?_) (fun w' hR _ => ?_) ?_
    · go_simp
    · refine (one_ref S o w' ho (by omega)).mono fun e w'' h => ?_
      obtain ⟨g, rfl, hn⟩ := h
      exact ⟨_, rfl, ApR.of_ext hn.ext, (show LineT w2 S (unitL S o) (sl g S) w'' from ⟨g, rfl, Nat.le_trans hR.gr.size hn.2.1, hn.2.2⟩), fun hf => by cases hf⟩
    rintro v4 w4 _ hv4 _
    have hv4' : LineT w2 S (unitL S o) v4 w4 := hv4
    obtain ⟨h, rfl, hh0, _⟩ := hv4'
    clear hv4
    simp only [Act.put, List.setIfInBounds_toArray, List.set_cons_succ, List.set_cons_zero]
    refine Cf.calm_value Cf.calm_mono_final (fun v w => ∃ b, v = .slice (some ⟨b, 0, none⟩) 1 1 ∧ w2.heap.size ≤ b ∧ w.heap[b]? = some (.cells #[sl h S] 22)) (fun _ w' w'' hR ⟨b, e, hb, hh⟩ => ⟨b, e, hb, hnew _ _ _ _ hR hb hh⟩) rfl (fun w' hR _ => ⟨sl w'.heap.size 1, w'.alloc (.cells #[sl h S] 22), by go_simp, ApR.of_ext ((Ext.refl w').alloc _), ⟨_, rfl, hR.gr.size, heap_alloc_new _ _⟩, fun hf => by cases hf⟩) ?_
    rintro v5 _ _ ⟨bs, rfl, hbs, _⟩ _
    simp only [Act.put, List.setIfInBounds_toArray, List.set_cons_succ, List.set_cons_zero]
    refine Cf.calm_value Cf.calm_mono_final (fun v w => AppT w2 (.slice Ah (m + 1) ch) (m + 1) S (slL S (gs ++ [hl])) (unitL S o) v w) (fun _ w' w'' hR hT => AppT.stable hR hT) rfl (fun w' hR hf => ?_) ?_
    · obtain ⟨b', eb, _, hb2⟩ := (hf 5 (by kernel_rfl)).2 rfl
      have hl4 : LineT w2 S (unitL S o) (sl h S) w' := (hf 4 (by kernel_rfl)).1.2 rfl
      obtain ⟨h', eh, _, hh2⟩ := hl4
      simp only [sl, Value.slice.injEq, Option.some.injEq, Addr.mk.injEq, and_true] at eb eh
      subst eb eh
      obtain ⟨v', w'', hr, hR2, hT⟩ := app_run (c := 1) 106 hR hown hxb.le (by omega) hb2 hh0 hh2
      exact ⟨v', w'', exec_append _ _ 106 rfl rfl rfl hr, hR2, hT, fun hf => by cases hf⟩
    rintro v6 w6 _ hT6 _
    obtain ⟨A6, c6, e6⟩ := hT6.form
    subst e6
    clear hT6
    simp only [Act.put, List.setIfInBounds_toArray, List.set_cons_succ, List.set_cons_zero]
    refine Cf.calm_quiet Cf.calm_mono_final wb hbR 2 (by kernel_rfl) ?_
    simp only [List.take_succ_cons, List.take_zero, List.drop_succ_cons, List.drop_zero]
    repeat (go_big_quiet_step (fail))
    refine wpQuiet_nil ?_
    refine Cf.calm_call Cf.calm_mono_final 68 #[.slice A6 (m + 1 + 1) c6, .int .i64 S] rfl (fun w => ?_) (fun w' hR hf => ?_) ?_
    · go_simp
    · have hT : AppT w2 (.slice Ah (m + 1) ch) (m + 1) S (slL S (gs ++ [hl])) (unitL S o) (.slice A6 (m + 1 + 1) c6) w' := (hf 6 (by kernel_rfl)).2 rfl
      obtain ⟨A7, c7, e7, hl7⟩ := app_lrow_held hheld Hm.out hR hT
      simp only [Value.slice.injEq, true_and] at e7
      obtain ⟨rfl, rfl⟩ := e7
      have hs7 : SmallL (m + 1 + 1) S (snocF (m + 1) (snocF m (gearL ms S) (eU i)) (eU o)) := by
        have := (Hsm.out.snoc i).snoc o
        rwa [← Hm.out] at this
      refine (Rank_any A6 c6 S (m + 1 + 1) _ w' hl7 hS0 h8 (by omega) hs7).mono fun e w'' h => ?_
      obtain ⟨rfl, hx⟩ := h
      exact ⟨_, rfl, ApR.of_ext hx, (show _ = _ by rw [Hr1.out]), fun hf => by cases hf⟩
    rintro v9 w9 _ hv9 _
    have hv9' : v9 = .int .i64 r1 := hv9
    subst hv9'
    clear hv9
    simp only [Act.put, List.setIfInBounds_toArray, List.set_cons_succ, List.set_cons_zero]
    refine Cf.calm_quiet Cf.calm_mono_final wb hbR 3 (by kernel_rfl) ?_
    simp only [List.take_succ_cons, List.take_zero, List.drop_succ_cons, List.drop_zero]
    repeat (go_big_quiet_step (fail))
    refine wpQuiet_nil ?_
    refine Cf.calm_call Cf.calm_mono_final 68 #[.slice Ah (m + 1) ch, .int .i64 S] rfl (fun w => ?_) (fun w' hR hf => ?_) ?_
    · go_simp
    · have hl8 := lrow_held (hheld.apr hgl2 hR) Hm.out
      have hs8 : SmallL (m + 1) S (snocF m (gearL ms S) (eU i)) := by
        have := Hsm.out.snoc i
        rwa [← Hm.out] at this
      refine (Rank_any Ah ch S (m + 1) _ w' hl8 hS0 h8 (by omega) hs8).mono fun e w'' h => ?_
      obtain ⟨rfl, hx⟩ := h
      exact ⟨_, rfl, ApR.of_ext hx, (show _ = _ by rw [Hr2.out]), fun hf => by cases hf⟩
    rintro v13 w13 _ hv13 _
    have hv13' : v13 = .int .i64 r2 := hv13
    subst hv13'
    clear hv13
    simp only [Act.put, List.setIfInBounds_toArray, List.set_cons_succ, List.set_cons_zero]
    refine Cf.calm_nil fun w3 he3 hF => ?_
    clear hF
    have hx3 := hexb.trans (hbR w3 he3)
    have hcl : looseB m S (gearL ms S) i o = ((r1 : Int) != (r2 : Int)) := by
      rw [Bool.eq_iff_iff]
      unfold looseB
      rw [← Hr1.out, ← Hr2.out, bne_iff_ne, bne_iff_ne]
      omega
    cases hB : ((r1 : Int) != (r2 : Int))
    · have hv : vS = 0 := by rw [HvS.out]; unfold verdS; rw [← HjB.out, if_neg (by decide), hcl, hB, if_neg (by decide)]
      clear hcl
      go_wp2
      go_ret
      exact ⟨by first | rfl | (rw [hv]; rfl), hx3⟩
    · have hv : vS = 42 := by rw [HvS.out]; unfold verdS; rw [← HjB.out, if_neg (by decide), hcl, hB, if_pos rfl]
      clear hcl
      go_wp2

      go_ret
      exact ⟨by first | rfl | (rw [hv]; rfl), hx3⟩
end Go.Proofs.Ytbclbcldplmppaa

/- The reference's Free. -/
namespace Go.Proofs.Ytbclbcldplmppaa
open Go.RowKit

noncomputable def freeS (s : Int) (ms : List Msh) : Int := if trainB s ms = true then s - (rkF ms.length s.toNat (gearL ms s.toNat) : Int) else 0

set_option maxRecDepth 100000 in
set_option maxHeartbeats 4000000 in
theorem free_ref (A : Option Addr) (c : Nat) (s : Int) (ms : List Msh) (w : World) (hA : MRow w A ms) (hl : ms.length ≤ 1000000) :
    Calls Try.prog 27 #[.agg #[.int .i64 s, .slice A ms.length c]] w fun e w' => e = .returned (.tuple #[.int .i64 (freeS s ms), .int .i64 (trainE s ms)]) ∧ Ext w w' := by
  have c0 := fun (w' : World) (he : Ext w w') => train_ref A c s ms w' (hA.ext he) hl
  have C0 := Lib.hid c0
  clear c0
  cases hB : trainB s ms
  case false =>
    have e1 : freeS s ms = 0 := by unfold freeS; rw [hB, if_neg (by decide)]
    have e2 : trainE s ms = 40 := by unfold trainE; rw [hB, if_neg (by decide)]
    rw [e1, e2]
    rw [hB] at C0
    clear e1 e2
    generalize ms.length = m at *
    go_enter Try.func27, Try.ntmps27
    go_wp2_with (first
      | (go_at_call 45; refine (C0.out _ (by simp)).mono ?_; rintro e w1 ⟨rfl, hx1⟩))
    go_ret2
    exact ⟨rfl, Ext.trans (by simp) hx1⟩
  case true =>
    have ht : trainP s ms := of_decide_eq_true hB
    obtain ⟨S, rfl⟩ : ∃ S : Nat, s = S := ⟨s.toNat, by have := ht.1; omega⟩
    have h8 : S ≤ 8 := by have := ht.2.1; omega
    have hS0 : 0 < S := by have := ht.1; omega
    have hl16 := ht.2.2.1
    have hsm := gearL_small ht
    have c1 := fun (w' : World) (he : Ext w w') => rows_ref A c S ms w' (hA.ext he) ht
    have C1 := Lib.hid c1
    have Hsm := Lib.hid hsm
    have e1 : freeS S ms = (S : Int) - (rkF ms.length S (gearL ms S) : Int) := by unfold freeS; rw [hB, if_pos rfl]; simp
    have e2 : trainE S ms = 0 := by unfold trainE; rw [hB, if_pos rfl]
    have hrk : rkF ms.length S (gearL ms S) ≤ S := (rkF_is ms.length S (gearL ms S)).le
    rw [e1, e2]
    rw [hB] at C0
    clear c1 hsm hA ht e1 e2 hB
    obtain ⟨m, hm⟩ : ∃ m, m = ms.length := ⟨_, rfl⟩
    rw [← hm] at hl16 C1 C0 hrk ⊢
    have Hm := Lib.hid hm
    clear hm
    obtain ⟨r, hr⟩ : ∃ r, r = rkF m S (gearL ms S) := ⟨_, rfl⟩
    rw [← hr] at hrk ⊢
    have Hr := Lib.hid hr
    clear hr hl
    have ew : IntKind.i64.wrap ((S : Int) - (r : Int)) = (S : Int) - (r : Int) := by rw [IntKind.wrap_i64]; omega
    go_enter Try.func27, Try.ntmps27
    have hexb : Ext w (w.alloc (.cells #[.int .i64 S, .slice A m c] 41)) := by simp
    have hp0 : ∀ w', Ext (w.alloc (.cells #[.int .i64 S, .slice A m c] 41)) w' → w'.cell? ⟨w.heap.size, 0, none⟩ = some (.int .i64 S) := fun w' he => he.cell (by simp)
    have hp1 : ∀ w', Ext (w.alloc (.cells #[.int .i64 S, .slice A m c] 41)) w' → w'.cell? ⟨w.heap.size, 1, none⟩ = some (.slice A m c) := fun w' he => he.cell (by simp)
    go_wp2_with (first
      | (go_at_call 45; refine (C0.out _ (by simp)).mono ?_; rintro e wb ⟨rfl, hx1⟩))
    generalize w.alloc (.cells #[.int .i64 S, .slice A m c] 41) = wb0 at *
    generalize w.heap.size = bx at *
    have hp0 : ∀ w', Ext wb w' → _ := fun w' he => hp0 w' (hx1.trans he)
    have hp1 : ∀ w', Ext wb w' → _ := fun w' he => hp1 w' (hx1.trans he)
    have hexb : Ext w wb := hexb.trans hx1
    clear hx1
    refine wp_region_calm 7 (fun j _ v w => if j = 3 then ∃ gs, LMat wb w v S gs (gearLs ms S) else v = .int .i64 (r : Int)) (fun j _ v w w' he h => by
      by_cases e : j = 3
      · simp only [e, if_true] at h ⊢
        obtain ⟨gs, hm⟩ := h
        exact ⟨gs, hm.later he⟩
      · simp only [e, if_false] at h ⊢
        exact h) (by kernel_rfl) (by kernel_rfl) ?_
    simp only [List.take_succ_cons, List.take_zero, List.drop_succ_cons, List.drop_zero]
    refine calm_quiet calm_mono_final 3 (by kernel_rfl) ?_
    simp only [List.take_succ_cons, List.take_zero, List.drop_succ_cons, List.drop_zero]
    repeat (go_big_quiet_step (fail))
    refine wpQuiet_nil ?_
    refine calm_call calm_mono_final 69 #[.agg #[.int .i64 S, .slice A m c]] rfl (fun w => ?_) (fun w' he _ => ?_) ?_
    · go_simp
    · refine (C1.out w' (hexb.trans he)).mono fun e w'' h => ?_
      obtain ⟨v, gs, rfl, hm⟩ := h
      exact ⟨_, rfl, hm.own.ext, (show ∃ gs, LMat wb w'' v S gs (gearLs ms S) from ⟨gs, hm.since he⟩)⟩
    rintro v1 w1 _ hv1
    have hv1' : ∃ gs, LMat wb w1 v1 S gs (gearLs ms S) := hv1
    obtain ⟨gs0, hm0⟩ := hv1'
    have hv1 : ∃ A c, v1 = .slice A m c := by
      obtain ⟨A, c, e⟩ := hm0.own.form
      rw [gearLs_len, ← Hm.out] at e
      exact ⟨A, c, e⟩
    obtain ⟨Av, cv, rfl⟩ := hv1
    clear hm0
    simp only [Act.put, List.setIfInBounds_toArray, List.set_cons_succ, List.set_cons_zero]
    refine calm_quiet calm_mono_final 2 (by kernel_rfl) ?_
    simp only [List.take_succ_cons, List.take_zero, List.drop_succ_cons, List.drop_zero]
    repeat (go_big_quiet_step (fail))
    refine wpQuiet_nil ?_
    refine calm_call calm_mono_final 68 #[.slice Av m cv, .int .i64 S] rfl (fun w => ?_) (fun w' he hf => ?_) ?_
    · go_simp
    · have hT : ∃ gs, LMat wb w' (.slice Av m cv) S gs (gearLs ms S) := (hf 3 (by kernel_rfl)).2 rfl
      obtain ⟨gs, hm⟩ := hT
      have hl8 := hm.lrow'
      rw [← Hm.out] at hl8
      have hs8 : SmallL m S (gearL ms S) := by
        have := Hsm.out
        rwa [← Hm.out] at this
      refine (Rank_any Av cv S m _ w' hl8 hS0 h8 (by omega) hs8).mono fun e w'' h => ?_
      obtain ⟨rfl, hx⟩ := h
      exact ⟨_, rfl, hx, (show _ = _ by rw [Hr.out])⟩
    rintro v6 w6 _ hv6
    have hv6' : v6 = .int .i64 r := hv6
    subst hv6'
    clear hv6
    simp only [Act.put, List.setIfInBounds_toArray, List.set_cons_succ, List.set_cons_zero]
    refine calm_nil fun w3 he3 hF => ?_
    clear hF
    have hx3 := hexb.trans he3
    go_wp2
    go_ret2
    exact ⟨rfl, hx3⟩
end Go.Proofs.Ytbclbcldplmppaa

/- The code's Free. -/
namespace Go.Proofs.Ytbclbcldplmppaa
open Go.RowKit

theorem exec_len {a : Act} {o : Oper} {w : World} {mb n : Nat} {D : DataW Unit} (m : Operand) (hop : o.op = Op.call { callee := Callee.builtin Builtin.len, args := #[m], argTypes := #[99] }) (hm : a.eval m = .map (some mb)) (hown : MapI w mb n D) :
    (execOp a.eval o).run Try.prog w = .ok (.value (.int .i64 (Maps.size D))) w := by
  simp [execOp, hop, resolve, invoke, builtin, hm, hown.len Try.underlying99 o.type, Result.andThen]

theorem field_of (v ordv z : Value) (mb : Nat) (w : World) : (Instr.field 101 (.agg #[v, .map (some mb), ordv, z]) 1).run Try.prog w = .ok (.map (some mb)) w := by kernel_rfl

/-- What the calls hand back: equations, an order, and the solved ones. -/
def solS (b : World) (ms : List Msh) (S : Nat) (cols : List Nat) (j1 j2 j3 j : Nat) (v : Value) (w : World) : Prop := bif j == j1 then isRows b ms S v w else bif j == j2 then isNats cols v w else bif j == j3 then isSolved b ms S cols v w else True
theorem solS.later {b w w' : World} {ms : List Msh} {S : Nat} {cols : List Nat} {j1 j2 j3 j : Nat} {v : Value} (he : Ext w w') (h : solS b ms S cols j1 j2 j3 j v w) : solS b ms S cols j1 j2 j3 j v w' := by
  unfold solS at h ⊢
  cases h1 : (j == j1)
  · rw [h1] at h
    simp only [cond_false] at h ⊢
    cases h2 : (j == j2)
    · rw [h2] at h
      simp only [cond_false] at h ⊢
      cases h3 : (j == j3)
      · rw [h3] at h; exact h
      · rw [h3] at h; exact isSolved.later h he
    · rw [h2] at h; exact isNats.later h he
  · rw [h1] at h; exact isRows.later h he

theorem isSolved.rk {b w : World} {ms : List Msh} {S : Nat} {cols : List Nat} {v ordv : Value} {mb : Nat} {d : Int} (h : isSolved b ms S cols (.agg #[v, .map (some mb), ordv, .int .i64 d]) w) (hall : ∀ c, c < S → c ∈ cols) : ∃ n D, MapI w mb n D ∧ Maps.size D = rkF ms.length S (gearL ms S) := by
  obtain ⟨v', ordv', mb', g, h, σ, pv, M, d', D, e, hs, hm, hp, hd, ho⟩ := h
  simp only [Value.agg.injEq, Array.mk.injEq, List.cons.injEq, Value.map.injEq, Option.some.injEq, and_true] at e
  obtain ⟨_, rfl, _⟩ := e
  exact ⟨pv.length, D, hp, by rw [hs.rk hall, hd.size, colsP_len]⟩

set_option maxRecDepth 100000 in
set_option maxHeartbeats 4000000 in
theorem free_any (A : Option Addr) (c : Nat) (s : Int) (ms : List Msh) (w : World) (hA : MRow w A ms) (hl : ms.length ≤ 1000000) :
    Calls Try.prog 26 #[.agg #[.int .i64 s, .slice A ms.length c]] w fun e w' => e = .returned (.tuple #[.int .i64 (freeS s ms), .int .i64 (trainE s ms)]) ∧ Ext w w' := by
  have c0 := fun (w' : World) (he : Ext w w') => check_any A c s ms w' (hA.ext he) hl
  have C0 := Lib.hid c0
  clear c0
  cases hB : trainB s ms
  case false =>
    have e1 : freeS s ms = 0 := by unfold freeS; rw [hB, if_neg (by decide)]
    have e2 : trainE s ms = 40 := by unfold trainE; rw [hB, if_neg (by decide)]
    rw [e2] at C0
    rw [e1, e2]
    clear e1 e2
    generalize ms.length = m at *
    go_enter Try.func26, Try.ntmps26
    go_wp2_with (first
      | (go_at_call 24; refine (C0.out _ (by simp)).mono ?_; rintro e w1 ⟨rfl, hx1⟩))
    go_ret2
    exact ⟨rfl, Ext.trans (by simp) hx1⟩
  case true =>
    have ht : trainP s ms := of_decide_eq_true hB
    obtain ⟨S, rfl⟩ : ∃ S : Nat, s = S := ⟨s.toNat, by have := ht.1; omega⟩
    have h8 : S ≤ 8 := by have := ht.2.1; omega
    have c1 := fun (w' : World) (he : Ext w w') => rows_is A c S ms w' (hA.ext he) ht
    have C1 := Lib.hid c1
    have e1 : freeS S ms = (S : Int) - (rkF ms.length S (gearL ms S) : Int) := by unfold freeS; rw [hB, if_pos rfl]; simp
    have e2 : trainE S ms = 0 := by unfold trainE; rw [hB, if_pos rfl]
    have hrk : rkF ms.length S (gearL ms S) ≤ S := (rkF_is ms.length S (gearL ms S)).le
    have HT := Lib.hid ht
    rw [e2] at C0
    rw [e1, e2]
    clear c1 hA ht e1 e2 hB
    obtain ⟨m, hm⟩ : ∃ m, m = ms.length := ⟨_, rfl⟩
    rw [← hm] at C1 C0 hrk ⊢
    have Hm := Lib.hid hm
    clear hm
    obtain ⟨r, hr⟩ : ∃ r, r = rkF m S (gearL ms S) := ⟨_, rfl⟩
    rw [← hr] at hrk ⊢
    have Hr := Lib.hid hr
    clear hr hl
    have ew : IntKind.i64.wrap ((S : Int) - (r : Int)) = (S : Int) - (r : Int) := by rw [IntKind.wrap_i64]; omega
    obtain ⟨cols, hcols⟩ : ∃ cols, cols = ordN S [] [] := ⟨_, rfl⟩
    have hc1 : ∀ c ∈ cols, c < S := by rw [hcols]; exact ordN_lt (by simp)
    have hc2 : cols.length ≤ 1000 := by have := ordN_len (S := S) (ex := []) (tl := []) (by simp); rw [hcols]; omega
    have hc3 : ∀ c, c < S → c ∈ cols := by rw [hcols]; exact ordN_all (by simp)
    have hc4 : ordS S [] = cols.map fun (k : Nat) => (k : Int) := by rw [hcols]; exact ordS_nil S
    clear hcols
    have Hc1 := Lib.hid hc1
    have Hc3 := Lib.hid hc3
    have Hc4 := Lib.hid hc4
    clear hc1 hc3 hc4
    go_enter Try.func26, Try.ntmps26
    have hexb : Ext w (w.alloc (.cells #[.int .i64 S, .slice A m c] 41)) := by simp
    have hp0 : ∀ w', Ext (w.alloc (.cells #[.int .i64 S, .slice A m c] 41)) w' → w'.cell? ⟨w.heap.size, 0, none⟩ = some (.int .i64 S) := fun w' he => he.cell (by simp)
    have hp1 : ∀ w', Ext (w.alloc (.cells #[.int .i64 S, .slice A m c] 41)) w' → w'.cell? ⟨w.heap.size, 1, none⟩ = some (.slice A m c) := fun w' he => he.cell (by simp)
    go_wp2_with (first
      | (go_at_call 24; refine (C0.out _ (by simp)).mono ?_; rintro e wb ⟨rfl, hx1⟩))
    generalize w.alloc (.cells #[.int .i64 S, .slice A m c] 41) = wb0 at *
    generalize w.heap.size = bx at *
    have hp0 : ∀ w', Ext wb w' → _ := fun w' he => hp0 w' (hx1.trans he)
    have hp1 : ∀ w', Ext wb w' → _ := fun w' he => hp1 w' (hx1.trans he)
    have hexb : Ext w wb := hexb.trans hx1
    clear hx1
    refine Cf.wp_region_calm (p := Cf.extPre) (fr := fun _ => false) 9 (fun j _ v w => solS wb ms S cols 3 5 6 j v w) (fun _ _ _ _ _ he h => h.later he) (by kernel_rfl) (by kernel_rfl) ?_
    simp only [List.take_succ_cons, List.take_zero, List.drop_succ_cons, List.drop_zero]
    refine Cf.calm_quiet Cf.calm_mono_final wb (fun _ h => h) 3 (by kernel_rfl) ?_
    simp only [List.take_succ_cons, List.take_zero, List.drop_succ_cons, List.drop_zero]
    repeat (go_big_quiet_step (fail))
    refine wpQuiet_nil ?_
    refine Cf.calm_call Cf.calm_mono_final 66 #[.agg #[.int .i64 S, .slice A m c]] rfl (fun w => ?_) (fun w' he _ => ?_) ?_
    · go_simp
    · refine (C1.out w' (hexb.trans he)).mono fun e w'' h => ?_
      obtain ⟨v, rfl, hx, rs, h1, h2⟩ := h
      exact ⟨_, rfl, hx, (show isRows wb ms S v w'' from ⟨rs, h1.since he, h2⟩), fun hf => by cases hf⟩
    intro v3 w3 _ _ _
    simp only [Act.put, List.setIfInBounds_toArray, List.set_cons_succ, List.set_cons_zero]
    refine Cf.calm_quiet Cf.calm_mono_final wb (fun _ h => h) 1 (by kernel_rfl) ?_
    simp only [List.take_succ_cons, List.take_zero, List.drop_succ_cons, List.drop_zero]
    repeat (go_big_quiet_step (fail))
    refine wpQuiet_nil ?_
    refine Cf.calm_call Cf.calm_mono_final 67 #[.agg #[.int .i64 S, .slice A m c], .slice none 0 0] rfl (fun w => ?_) (fun w' he _ => ?_) ?_
    · go_simp
    · refine (order_nil S (.slice A m c) w' w' (Ext.refl _) h8).mono fun e w'' h => ?_
      obtain ⟨Ao, co, rfl, h1, h2⟩ := h
      rw [Hc4.out] at h1 ⊢
      exact ⟨_, rfl, h2, (show isNats cols _ w'' from ⟨Ao, co, rfl, h1⟩), fun hf => by cases hf⟩
    intro v5 w5 _ _ _
    simp only [Act.put, List.setIfInBounds_toArray, List.set_cons_succ, List.set_cons_zero]
    refine Cf.calm_call Cf.calm_mono_final 65 #[v3, v5] rfl (fun w => ?_) (fun w' he hf => ?_) ?_
    · go_simp
    · have f3 : isRows wb ms S v3 w' := (hf 3 (by kernel_rfl)).1.2 rfl
      have f5 : isNats cols v5 w' := (hf 5 (by kernel_rfl)).2 rfl
      refine (solve_is HT.out f3 f5 Hc1.out hc2).mono fun e w'' h => ?_
      obtain ⟨v, rfl, hx, h1⟩ := h
      exact ⟨_, rfl, hx, (show isSolved wb ms S cols v w'' from h1.since he), fun hf => by cases hf⟩
    intro v6 w6 _ hv6 _
    have hv6' : isSolved wb ms S cols v6 w6 := hv6
    obtain ⟨v, ordv, mb, _, _, _, _, _, d, _, rfl, _⟩ := hv6'
    clear hv6
    simp only [Act.put, List.setIfInBounds_toArray, List.set_cons_succ, List.set_cons_zero]
    refine Cf.calm_value Cf.calm_mono_final (fun v _ => v = .map (some mb)) (fun _ _ _ _ h => h) rfl (fun w' he hf => ⟨.map (some mb), w', by have hfd := field_of v ordv (.int .i64 d) mb w'; go_simp, Ext.refl _, rfl, fun hf => by cases hf⟩) ?_
    rintro v7 w7 _ rfl _
    simp only [Act.put, List.setIfInBounds_toArray, List.set_cons_succ, List.set_cons_zero]
    refine Cf.calm_value Cf.calm_mono_final (fun v _ => v = .int .i64 (r : Int)) (fun _ _ _ _ h => h) rfl (fun w' he hf => ?_) ?_
    · have f6 : isSolved wb ms S cols (.agg #[v, .map (some mb), ordv, .int .i64 d]) w' := (hf 6 (by kernel_rfl)).1.2 rfl
      obtain ⟨n, D, hp, hsz⟩ := f6.rk Hc3.out
      refine ⟨_, w', exec_len _ rfl rfl hp, Ext.refl _, by rw [hsz, ← Hm.out, ← Hr.out], fun hf => by cases hf⟩
    rintro v8 w8 _ rfl _
    simp only [Act.put, List.setIfInBounds_toArray, List.set_cons_succ, List.set_cons_zero]
    refine Cf.calm_nil fun w9 he9 hF => ?_
    clear hF
    have hx9 := hexb.trans he9
    go_wp2
    go_ret2
    exact ⟨rfl, hx9⟩
end Go.Proofs.Ytbclbcldplmppaa

/- A solved train's map, looked up; the code's search for clutches that slip. -/
namespace Go.Proofs.Ytbclbcldplmppaa
open Go.RowKit

theorem MapIs.look {w : World} {mb n : Nat} {D : DataW Unit} {cs : List Nat} (h : MapIs D cs) (hM : MapI w mb n D) (x : Nat) (hx : x < 900) :
    ∃ c : Int, (Instr.lookup 99 (.map (some mb)) (.int .i64 x) true).run Try.prog w = .ok (.tuple #[.int .i64 c, .bool (decide (x ∈ cs))]) w ∧ ∀ k (hk : k < cs.length), cs[k] = x → c = (k : Int) := by
  have hkey := Maps.keyOf_int_mk (P := Try.prog) Try.underlying3 (wf_nat x (by omega))
  obtain ⟨i, hi, hz0, hz1, hz2⟩ := int_elem.info
  obtain ⟨v, ps, hrun, hv⟩ := hM.look_ok (Maps.int_keyed Try.underlying3) Try.underlying99 (z := .int .i64 0) (by simp [zeroValue, typeInfo, hi, hz0]) (plainElem_int Try.underlying3 (by decide)) hkey
  obtain ⟨c, rfl, hc, _⟩ := plainElem_int_inv Try.underlying3 hv
  rw [h.has] at hrun
  refine ⟨c, hrun, fun k hk e => ?_⟩
  have h1 := h.at_ k hk (.lit (.int .i64 0))
  rw [e] at h1
  have h2 := congrArg Prod.fst hc
  simp only at h2
  rw [h1] at h2
  simpa using h2.symm

/-- A jam, by the map. -/
theorem isSolved.lookJam {b w : World} {ms : List Msh} {S i : Nat} {v ordv : Value} {mb : Nat} {d : Int} (h : isSolved b ms S (ordN S [i] [i]) (.agg #[v, .map (some mb), ordv, .int .i64 d]) w) (hi : i < S) (h8 : S ≤ 8) :
    ∃ c : Int, (Instr.lookup 99 (.map (some mb)) (.int .i64 i) true).run Try.prog w = .ok (.tuple #[.int .i64 c, .bool (jamB ms.length S (gearL ms S) i)]) w := by
  obtain ⟨v', ordv', mb', g, h, σ, pv, M, d', D, e, hs, hm, hp, hd, ho⟩ := h
  simp only [Value.agg.injEq, Array.mk.injEq, List.cons.injEq, Value.map.injEq, Option.some.injEq, and_true] at e
  obtain ⟨_, rfl, _⟩ := e
  obtain ⟨c, hc, _⟩ := hd.look hp i (by omega)
  refine ⟨c, ?_⟩
  have hj := hs.jam (ordN_all (ex := [i]) (tl := [i]) (fun c hc => hc)) (c1 := (List.range S).filter (fun k => decide (k ∉ [i]))) (i := i) rfl (ordN_nodup (ex := [i]) (tl := [i]) (fun c hc => hc) (by simp)) hi
  have e2 : jamB ms.length S (gearL ms S) i = decide (i ∈ colsP pv) := by
    rw [Bool.eq_iff_iff, decide_eq_true_iff, ← hj]
    unfold jamB isJam
    exact beq_iff_eq
  rw [e2]
  exact hc

theorem slice_full {A : Option Addr} {q d : Nat} (w : World) (hA : A = none ∨ ∃ g, A = some ⟨g, 0, none⟩) (h : q ≤ d) : (Instr.slice 22 (.slice A q d) none (some (.int .i64 q)) (some (.int .i64 q))).run Try.prog w = .ok (.slice A q q) w := by
  obtain ⟨i, hi, hz0, hz1, hz2⟩ := int_elem.info
  rcases hA with rfl | ⟨g, rfl⟩
  · simp [Instr.slice, Instr.sliceBounds, Instr.sliceBound, asIntOf, run_underlying Try.underlying22, sizeOf, typeInfo, hi, h, Addr.add]
  · simp [Instr.slice, Instr.sliceBounds, Instr.sliceBound, asIntOf, run_underlying Try.underlying22, sizeOf, typeInfo, hi, h, Addr.add]
end Go.Proofs.Ytbclbcldplmppaa

/- The code's search for clutches that slip: the closure, where no more are wanted. -/
namespace Go.Proofs.Ytbclbcldplmppaa
open Go.RowKit

theorem clone_nil (w : World) : Calls Try.prog 59 #[.slice none 0 0] w fun e w' => e = .returned (.slice none 0 0) ∧ w = w' := by
  go_enter Try.func59, Try.ntmps59
  have hnil := fun W => Lib.run_eql_slice_nil (P := Try.prog) W 22 3 none 0 0 0 0 Try.underlying22
  go_wp2
  go_ret
  exact ⟨rfl, rfl⟩

/-- A set of clutches, in a slice. -/
structure SetOK (F : Nat) (v : Value) (l : List Nat) (w : World) : Prop where
  row : RowI (natI l) v w
  far : v.ownBlock ≠ some F
  nil : l = [] → v = .slice none 0 0
theorem SetOK.later {F : Nat} {v : Value} {l : List Nat} {w w' : World} (h : SetOK F v l w) (he : Ext w w') : SetOK F v l w' := ⟨h.row.later he, h.far, h.nil⟩
theorem RowI.farther {F : Nat} {v : Value} {l : List Int} {w w' : World} (h : RowI l v w) (hf : v.ownBlock ≠ some F) (hg : w.grownBy w' (some F)) : RowI l v w' := by
  refine ⟨h.1, ?_⟩
  rcases h.2 with h1 | ⟨g, cap, cur, rfl, hb, hh, r⟩
  · exact .inl h1
  · exact .inr ⟨g, cap, cur, rfl, hb, (hg.block g (Array.getElem?_eq_some_iff.1 hh).1 hf).trans hh, r⟩
theorem SetOK.grown {F : Nat} {v : Value} {l : List Nat} {w w' : World} (h : SetOK F v l w) (hg : w.grownBy w' (some F)) : SetOK F v l w' := ⟨h.row.farther h.far hg, h.far, h.nil⟩
theorem SetOK.form {F : Nat} {v : Value} {l : List Nat} {w : World} (h : SetOK F v l w) : ∃ A c, v = .slice A (natI l).length c ∧ (A = none ∨ ∃ g, A = some ⟨g, 0, none⟩) ∧ (natI l).length ≤ c ∧ Ints w A (natI l) := by
  have hr : w.ownsRow 0 3 1 v (natI l).length ((natI l).map vint) := h.row
  rcases h.row.2 with ⟨rfl, e⟩ | ⟨g, cap, cur, rfl, _, _, hc, _⟩
  · exact ⟨none, 0, by rw [e], .inl rfl, by rw [e]; exact Nat.le_refl _, by rw [e] at hr; exact Row.of_own hr⟩
  · exact ⟨_, cap, rfl, .inr ⟨g, rfl⟩, hc, Row.of_own hr⟩

theorem clone_set {F : Nat} {v : Value} {l : List Nat} {w : World} (h : SetOK F v l w) (hF : F < w.heap.size) (hl : l.length ≤ 1000) :
    Calls Try.prog 59 #[v] w fun e w' => ∃ v', e = .returned v' ∧ Ext w w' ∧ RowI (natI l) v' w' ∧ v'.ownBlock ≠ some F := by
  cases l with
  | nil =>
    have hv := h.nil rfl
    subst hv
    refine (clone_nil w).mono fun e w' h => ?_
    obtain ⟨rfl, rfl⟩ := h
    exact ⟨_, rfl, Ext.refl _, RowI.nil _, by simp [Value.ownBlock]⟩
  | cons x l =>
    obtain ⟨A, c, rfl, _, _, hi⟩ := h.form
    refine (clone_ints A c _ w hi (by rw [natI_len]; omega) (by rw [natI_len]; simp)).mono fun e w' h => ?_
    obtain ⟨v', rfl, ho⟩ := h
    refine ⟨v', rfl, ho.ext, ownsRow_zero ho.2, fun e => ?_⟩
    have := (ho.2.lt F e).1
    omega

/-- The world in which the closure runs: the place for what was found at block F, the closure's own place behind it. -/
structure ChW (b w : World) (F : Nat) (clo : Value) : Prop where
  ext : Ext b w
  f : ∃ u, w.heap[F]? = some (.cells #[u] 22)
  g : w.heap[F + 1]? = some (.cells #[clo] 111)
theorem ChW.later {b w w' : World} {F : Nat} {clo : Value} (h : ChW b w F clo) (he : Ext w w') : ChW b w' F clo := by
  obtain ⟨u, hu⟩ := h.f
  exact ⟨h.ext.trans he, ⟨u, he.heap hu⟩, he.heap h.g⟩
theorem ChW.lt {b w : World} {F : Nat} {clo : Value} (h : ChW b w F clo) : F < w.heap.size := by
  obtain ⟨u, hu⟩ := h.f
  exact (Array.getElem?_eq_some_iff.1 hu).1
theorem ChW.grown {b w w' : World} {F : Nat} {clo u : Value} (h : ChW b w F clo) (hF : b.heap.size ≤ F) (hg : w.grownBy w' (some F)) (hu : w'.heap[F]? = some (.cells #[u] 22)) : ChW b w' F clo :=
  ⟨h.ext.grown hg (fun k hk => by injection hk with hk; omega), ⟨u, hu⟩, (hg.block (F + 1) (Array.getElem?_eq_some_iff.1 h.g).1 (by simp)).trans h.g⟩

/-- What the closure hands back. -/
def ChRes (w : World) (F : Nat) (r : Option (List Nat)) (e : Ending) (w' : World) : Prop :=
  e = .returned (.bool r.isSome) ∧ w.grownBy w' (some F) ∧ ∃ u, w'.heap[F]? = some (.cells #[u] 22) ∧ ∀ l, r = some l → RowI (natI l) u w'

theorem heap_setCell {w : World} {F : Nat} {u v : Value} {t : TypeId} (h : w.heap[F]? = some (.cells #[u] t)) : (w.setCell ⟨F, 0, none⟩ v).heap[F]? = some (.cells #[v] t) := by
  unfold World.setCell
  simp only [Array.getElem?_modify, if_true, h, Option.map_some]
  rfl
theorem grown_setCell {w : World} {F : Nat} {v : Value} : w.grownBy (w.setCell ⟨F, 0, none⟩ v) (some F) := by
  refine ⟨rfl, rfl, rfl, by simp [World.setCell], fun k hk hne => ?_⟩
  have : ¬ F = k := fun e => hne (by rw [e])
  unfold World.setCell
  simp only [Array.getElem?_modify, if_neg this]
end Go.Proofs.Ytbclbcldplmppaa

/- The closure, where no more clutches are wanted: whether a shaft is jammed without a set. -/
namespace Go.Proofs.Ytbclbcldplmppaa
open Go.RowKit

structure ChE (b : World) (bt bi ba : Nat) (A : Option Addr) (c S I : Nat) (ms : List Msh) (Aa : Option Addr) (ca F : Nat) : Prop where
  hA : MRow b A ms
  ht : trainP S ms
  hi : I < S
  t0 : ∀ w', Ext b w' → w'.cell? ⟨bt, 0, none⟩ = some (.int .i64 S)
  t1 : ∀ w', Ext b w' → w'.cell? ⟨bt, 1, none⟩ = some (.slice A ms.length c)
  i0 : ∀ w', Ext b w' → w'.cell? ⟨bi, 0, none⟩ = some (.int .i64 I)
  a0 : ∀ w', Ext b w' → w'.cell? ⟨ba, 0, none⟩ = some (.slice Aa (clF ms 0).length ca)
  al : Ints b Aa (natI (clF ms 0))
  fb : b.heap.size ≤ F
def pAt (g : Nat) : Value := .pointer (some ⟨g, 0, none⟩)
def clos (bt bi ba F : Nat) : Value := .func (.func 74) #[] #[.pointer (some ⟨bt, 0, none⟩), .pointer (some ⟨bi, 0, none⟩), .pointer (some ⟨F, 0, none⟩), .pointer (some ⟨ba, 0, none⟩), .pointer (some ⟨F + 1, 0, none⟩)]

set_option maxRecDepth 100000 in
set_option maxHeartbeats 4000000 in
theorem choose_zero {b : World} {bt bi ba : Nat} {A : Option Addr} {c S I : Nat} {ms : List Msh} {Aa : Option Addr} {ca F : Nat} (hE : ChE b bt bi ba A c S I ms Aa ca F) (fr : Int) (rest : List Nat) (v : Value) (set : List Nat) (w : World) (hW : ChW b w F (clos bt bi ba F)) (hs : SetOK F v set w) (hl : set.length ≤ 900) :
    Calls Try.prog 74 #[v, .int .i64 fr, .int .i64 0, .pointer (some ⟨bt, 0, none⟩), .pointer (some ⟨bi, 0, none⟩), .pointer (some ⟨F, 0, none⟩), .pointer (some ⟨ba, 0, none⟩), .pointer (some ⟨F + 1, 0, none⟩)] w (ChRes w F (chooseL (jamO ms S I) rest 0 set)) := by
  have ht := hE.ht
  have h8 : S ≤ 8 := by have := ht.2.1; omega
  have hi := hE.hi
  have ht' := offL_train ht set
  obtain ⟨B, d, rfl, hB⟩ : ∃ B d, v = .slice B (natI set).length d ∧ Ints w B (natI set) := by
    obtain ⟨B, d, e, _, _, h⟩ := hs.form
    exact ⟨B, d, e, h⟩
  have hl16 := ht.2.2.1
  have c1 := fun (w' : World) (he : Ext w w') => open_any A c S ms B d (natI set) w' (hE.hA.ext (hW.ext.trans he)) (hB.ext he) (by omega) (by rw [natI_len]; omega)
  have c2 := fun (w' : World) (he : Ext w w') => clone_set (hs.later he) (F := F) (Nat.lt_of_lt_of_le hW.lt he.le) (by omega)
  have eo : keepL (natI set) ms ms.length = offL ms set := rfl
  have ej : jamB (offL ms set).length S (gearL (offL ms set) S) I = jamO ms S I set := rfl
  rw [eo] at c1
  have C1 := Lib.hid c1
  have C2 := Lib.hid c2
  have Ej := Lib.hid ej
  have HT := Lib.hid ht'
  have t0 : ∀ w', Ext w w' → w'.cell? ⟨bt, 0, none⟩ = some (.int .i64 S) := fun w' he => hE.t0 w' (hW.ext.trans he)
  have t1 : ∀ w', Ext w w' → w'.cell? ⟨bt, 1, none⟩ = some (.slice A ms.length c) := fun w' he => hE.t1 w' (hW.ext.trans he)
  have i0 : ∀ w', Ext w w' → w'.cell? ⟨bi, 0, none⟩ = some (.int .i64 I) := fun w' he => hE.i0 w' (hW.ext.trans he)
  obtain ⟨u0, hu0⟩ := hW.f
  have hfc : ∀ w', Ext w w' → w'.cell? ⟨F, 0, none⟩ = some u0 := fun w' he => by rw [cell_heap (he.heap hu0)]; rfl
  have hff : ∀ w', Ext w w' → w'.frozen? ⟨F, 0, none⟩ = false := fun w' he => by simp [World.frozen?, he.heap hu0]
  have Hu0 := Lib.hid hu0
  rw [chooseL_zero]
  clear hE hW hs hB c1 c2 eo ej ht ht' hu0 hl
  generalize jamO ms S I set = bj at *
  generalize offL ms set = ns at *
  generalize (natI set).length = q at *
  obtain ⟨m, hm⟩ : ∃ m, m = ms.length := ⟨_, rfl⟩
  rw [← hm] at C1 t1 hl16
  clear hm
  obtain ⟨cols, hcols⟩ : ∃ cols, cols = ordN S [I] [I] := ⟨_, rfl⟩
  have hc1 : ∀ c ∈ cols, c < S := by rw [hcols]; exact ordN_lt (by simpa using hi)
  have hc2 : cols.length ≤ 1000 := by have := ordN_len (S := S) (ex := [I]) (tl := [I]) (by simp); rw [hcols]; omega
  have hc4 : ordS S [(I : Int)] = cols.map fun (k : Nat) => (k : Int) := by rw [hcols]; exact ordS_one S I
  have Hc := Lib.hid hcols
  have Hc1 := Lib.hid hc1
  have Hc4 := Lib.hid hc4
  clear hcols hc1 hc4
  cases bj
  all_goals
    go_enter Try.func74, Try.ntmps74
    go_wp2_with (first
      | (go_at_call 70; refine (C1.out _ (by simp)).mono ?_; rintro e w1 ⟨v, rfl, hown⟩; obtain ⟨Av, cv, rfl⟩ := hown.form; have hx1 := hown.ext))
    have hmr := hown.mrow
    have hx2 : Ext w (w1.alloc (.cells #[.int .i64 S, .slice Av ns.length cv] 41)) := hx1.trans (by simp)
    have hmr2 : MRow (w1.alloc (.cells #[.int .i64 S, .slice Av ns.length cv] 41)) Av ns := hmr.ext (by simp)
    have hp0 : ∀ w', Ext (w1.alloc (.cells #[.int .i64 S, .slice Av ns.length cv] 41)) w' → w'.cell? ⟨w1.heap.size, 0, none⟩ = some (.int .i64 S) := fun w' he => he.cell (by simp)
    have hp1 : ∀ w', Ext (w1.alloc (.cells #[.int .i64 S, .slice Av ns.length cv] 41)) w' → w'.cell? ⟨w1.heap.size, 1, none⟩ = some (.slice Av ns.length cv) := fun w' he => he.cell (by simp)
    clear hown hmr hx1
    generalize w1.alloc (.cells #[.int .i64 S, .slice Av ns.length cv] 41) = wl at *
    generalize w1.heap.size = bl at *
    have i0 : ∀ w', Ext wl w' → _ := fun w' he => i0 w' (hx2.trans he)
    have hfc : ∀ w', Ext wl w' → _ := fun w' he => hfc w' (hx2.trans he)
    have hff : ∀ w', Ext wl w' → _ := fun w' he => hff w' (hx2.trans he)
    have Hmr := Lib.hid hmr2
    clear hmr2 C1 t0 t1
    obtain ⟨k, hk⟩ : ∃ k, k = ns.length := ⟨_, rfl⟩
    rw [← hk] at hp1
    have Hk := Lib.hid hk
    clear hk
    refine Cf.wp_region_calm (p := Cf.extPre) (fr := fun _ => false) 15 (fun j _ v w => solS wl ns S cols 1 5 6 j v w) (fun _ _ _ _ _ he h => h.later he) (by kernel_rfl) (by kernel_rfl) ?_
    simp only [List.take_succ_cons, List.take_zero, List.drop_succ_cons, List.drop_zero]
    refine Cf.calm_quiet Cf.calm_mono_final wl (fun _ h => h) 1 (by kernel_rfl) ?_
    simp only [List.take_succ_cons, List.take_zero, List.drop_succ_cons, List.drop_zero]
    repeat (go_big_quiet_step (fail))
    refine wpQuiet_nil ?_
    refine Cf.calm_call Cf.calm_mono_final 66 #[.agg #[.int .i64 S, .slice Av k cv]] rfl (fun w => ?_) (fun w' he _ => ?_) ?_
    · go_simp
    · rw [Hk.out]
      refine (rows_is Av cv S ns w' (Hmr.out.ext he) HT.out).mono fun e w'' h => ?_
      obtain ⟨v, rfl, hx, rs, h1, h2⟩ := h
      exact ⟨_, rfl, hx, (show isRows wl ns S v w'' from ⟨rs, h1.since he, h2⟩), fun hf => by cases hf⟩
    intro v1 w3 _ _ _
    simp only [Act.put, List.setIfInBounds_toArray, List.set_cons_succ, List.set_cons_zero]
    refine Cf.calm_quiet Cf.calm_mono_final wl (fun _ h => h) 2 (by kernel_rfl) ?_
    simp only [List.take_succ_cons, List.take_zero, List.drop_succ_cons, List.drop_zero]
    repeat (go_big_quiet_step (fail))
    refine wpQuiet_nil ?_
    refine Cf.calm_value Cf.calm_mono_final (fun v w => ∃ g, v = .slice (some ⟨g, 0, none⟩) 1 1 ∧ w.cell? ⟨g, 0, none⟩ = some (vint I)) (fun _ w' w'' hR ⟨g, e, hh⟩ => ⟨g, e, (show Ext w' w'' from hR).cell hh⟩) rfl (fun w' hR _ => ⟨.slice (some ⟨w'.heap.size, 0, none⟩) 1 1, w'.alloc (.cells #[vint I] 3), by go_simp, (Ext.refl w').alloc _, ⟨_, rfl, by rw [World.cell?_alloc_at _ _ _ _ rfl]; rfl⟩, fun hf => by cases hf⟩) ?_
    rintro v4 _ _ ⟨g4, rfl, _⟩ _
    simp only [Act.put, List.setIfInBounds_toArray, List.set_cons_succ, List.set_cons_zero]
    refine Cf.calm_call Cf.calm_mono_final 67 #[.agg #[.int .i64 S, .slice Av k cv], .slice (some ⟨g4, 0, none⟩) 1 1] rfl (fun w => ?_) (fun w' he hf => ?_) ?_
    · go_simp
    · obtain ⟨g', e', hc'⟩ := (hf 4 (by kernel_rfl)).2 rfl
      simp only [Value.slice.injEq, Option.some.injEq, Addr.mk.injEq, and_true] at e'
      subst e'
      refine (order_one S (.slice Av k cv) w' w' (Ext.refl _) h8 g4 I hc').mono fun e w'' h => ?_
      obtain ⟨Ao, co, rfl, h1, h2⟩ := h
      rw [Hc4.out] at h1 ⊢
      exact ⟨_, rfl, h2, (show isNats cols _ w'' from ⟨Ao, co, rfl, h1⟩), fun hf => by cases hf⟩
    intro v5 w5 _ _ _
    simp only [Act.put, List.setIfInBounds_toArray, List.set_cons_succ, List.set_cons_zero]
    refine Cf.calm_call Cf.calm_mono_final 65 #[v1, v5] rfl (fun w => ?_) (fun w' he hf => ?_) ?_
    · go_simp
    · have f3 : isRows wl ns S v1 w' := (hf 1 (by kernel_rfl)).1.1.2 rfl
      have f5 : isNats cols v5 w' := (hf 5 (by kernel_rfl)).2 rfl
      refine (solve_is HT.out f3 f5 Hc1.out hc2).mono fun e w'' h => ?_
      obtain ⟨v, rfl, hx, h1⟩ := h
      exact ⟨_, rfl, hx, (show isSolved wl ns S cols v w'' from h1.since he), fun hf => by cases hf⟩
    intro v6 w6 _ hv6 _
    have hv6' : isSolved wl ns S cols v6 w6 := hv6
    obtain ⟨v, ordv, mb, _, _, _, _, _, d6, _, rfl, _⟩ := hv6'
    clear hv6
    simp only [Act.put, List.setIfInBounds_toArray, List.set_cons_succ, List.set_cons_zero]
    refine Cf.calm_value Cf.calm_mono_final (fun v _ => v = .map (some mb)) (fun _ _ _ _ h => h) rfl (fun w' he hf => ⟨.map (some mb), w', by have hfd := field_of v ordv (.int .i64 d6) mb w'; go_simp, Ext.refl _, rfl, fun hf => by cases hf⟩) ?_
    rintro v7 w7 _ rfl _
    simp only [Act.put, List.setIfInBounds_toArray, List.set_cons_succ, List.set_cons_zero]
    refine Cf.calm_quiet Cf.calm_mono_final wl (fun _ h => h) 1 (by kernel_rfl) ?_
    simp only [List.take_succ_cons, List.take_zero, List.drop_succ_cons, List.drop_zero]
    repeat (go_big_quiet_step (fail))
    refine wpQuiet_nil ?_
    refine Cf.calm_value Cf.calm_mono_final (fun v _ => ∃ c, v = .tuple #[.int .i64 c, .bool (jamB ns.length S (gearL ns S) I)]) (fun _ _ _ _ h => h) rfl (fun w' he hf => ?_) ?_
    · have f6 : isSolved wl ns S cols (.agg #[v, .map (some mb), ordv, .int .i64 d6]) w' := (hf 6 (by kernel_rfl)).1.2 rfl
      rw [Hc.out] at f6
      obtain ⟨cc, hlook⟩ := f6.lookJam hi h8
      exact ⟨_, w', by go_simp, Ext.refl _, ⟨cc, rfl⟩, fun hf => by cases hf⟩
    rintro v9 w9 _ ⟨cc, rfl⟩ _
    simp only [Ej.out]
    simp only [Act.put, List.setIfInBounds_toArray, List.set_cons_succ, List.set_cons_zero]
    refine Cf.calm_quiet Cf.calm_mono_final wl (fun _ h => h) 5 (by kernel_rfl) ?_
    simp only [List.take_succ_cons, List.take_zero, List.drop_succ_cons, List.drop_zero]
    repeat (go_big_quiet_step (fail))
    refine wpQuiet_nil ?_
    refine Cf.calm_nil fun w9 he9 hF => ?_
    clear hF
    have hx9 := hx2.trans he9
    have hfc9 := hfc w9 he9
    clear Hmr Hk HT
  · go_wp2_with (first
      | (go_at_call 59; refine (C2.out _ hx9).mono ?_; rintro e wc ⟨vc, rfl, hxc, hrc, hne⟩; obtain ⟨Ac, cc2, rfl, _⟩ := hrc.isInts; have hfc' := hfc wc (he9.trans hxc); have hff' := hff wc (he9.trans hxc)))
    go_ret
    have hx : Ext w wc := hx9.trans hxc
    refine ⟨rfl, (hx.grownBy _).trans grown_setCell, _, heap_setCell (hx.heap Hu0.out), fun l hl => ?_⟩
    injection hl with hl
    subst hl
    exact hrc.farther hne grown_setCell
  · go_wp2
    go_ret
    exact ⟨rfl, hx9.grownBy _, u0, hx9.heap Hu0.out, fun l hl => by cases hl⟩
end Go.Proofs.Ytbclbcldplmppaa

/- The closure: the search by recursion. -/
namespace Go.Proofs.Ytbclbcldplmppaa
open Go.RowKit

theorem getI_natI {l : List Nat} {k : Nat} (h : k < l.length) : getI (natI l) k = (l[k] : Int) := by
  rw [getI_eq (by rw [natI_len]; exact h)]; simp [natI]

set_option maxRecDepth 100000 in
set_option maxHeartbeats 4000000 in
theorem choose_step {b : World} {bt bi ba : Nat} {A : Option Addr} {c S I : Nat} {ms : List Msh} {Aa : Option Addr} {ca F : Nat} (hE : ChE b bt bi ba A c S I ms Aa ca F) (n fr : Nat) (v : Value) (set : List Nat) (w : World) (hW : ChW b w F (clos bt bi ba F)) (hs : SetOK F v set w) (hfr : fr ≤ (clF ms 0).length) (hl : set.length + n + 1 ≤ 900)
    (ih : ∀ (fr : Nat) (v : Value) (set : List Nat) (w : World), ChW b w F (clos bt bi ba F) → SetOK F v set w → fr ≤ (clF ms 0).length → set.length + n ≤ 900 →
      Calls Try.prog 74 #[v, .int .i64 fr, .int .i64 n, .pointer (some ⟨bt, 0, none⟩), .pointer (some ⟨bi, 0, none⟩), .pointer (some ⟨F, 0, none⟩), .pointer (some ⟨ba, 0, none⟩), .pointer (some ⟨F + 1, 0, none⟩)] w (ChRes w F (chooseL (jamO ms S I) ((clF ms 0).drop fr) n set))) :
    Calls Try.prog 74 #[v, .int .i64 fr, .int .i64 ((n : Int) + 1), .pointer (some ⟨bt, 0, none⟩), .pointer (some ⟨bi, 0, none⟩), .pointer (some ⟨F, 0, none⟩), .pointer (some ⟨ba, 0, none⟩), .pointer (some ⟨F + 1, 0, none⟩)] w (ChRes w F (chooseL (jamO ms S I) ((clF ms 0).drop fr) (n + 1) set)) := by
  have hl16 := hE.ht.2.2.1
  have hna : (clF ms 0).length ≤ 16 := Nat.le_trans (clF_len ms 0) (by omega)
  obtain ⟨B, d, rfl, hBA, hqd, hB⟩ := hs.form
  have hq9 : (natI set).length ≤ 900 := by rw [natI_len]; omega
  have hlow := hE.fb
  have hnb : n ≤ 900 := by omega
  have hal := fun (k : Nat) (hk : k < (clF ms 0).length) => (hE.al).some_ (by rw [natI_len]; omega)
  have hdrop := fun (k : Nat) (hk : k < (clF ms 0).length) => List.drop_eq_getElem_cons hk
  have hgk := fun (k : Nat) (hk : k < (clF ms 0).length) => getI_natI hk
  have hih := fun (k : Nat) (hk : k < (clF ms 0).length) (v' : Value) (w' : World) (h : ChW b w' F (clos bt bi ba F)) (hs : SetOK F v' (set ++ [(clF ms 0)[k]]) w') => ih (k + 1) v' (set ++ [(clF ms 0)[k]]) w' h hs hk (by rw [List.length_append, List.length_singleton]; omega)
  have hsl := fun (w' : World) => slice_full (q := (natI set).length) (d := d) w' hBA hqd
  rw [natI_len] at hal
  have Hal := Lib.hid hal
  have Hdrop := Lib.hid hdrop
  have Hgk := Lib.hid hgk
  have Hih := Lib.hid hih
  have Hsl := Lib.hid hsl
  have a0 := hE.a0
  have HW := Lib.hid hW
  have HS := Lib.hid hs
  have Ha0 := Lib.hid a0
  have Hlow := Lib.hid hlow
  clear hal hdrop hgk hih hsl ih hE hB hBA hW hs hl a0 hlow
  generalize jamO ms S I = J at *
  generalize clF ms 0 = all at *
  obtain ⟨na, hnae⟩ : ∃ na, na = all.length := ⟨_, rfl⟩
  rw [← hnae] at hfr hna Ha0
  have Hna := Lib.hid hnae
  clear hnae
  obtain ⟨q, hq⟩ : ∃ q, q = (natI set).length := ⟨_, rfl⟩
  rw [← hq] at hq9 hqd HS Hsl ⊢
  have Hq := Lib.hid hq
  clear hq
  have hn1 : ¬ ((n : Int) + 1 = 0) := by omega
  obtain ⟨n1, hn1e⟩ : ∃ n1 : Int, n1 = (n : Int) + 1 := ⟨_, rfl⟩
  rw [← hn1e] at hn1 ⊢
  have Hn1 := Lib.hid hn1e
  clear hn1e
  go_enter Try.func74, Try.ntmps74
  go_wp2
  go_loopw [15] (fun i wr => ∃ k : Nat, k ≤ na ∧ i = .int .i64 k ∧ w.grownBy wr (some F) ∧ (∃ u, wr.heap[F]? = some (.cells #[u] 22)) ∧ chooseL J (all.drop fr) (n + 1) set = chooseL J (all.drop k) (n + 1) set) (fun i _ => na - (intOf i).toNat)
  case atStart => exact ⟨fr, hfr, rfl, grownBy_refl _ _, HW.out.f, rfl⟩
  case round =>
    obtain ⟨k, hk, rfl, hgr, ⟨u, hu⟩, heq⟩ := hrel
    have hWr := HW.out.grown Hlow.out hgr hu
    have hSr := HS.out.grown hgr
    have Heq := Lib.hid heq
    have HWr := Lib.hid hWr
    have HSr := Lib.hid hSr
    have Hgr := Lib.hid hgr
    have Hu := Lib.hid hu
    have a0 : ∀ w', Ext wr w' → w'.cell? ⟨ba, 0, none⟩ = some (.slice Aa na ca) := fun w' he => Ha0.out w' (hWr.ext.trans he)
    clear heq hWr hSr hgr hu
    by_cases hlt : k < na
    · have hkp : k < all.length := by rw [← Hna.out]; exact hlt
      obtain ⟨ad, rfl, hcell⟩ := Hal.out k hkp
      have hbr := HWr.out.ext
      have hak : ∀ w', Ext wr w' → w'.cell? (ad.add k) = some (.int .i64 (getI (natI all) k)) := fun w' he => hcell k hkp w' (hbr.trans he)
      have hgk := Hgk.out k hkp
      have hih := Hih.out k hkp
      have hdr := Hdrop.out k hkp
      clear hcell
      generalize all[k] = y at *
      rw [hgk] at hak
      have Hih' := Lib.hid hih
      have Hdr := Lib.hid hdr
      clear hih hdr hgk Hal Hih
      have hclo : ∀ w', Ext wr w' → w'.cell? ⟨F + 1, 0, none⟩ = some (.func (.func 74) #[] #[.pointer (some ⟨bt, 0, none⟩), .pointer (some ⟨bi, 0, none⟩), .pointer (some ⟨F, 0, none⟩), .pointer (some ⟨ba, 0, none⟩), .pointer (some ⟨F + 1, 0, none⟩)]) := fun w' he => by rw [cell_heap (he.heap HWr.out.g)]; rfl
      have hki : (k : Int) < (na : Int) := by omega
      have e1 : IntKind.i64.wrap ((k : Int) + 1) = ((k + 1 : Nat) : Int) := by rw [IntKind.wrap_i64]; omega
      have en : IntKind.i64.wrap (n1 - 1) = (n : Int) := by rw [Hn1.out, IntKind.wrap_i64]; omega
      go_wp2
      refine Cf.wp_region_calm (p := Cf.extPre) (fr := fun _ => false) 17 (fun _ _ _ _ => True) (fun _ _ _ _ _ _ h => h) (by kernel_rfl) (by kernel_rfl) ?_
      simp only [List.take_succ_cons, List.take_zero, List.drop_succ_cons, List.drop_zero]
      refine Cf.calm_quiet Cf.calm_mono_final wr (fun _ h => h) 3 (by kernel_rfl) ?_
      simp only [List.take_succ_cons, List.take_zero, List.drop_succ_cons, List.drop_zero]
      repeat (go_big_quiet_step (fail))
      refine wpQuiet_nil ?_
      refine Cf.calm_value Cf.calm_mono_final (fun v _ => v = .int .i64 q) (fun _ _ _ _ h => h) rfl (fun w' he hf => ⟨_, w', by go_simp, Ext.refl _, rfl, fun hf => by cases hf⟩) ?_
      rintro v3 _ _ rfl _
      simp only [Act.put, List.setIfInBounds_toArray, List.set_cons_succ, List.set_cons_zero]
      refine Cf.calm_quiet Cf.calm_mono_final wr (fun _ h => h) 1 (by kernel_rfl) ?_
      simp only [List.take_succ_cons, List.take_zero, List.drop_succ_cons, List.drop_zero]
      repeat (go_big_quiet_step (fail))
      refine wpQuiet_nil ?_
      refine Cf.calm_value Cf.calm_mono_final (fun v _ => v = .int .i64 q) (fun _ _ _ _ h => h) rfl (fun w' he hf => ⟨_, w', by go_simp, Ext.refl _, rfl, fun hf => by cases hf⟩) ?_
      rintro v5 _ _ rfl _
      simp only [Act.put, List.setIfInBounds_toArray, List.set_cons_succ, List.set_cons_zero]
      refine Cf.calm_value Cf.calm_mono_final (fun v _ => v = .slice B q q) (fun _ _ _ _ h => h) rfl (fun w' he hf => ⟨_, w', by have hsl := Hsl.out w'; go_simp, Ext.refl _, rfl, fun hf => by cases hf⟩) ?_
      rintro v6 _ _ rfl _
      simp only [Act.put, List.setIfInBounds_toArray, List.set_cons_succ, List.set_cons_zero]
      refine Cf.calm_quiet Cf.calm_mono_final wr (fun _ h => h) 4 (by kernel_rfl) ?_
      simp only [List.take_succ_cons, List.take_zero, List.drop_succ_cons, List.drop_zero]
      repeat (go_big_quiet_step (fail))
      refine wpQuiet_nil ?_
      refine Cf.calm_value Cf.calm_mono_final (fun v w => ∃ g, v = .slice (some ⟨g, 0, none⟩) 1 1 ∧ w.cell? ⟨g, 0, none⟩ = some (vint y)) (fun _ w' w'' hR ⟨g, e, hh⟩ => ⟨g, e, (show Ext w' w'' from hR).cell hh⟩) rfl (fun w' hR _ => ⟨.slice (some ⟨w'.heap.size, 0, none⟩) 1 1, w'.alloc (.cells #[vint y] 3), by go_simp, (Ext.refl w').alloc _, ⟨_, rfl, by rw [World.cell?_alloc_at _ _ _ _ rfl]; rfl⟩, fun hf => by cases hf⟩) ?_
      rintro v11 _ _ ⟨g11, rfl, _⟩ _
      simp only [Act.put, List.setIfInBounds_toArray, List.set_cons_succ, List.set_cons_zero]
      refine Cf.calm_value Cf.calm_mono_final (fun v w => ∃ g cap, v = .slice (some ⟨g, 0, none⟩) (q + 1) cap ∧ wr.heap.size ≤ g ∧ RowI (natI (set ++ [y])) v w) (fun _ w' w'' hR ⟨g, cap, e, h1, h2⟩ => ⟨g, cap, e, h1, h2.later hR⟩) rfl (fun w' hR hf => ?_) ?_
      · have hR : Ext wr w' := hR
        obtain ⟨g', e', hc'⟩ := (hf 11 (by kernel_rfl)).2 rfl
        simp only [Value.slice.injEq, Option.some.injEq, Addr.mk.injEq, and_true] at e'
        subst e'
        have hBw : Ints w' B (natI set) := (show RowI (natI set) (.slice B q d) w' from HSr.out.row.later hR) |> fun h => by
          have h : w'.ownsRow 0 3 1 (.slice B q d) (natI set).length ((natI set).map vint) := h
          rw [← Hq.out] at h
          exact Row.of_own h
        obtain ⟨g, cap, w'', hr, hx, hg, ho⟩ := app_new (m := 1) (ys := [(y : Int)]) (.slice (some ⟨g11, 0, none⟩) 1 1) 22 hBw Hq.out.symm ((ints_one hc').src 1) (by omega) (by omega)
        refine ⟨_, w'', exec_append _ _ 22 rfl rfl rfl hr, hx, ⟨g, cap, rfl, by rw [← hg]; exact hR.le, ?_⟩, fun hf => by cases hf⟩
        rw [natI_snoc]
        exact ownsRow_zero ho.2
      rintro v12 _ _ ⟨g12, c12, rfl, hg12, _⟩ _
      simp only [Act.put, List.setIfInBounds_toArray, List.set_cons_succ, List.set_cons_zero]
      refine Cf.calm_quiet Cf.calm_mono_final wr (fun _ h => h) 4 (by kernel_rfl) ?_
      simp only [List.take_succ_cons, List.take_zero, List.drop_succ_cons, List.drop_zero]
      repeat (go_big_quiet_step (fail))
      refine wpQuiet_nil ?_
      refine Cf.calm_nil fun w3 hx3 hF => ?_
      obtain ⟨_, _, e12, _, hrow⟩ := (hF.1 12).2 rfl
      clear hF e12
      have hW3 := HWr.out.later hx3
      have hSet : SetOK F (.slice (some ⟨g12, 0, none⟩) (q + 1) c12) (set ++ [y]) w3 := ⟨hrow, fun e => by
        have e : g12 = F := Option.some.inj e
        have := HWr.out.lt
        omega, fun e => by simp at e⟩
      have hih3 := Hih'.out _ w3 hW3 hSet
      have ec : ((k + 1 : Nat) : Int) = (k : Int) + 1 := rfl
      obtain ⟨r, hr⟩ : ∃ r, r = chooseL J (all.drop (k + 1)) n (set ++ [y]) := ⟨_, rfl⟩
      rw [← hr, ec] at hih3
      have Hr := Lib.hid hr
      have Hc := Lib.hid hih3
      clear hr hih3 hSet hW3 hrow ec Hih' a0 hclo hak
      have hgr3 : w.grownBy w3 (some F) := Hgr.out.trans (Ext.grownBy hx3 _)
      have Hgr3 := Lib.hid hgr3
      clear hgr3
      cases r with
      | none =>
        go_wp2_with (first
          | (go_at_call 74; refine Hc.out.mono ?_; rintro e w4 ⟨rfl, hg4, u4, hu4, _⟩; simp only [Option.isSome_none]))
        go_roundw
        case rel => exact ⟨k + 1, by omega, by go_num, Hgr3.out.trans hg4, ⟨u4, hu4⟩, by rw [Heq.out, Hdr.out, chooseL_none Hr.out.symm]⟩
        case measure => simp [intOf]; omega
      | some l =>
        go_wp2_with (first
          | (go_at_call 74; refine Hc.out.mono ?_; rintro e w4 ⟨rfl, hg4, u4, hu4, hv4⟩; simp only [Option.isSome_some]))
        go_ret
        refine ⟨by rw [Heq.out, Hdr.out, chooseL_some Hr.out.symm]; rfl, Hgr3.out.trans hg4, u4, hu4, fun l' hl' => ?_⟩
        rw [Heq.out, Hdr.out, chooseL_some Hr.out.symm] at hl'
        exact hv4 l' hl'
    · obtain rfl : k = na := by omega
      have Hend := Lib.hid (show chooseL J (all.drop fr) (n + 1) set = none by rw [Heq.out, Hna.out, List.drop_length]; rfl)
      clear Hih Hal
      have a1 := a0 wr (Ext.refl _)
      go_wp2
      go_ret
      refine ⟨by rw [Hend.out]; rfl, Hgr.out, u, Hu.out, fun l hl => ?_⟩
      rw [Hend.out] at hl
      cases hl

theorem choose_any {b : World} {bt bi ba : Nat} {A : Option Addr} {c S I : Nat} {ms : List Msh} {Aa : Option Addr} {ca F : Nat} (hE : ChE b bt bi ba A c S I ms Aa ca F) : ∀ (n fr : Nat) (v : Value) (set : List Nat) (w : World), ChW b w F (clos bt bi ba F) → SetOK F v set w → fr ≤ (clF ms 0).length → set.length + n ≤ 900 →
    Calls Try.prog 74 #[v, .int .i64 fr, .int .i64 n, .pointer (some ⟨bt, 0, none⟩), .pointer (some ⟨bi, 0, none⟩), .pointer (some ⟨F, 0, none⟩), .pointer (some ⟨ba, 0, none⟩), .pointer (some ⟨F + 1, 0, none⟩)] w (ChRes w F (chooseL (jamO ms S I) ((clF ms 0).drop fr) n set))
  | 0, fr, v, set, w, hW, hs, hfr, hl => choose_zero hE fr _ v set w hW hs (by omega)
  | n + 1, fr, v, set, w, hW, hs, hfr, hl => choose_step hE n fr v set w hW hs hfr (by omega) fun fr' v' set' w' hW' hs' hfr' hl' => choose_any hE n fr' v' set' w' hW' hs' hfr' hl'
end Go.Proofs.Ytbclbcldplmppaa

/- The reference's slipping: a search by recursion. -/
namespace Go.Proofs.Ytbclbcldplmppaa
open Go.RowKit

/-- What a search hands back. -/
def SlipRes (w : World) (r : Option (List Nat)) (e : Ending) (w' : World) : Prop :=
  ∃ v, e = .returned (.tuple #[v, .bool r.isSome]) ∧ Ext w w' ∧ ∀ l, r = some l → RowI (natI l) v w'

theorem chooseL_pre {J : List Nat → Bool} : ∀ (l : List Nat) (n : Nat) (set r : List Nat), chooseL J l n set = some r → ∃ more, r = set ++ more
  | l, 0, set, r, h => by
    rw [chooseL_zero] at h
    split at h
    · cases h
    · injection h with h
      exact ⟨[], by simp [h]⟩
  | [], n + 1, set, r, h => by cases h
  | c :: cs, n + 1, set, r, h => by
    cases h1 : chooseL J cs n (set ++ [c]) with
    | some r' =>
      rw [chooseL_some h1] at h
      injection h with h
      subst h
      obtain ⟨more, e⟩ := chooseL_pre cs n _ _ h1
      exact ⟨c :: more, by rw [e]; simp⟩
    | none =>
      rw [chooseL_none h1] at h
      exact chooseL_pre cs (n + 1) _ _ h
/-- The value of a search's call, in a region. -/
def slipV (r : Option (List Nat)) (v : Value) (w : World) : Prop := ∃ v', v = .tuple #[v', .bool r.isSome] ∧ ∀ l, r = some l → RowI (natI l) v' w
theorem slipV.keep {base q k n : Nat} {w w' : World} {J : List Nat → Bool} {cs set : List Nat} {v : Value} (h : slipV (chooseL J cs n (set ++ [k])) v w) (hR : KeepR base q k w w') (hq : q = set.length) : slipV (chooseL J cs n (set ++ [k])) v w' := by
  obtain ⟨v', e, h⟩ := h
  refine ⟨v', e, fun l hl => (h l hl).keep hR fun y hy => ?_⟩
  obtain ⟨more, rfl⟩ := chooseL_pre _ _ _ _ hl
  subst hq
  simp [natI] at hy
  exact hy.symm

theorem own_of_row {b w : World} {v : Value} {n : Nat} {xs : List Int} (hx : Ext b w) (h : w.ownsRow b.heap.size 3 1 v n (xs.map vint)) : OwnI b w v xs := by
  have : n = xs.length := by have := h.1; simp at this; omega
  subst this
  exact ⟨hx, h⟩

set_option maxRecDepth 100000 in
set_option maxHeartbeats 4000000 in
theorem slipping_zero (A : Option Addr) (c S i : Nat) (ms : List Msh) (fr : Int) (set : List Nat) (B : Option Addr) (d : Nat) (w : World) (hA : MRow w A ms) (hB : RowI (natI set) (.slice B (natI set).length d) w) (ht : trainP S ms) (hi : i < S) (hl2 : set.length ≤ 1000) :
    Calls Try.prog 75 #[.agg #[.int .i64 S, .slice A ms.length c], .int .i64 i, .int .i64 0, .int .i64 fr, .slice B (natI set).length d] w (SlipRes w (chooseL (jamO ms S i) (clF ms 0) 0 set)) := by
  have hl3 : (natI set).length ≤ 1000 := by rw [natI_len]; exact hl2
  have hl16 := ht.2.2.1
  have hB0 : Ints w B (natI set) := Row.of_own hB
  have c1 := fun (w' : World) (he : Ext w w') => without_any A c S ms B d (natI set) w' (hA.ext he) (hB0.ext he) (by omega) (by omega)
  have c2 := fun (Av : Option Addr) (cv : Nat) (w' : World) (h : MRow w' Av (offL ms set)) => jammed_ref Av cv S i (offL ms set) w' h (offL_train ht set) hi
  have hj : jamB (offL ms set).length S (gearL (offL ms set) S) i = jamO ms S i set := rfl
  have hB' := fun (w' : World) (he : Ext w w') => hB.later he
  rw [chooseL_zero]
  rw [hj] at c2
  have C1 := Lib.hid c1
  have C2 := Lib.hid c2
  have HB := Lib.hid hB'
  clear c1 c2 hj hA hB hB' hB0 ht
  have e1 : keepL (natI set) ms ms.length = offL ms set := rfl
  rw [e1] at C1
  clear e1
  generalize jamO ms S i set = bj at *
  obtain ⟨q, hq⟩ : ∃ q, q = (natI set).length := ⟨_, rfl⟩
  rw [← hq] at C1 ⊢
  have Hq := Lib.hid hq
  clear hq hl3 hl2
  generalize ms.length = m at *
  go_enter Try.func75, Try.ntmps75
  have hexb : Ext w (w.alloc (.cells #[.int .i64 S, .slice A m c] 41)) := by simp
  go_wp2_with (first
    | (go_at_call 72; refine (C1.out _ (by simp)).mono ?_; rintro e w1 ⟨v, rfl, hown⟩; obtain ⟨Av, cv, rfl⟩ := hown.form; have hx1 := hown.ext)
    | (go_at_call 79; refine (C2.out Av cv _ hown.mrow).mono ?_; rintro e w2 ⟨rfl, hx2⟩))
  all_goals
    have hx : Ext w w2 := (hexb.trans hx1).trans hx2
    have hh : RowI (natI set) (.slice B q d) w2 := by rw [Hq.out]; exact HB.out w2 hx
    go_ret2
    refine ⟨.slice B q d, rfl, hx, fun l hl => ?_⟩
    first
      | (cases hl; done)
      | (injection hl with hl; subst hl; exact hh)

set_option maxRecDepth 100000 in
set_option maxHeartbeats 4000000 in
theorem slipping_step (A : Option Addr) (c S i n : Nat) (ms : List Msh) (fr : Nat) (set : List Nat) (B : Option Addr) (d : Nat) (w : World) (hA : MRow w A ms) (hB : RowI (natI set) (.slice B (natI set).length d) w) (ht : trainP S ms) (hfr : fr ≤ ms.length) (hl2 : set.length + n + 1 ≤ 900)
    (ih : ∀ (fr : Nat) (set : List Nat) (B : Option Addr) (d : Nat) (w : World), MRow w A ms → RowI (natI set) (.slice B (natI set).length d) w → fr ≤ ms.length → set.length + n ≤ 900 →
      Calls Try.prog 75 #[.agg #[.int .i64 S, .slice A ms.length c], .int .i64 i, .int .i64 n, .int .i64 fr, .slice B (natI set).length d] w (SlipRes w (chooseL (jamO ms S i) (clF ms fr) n set))) :
    Calls Try.prog 75 #[.agg #[.int .i64 S, .slice A ms.length c], .int .i64 i, .int .i64 ((n : Int) + 1), .int .i64 fr, .slice B (natI set).length d] w (SlipRes w (chooseL (jamO ms S i) (clF ms fr) (n + 1) set)) := by
  have hl3 : (natI set).length ≤ 900 := by rw [natI_len]; omega
  have hl16 := ht.2.2.1
  have ha := fun k (hk : k < ms.length) => hA.at_ hk
  have hih := fun (k : Nat) (hk : k < ms.length) (B' : Option Addr) (d' : Nat) (w' : World) (he : Ext w w') (h : RowI (natI (set ++ [k])) (.slice B' (natI (set ++ [k])).length d') w') => ih (k + 1) (set ++ [k]) B' d' w' (hA.ext he) h hk (by rw [List.length_append, List.length_singleton]; omega)
  simp only [natI_snoc, List.length_append, List.length_singleton] at hih
  have htk := fun (k : Nat) (hk : k < ms.length) (h7 : ms[k].kind = 7) => clF_take hk h7
  have hsk := fun (k : Nat) (hk : k < ms.length) (h7 : ¬ ms[k].kind = 7) => clF_skip hk h7
  have hend : chooseL (jamO ms S i) (clF ms ms.length) (n + 1) set = none := by rw [clF_end (Nat.le_refl _)]; rfl
  have hB' := fun (w' : World) (he : Ext w w') => hB.later he
  have Ha := Lib.hid ha
  have Hih := Lib.hid hih
  have Htk := Lib.hid htk
  have Hsk := Lib.hid hsk
  have Hend := Lib.hid hend
  have HB := Lib.hid hB'
  clear ha hih htk hsk hend hB' hA hB ht ih
  generalize jamO ms S i = J at *
  obtain ⟨q, hq⟩ : ∃ q, q = (natI set).length := ⟨_, rfl⟩
  rw [← hq] at hl3 ⊢
  have Hq := Lib.hid hq
  have hn2 : IntKind.i64.wrap ((n : Int) + 1 - 1) = (n : Int) := by rw [IntKind.wrap_i64]; omega
  have Hn2 := Lib.hid hn2
  clear hq hl2 hn2
  obtain ⟨m, hm⟩ : ∃ m, m = ms.length := ⟨_, rfl⟩
  rw [← hm] at hfr hl16 ⊢
  have Hm := Lib.hid hm
  clear hm
  have hn1 : ¬ ((n : Int) + 1 = 0) := by omega
  obtain ⟨n1, hn1e⟩ : ∃ n1 : Int, n1 = (n : Int) + 1 := ⟨_, rfl⟩
  rw [← hn1e] at hn1 Hn2 ⊢
  clear hn1e
  go_enter Try.func75, Try.ntmps75
  go_wp2
  have hexb : Ext w (w.alloc (.cells #[.int .i64 S, .slice A m c] 41)) := by simp
  have hp0 : ∀ w', Ext (w.alloc (.cells #[.int .i64 S, .slice A m c] 41)) w' → w'.cell? ⟨w.heap.size, 0, none⟩ = some (.int .i64 S) := fun w' he => he.cell (by simp)
  have hp1 : ∀ w', Ext (w.alloc (.cells #[.int .i64 S, .slice A m c] 41)) w' → w'.cell? ⟨w.heap.size, 1, none⟩ = some (.slice A m c) := fun w' he => he.cell (by simp)
  generalize w.alloc (.cells #[.int .i64 S, .slice A m c] 41) = wb at *
  generalize w.heap.size = bx at *
  have Hexb := Lib.hid hexb
  have Hp0 := Lib.hid hp0
  have Hp1 := Lib.hid hp1
  clear hexb hp0 hp1
  go_loopw [12] (fun i wr => ∃ k : Nat, k ≤ m ∧ i = .int .i64 k ∧ Ext wb wr ∧ chooseL J (clF ms fr) (n + 1) set = chooseL J (clF ms k) (n + 1) set) (fun i _ => m - (intOf i).toNat)
  case atStart => exact ⟨fr, hfr, rfl, Ext.refl _, rfl⟩
  case round =>
    obtain ⟨k, hk, rfl, hex, heq⟩ := hrel
    have Heq := Lib.hid heq
    clear heq
    have hexw := Hexb.out.trans hex
    have hp0 : ∀ w', Ext wr w' → w'.cell? ⟨bx, 0, none⟩ = some (.int .i64 S) := fun w' he => Hp0.out w' (hex.trans he)
    have hp1 : ∀ w', Ext wr w' → w'.cell? ⟨bx, 1, none⟩ = some (.slice A m c) := fun w' he => Hp1.out w' (hex.trans he)
    by_cases hlt : k < m
    · have hkp : k < ms.length := by rw [← Hm.out]; exact hlt
      obtain ⟨ad, rfl, q0, _⟩ := Ha.out k hkp
      have q0 : ∀ w', Ext wr w' → _ := fun w' he => q0 w' (hexw.trans he)
      have htk := Htk.out k hkp
      have hsk := Hsk.out k hkp
      have hih := Hih.out k hkp
      have Hih' := Lib.hid hih
      have Htk' := Lib.hid htk
      have Hsk' := Lib.hid hsk
      clear htk hsk hih Ha
      generalize ms[k].kind = kind at *
      have hki : (k : Int) < (m : Int) := by omega
      have e1 : IntKind.i64.wrap ((k : Int) + 1) = ((k + 1 : Nat) : Int) := by rw [IntKind.wrap_i64]; omega
      cases h7 : (kind != 7)
      · have h7' : kind = 7 := by simpa using h7
        have Htk2 := Lib.hid (Htk'.out h7')
        clear Htk' Hsk' h7'
        go_wp2
        have Hn2' := Hn2.out
        have hone : ∀ y, ((natI set).map vint)[q]? = some y → y = vint k := fun y hy => by rw [List.getElem?_eq_none (by rw [List.length_map, Hq.out]; exact Nat.le_refl _)] at hy; cases hy
        have htwo : ∀ y, ((natI set).map vint ++ [vint k])[q]? = some y → y = vint k := fun y hy => by
          rw [List.getElem?_append_right (by rw [List.length_map, Hq.out]; exact Nat.le_refl _), List.length_map, ← Hq.out, Nat.sub_self] at hy
          simpa using hy.symm
        have Hone := Lib.hid hone
        have Htwo := Lib.hid htwo
        clear hone htwo
        have hbR : ∀ w', KeepR wr.heap.size q k wr w' → Ext wr w' := fun w' h => h.ext
        have hqs : q = set.length := by rw [Hq.out, natI_len]
        obtain ⟨r, hr⟩ : ∃ r, r = chooseL J (clF ms (k + 1)) n (set ++ [k]) := ⟨_, rfl⟩
        have hstab : Cf.StableS (keepPre wr.heap.size q k) (fun j _ v w => bif j == 12 then slipV r v w else True) := fun j _ v w' w'' hR h => by
          have hR' : KeepR wr.heap.size q k w' w'' := hR
          cases h1 : (j == 12)
          · show (bif j == 12 then _ else True)
            rw [h1]
            trivial
          · have h : (bif j == 12 then slipV r v w' else True) := h
            rw [h1] at h
            have h : slipV r v w' := h
            show (bif j == 12 then slipV r v w'' else True)
            rw [h1]
            show slipV r v w''
            rw [hr] at h ⊢
            exact h.keep hR' hqs
        have Hr := Lib.hid hr
        clear hr hqs
        refine Cf.wp_region_calm (p := keepPre wr.heap.size q k) (fr := fun _ => false) 18 _ hstab (by kernel_rfl) (by kernel_rfl) ?_
        simp only [List.take_succ_cons, List.take_zero, List.drop_succ_cons, List.drop_zero]
        refine Cf.calm_quiet Cf.calm_mono_final wr hbR 6 (by kernel_rfl) ?_
        simp only [List.take_succ_cons, List.take_zero, List.drop_succ_cons, List.drop_zero]
        repeat (go_big_quiet_step (fail))
        refine wpQuiet_nil ?_
        refine Cf.calm_value Cf.calm_mono_final (fun v w => ∃ b, v = .slice (some ⟨b, 0, none⟩) 0 0 ∧ wr.heap.size ≤ b ∧ w.heap[b]? = some (Obj.cells #[] 3)) (fun _ w' w'' hR ⟨b, e, hb, hh⟩ => ⟨b, e, hb, KeepR.lit0 hR hh⟩) rfl (fun w' hR _ => ⟨.slice (some ⟨w'.heap.size, 0, none⟩) 0 0, w'.alloc (.cells #[] 3), by go_simp, KeepR.of_ext ((Ext.refl w').alloc _) hR.below.size, ⟨_, rfl, hR.below.size, heap_alloc_new _ _⟩, fun hf => by cases hf⟩) ?_
        rintro v6 _ _ ⟨b6, rfl, hb6, _⟩ _
        simp only [Act.put, List.setIfInBounds_toArray, List.set_cons_succ, List.set_cons_zero]
        refine Cf.calm_quiet Cf.calm_mono_final wr hbR 1 (by kernel_rfl) ?_
        simp only [List.take_succ_cons, List.take_zero, List.drop_succ_cons, List.drop_zero]
        repeat (go_big_quiet_step (fail))
        refine wpQuiet_nil ?_
        refine Cf.calm_value Cf.calm_mono_final (fun v w => w.ownsRow wr.heap.size 3 1 v q ((natI set).map vint)) (fun _ w' w'' hR h => (show KeepR wr.heap.size q k w' w'' from hR).row h Hone.out) rfl (fun w' hR hf => ?_) ?_
        · obtain ⟨b', eb, hb1, hb2⟩ := (hf 6 (by kernel_rfl)).2 rfl
          simp only [Value.slice.injEq, Option.some.injEq, Addr.mk.injEq, and_true] at eb
          subst eb
          obtain ⟨v', w'', hr, hx, ho⟩ := app_empty (c := d) 22 hb2 hb1 (show Ints w' B (natI set) from Row.of_own (HB.out w' (hexw.trans hR.ext))) (by rw [← Hq.out]; omega)
          rw [← Hq.out] at hr ho
          exact ⟨v', w'', exec_append _ _ 22 rfl rfl rfl hr, KeepR.of_ext hx hR.below.size, ho, fun hf => by cases hf⟩
        intro v8 _ _ _ _
        simp only [Act.put, List.setIfInBounds_toArray, List.set_cons_succ, List.set_cons_zero]
        refine Cf.calm_quiet Cf.calm_mono_final wr hbR 1 (by kernel_rfl) ?_
        simp only [List.take_succ_cons, List.take_zero, List.drop_succ_cons, List.drop_zero]
        repeat (go_big_quiet_step (fail))
        refine wpQuiet_nil ?_
        refine Cf.calm_value Cf.calm_mono_final (fun v w => ∃ b, v = .slice (some ⟨b, 0, none⟩) 1 1 ∧ wr.heap.size ≤ b ∧ w.heap[b]? = some (Obj.cells #[vint k] 3)) (fun _ w' w'' hR ⟨b, e, hb, hh⟩ => ⟨b, e, hb, KeepR.lit1 hR hh⟩) rfl (fun w' hR _ => ⟨.slice (some ⟨w'.heap.size, 0, none⟩) 1 1, w'.alloc (.cells #[vint k] 3), by go_simp, KeepR.of_ext ((Ext.refl w').alloc _) hR.below.size, ⟨_, rfl, hR.below.size, heap_alloc_new _ _⟩, fun hf => by cases hf⟩) ?_
        rintro v10 _ _ ⟨b10, rfl, hb10, _⟩ _
        simp only [Act.put, List.setIfInBounds_toArray, List.set_cons_succ, List.set_cons_zero]
        refine Cf.calm_value Cf.calm_mono_final (fun v w => w.ownsRow wr.heap.size 3 1 v (q + 1) ((natI set).map vint ++ [vint k])) (fun _ w' w'' hR h => (show KeepR wr.heap.size q k w' w'' from hR).row h Htwo.out) rfl (fun w' hR hf => ?_) ?_
        · obtain ⟨b', eb, hb1, hb2⟩ := (hf 10 (by kernel_rfl)).2 rfl
          simp only [Value.slice.injEq, Option.some.injEq, Addr.mk.injEq, and_true] at eb
          subst eb
          have h8 : w'.ownsRow wr.heap.size 3 1 v8 q ((natI set).map vint) := (hf 8 (by kernel_rfl)).1.2 rfl
          obtain ⟨v', w'', hr, ho, hg, hk⟩ := app_keep (c := 1) 22 h8 hb2 (by omega) hR.below.size
          exact ⟨v', w'', exec_append _ _ 22 rfl rfl rfl hr, ⟨Below.grown (Below.refl _ _) hg hR.below.size (fun k hk => (h8.lt k hk).1), hk⟩, ho, fun hf => by cases hf⟩
        intro v11 w11 _ h11 _
        have hf11 : ∃ g cap, v11 = .slice (some ⟨g, 0, none⟩) (q + 1) cap := by
          rcases h11.2 with ⟨_, e⟩ | ⟨g, cap, _, e, _⟩
          · omega
          · exact ⟨g, cap, e⟩
        obtain ⟨g11, c11, rfl⟩ := hf11
        clear h11
        simp only [Act.put, List.setIfInBounds_toArray, List.set_cons_succ, List.set_cons_zero]
        refine Cf.calm_call Cf.calm_mono_final 75 #[.agg #[.int .i64 S, .slice (some ad) m c], .int .i64 i, .int .i64 n, .int .i64 ((k : Int) + 1), .slice (some ⟨g11, 0, none⟩) (q + 1) c11] rfl (fun w => ?_) (fun w' hR hf => ?_) ?_
        · go_simp
        · have h11 : w'.ownsRow wr.heap.size 3 1 (.slice (some ⟨g11, 0, none⟩) (q + 1) c11) (q + 1) ((natI set).map vint ++ [vint k]) := (hf 11 (by kernel_rfl)).2 rfl
          have hi3 : RowI (natI set ++ [(k : Int)]) (.slice (some ⟨g11, 0, none⟩) ((natI set).length + 1) c11) w' := by
            unfold RowI
            rw [List.map_append, List.length_append, ← Hq.out]
            exact ownsRow_zero h11
          have hih3 := Hih'.out (some ⟨g11, 0, none⟩) c11 w' (hexw.trans hR.ext) hi3
          have ec : ((k + 1 : Nat) : Int) = (k : Int) + 1 := rfl
          rw [← Hq.out, ← Hm.out, ← Hr.out, ec] at hih3
          refine hih3.mono fun e w'' h => ?_
          obtain ⟨v, rfl, hx, hv⟩ := h
          exact ⟨_, rfl, KeepR.of_ext hx hR.below.size, (show slipV r _ w'' from ⟨v, rfl, hv⟩), fun hf => by cases hf⟩
        intro v12 w12 _ hv12 _
        have hv12' : slipV r v12 w12 := hv12
        obtain ⟨v', rfl, _⟩ := hv12'
        clear hv12
        simp only [Act.put, List.setIfInBounds_toArray, List.set_cons_succ, List.set_cons_zero]
        refine Cf.calm_quiet Cf.calm_mono_final wr hbR 5 (by kernel_rfl) ?_
        simp only [List.take_succ_cons, List.take_zero, List.drop_succ_cons, List.drop_zero]
        repeat (go_big_quiet_step (fail))
        refine wpQuiet_nil ?_
        refine Cf.calm_nil fun w3 hR3 hF => ?_
        have hV : slipV r (.tuple #[v', .bool r.isSome]) w3 := (hF.1 12).2 rfl
        obtain ⟨v2, e2, hv3⟩ := hV
        simp only [Value.tuple.injEq, Array.mk.injEq, List.cons.injEq, and_true] at e2
        subst e2
        clear hF Hih Hih'
        have hx3 : Ext wr w3 := hR3.ext
        clear hR3
        cases r with
        | none =>
          simp only [Option.isSome_none]
          go_wp2
          go_roundw
          case rel => exact ⟨k + 1, by omega, by go_num, hex.trans hx3, by rw [Heq.out, Htk2.out, chooseL_none Hr.out.symm]⟩
          case measure => simp [intOf]; omega
        | some l =>
          simp only [Option.isSome_some]
          go_wp2
          go_ret2
          refine ⟨v', ?_, hexw.trans hx3, fun l' hl' => ?_⟩
          · rw [Heq.out, Htk2.out, chooseL_some Hr.out.symm]; rfl
          · rw [Heq.out, Htk2.out, chooseL_some Hr.out.symm] at hl'
            exact hv3 l' hl'
      · have h7' : ¬ kind = 7 := by simpa using h7
        have Hsk2 := Lib.hid (Hsk'.out h7')
        clear Htk' Hsk' Hih Hih'
        go_wp2
        go_roundw
        case rel => exact ⟨k + 1, by omega, by go_num, hex, by rw [Heq.out, Hsk2.out]⟩
        case measure => simp [intOf]; omega
    · obtain rfl : k = m := by omega
      have Hr0 := Lib.hid (show chooseL J (clF ms fr) (n + 1) set = none by rw [Heq.out, Hm.out]; exact Hend.out)
      clear Hih Ha
      go_wp2
      go_ret2
      refine ⟨.slice none 0 0, ?_, hexw, fun l hl => ?_⟩
      · rw [Hr0.out]; rfl
      · rw [Hr0.out] at hl
        cases hl

theorem slipping_ref (A : Option Addr) (c S i : Nat) (ms : List Msh) (ht : trainP S ms) (hi : i < S) : ∀ (n fr : Nat) (set : List Nat) (B : Option Addr) (d : Nat) (w : World), MRow w A ms → RowI (natI set) (.slice B (natI set).length d) w → fr ≤ ms.length → set.length + n ≤ 900 →
    Calls Try.prog 75 #[.agg #[.int .i64 S, .slice A ms.length c], .int .i64 i, .int .i64 n, .int .i64 fr, .slice B (natI set).length d] w (SlipRes w (chooseL (jamO ms S i) (clF ms fr) n set))
  | 0, fr, set, B, d, w, hA, hB, hfr, hl => by
    have := slipping_zero A c S i ms fr set B d w hA hB ht hi (by omega)
    rw [chooseL_zero] at this ⊢
    exact this
  | n + 1, fr, set, B, d, w, hA, hB, hfr, hl => slipping_step A c S i n ms fr set B d w hA hB ht hfr (by omega) fun fr' set' B' d' w' hA' hB' hfr' hl' => slipping_ref A c S i ms ht hi n fr' set' B' d' w' hA' hB' hfr' (by omega)
end Go.Proofs.Ytbclbcldplmppaa

/- The reference's Slips. -/
namespace Go.Proofs.Ytbclbcldplmppaa
open Go.RowKit

theorem askE_twice (s : Int) (ms : List Msh) (i : Int) : askE s ms [i, i] = askE s ms [i] := by unfold askE; simp
theorem askE_zero {s : Int} {ms : List Msh} {l : List Int} (h : askE s ms l = 0) : trainB s ms = true ∧ ∀ x ∈ l, 0 ≤ x ∧ x < s := by
  unfold askE at h
  split at h
  · rename_i ht
    split at h
    · rename_i hl; exact ⟨ht, hl⟩
    · cases h
  · cases h
theorem askE_range (s : Int) (ms : List Msh) (l : List Int) : askE s ms l = 0 ∨ askE s ms l = 2 ∨ askE s ms l = 40 := by
  unfold askE
  split
  · split
    · exact .inl rfl
    · exact .inr (.inl rfl)
  · exact .inr (.inr rfl)
theorem slipX_bad {s : Int} {ms : List Msh} {i : Int} (h : ¬ askE s ms [i] = 0) : slipX s ms i = askE s ms [i] ∧ slipL s ms i = [] := ⟨if_neg h, if_neg h⟩
theorem slipX_some {s : Int} {ms : List Msh} {i : Int} {l : List Nat} (h : askE s ms [i] = 0) (hl : slipO ms s.toNat i.toNat = some l) : slipX s ms i = 0 ∧ slipL s ms i = natI l := by
  unfold slipX slipL
  rw [if_pos h, if_pos h, hl]
  exact ⟨rfl, rfl⟩
theorem slipX_none {s : Int} {ms : List Msh} {i : Int} (h : askE s ms [i] = 0) (hl : slipO ms s.toNat i.toNat = none) : slipX s ms i = 6 ∧ slipL s ms i = [] := by
  unfold slipX slipL
  rw [if_pos h, if_pos h, hl]
  exact ⟨rfl, rfl⟩

set_option maxRecDepth 100000 in
set_option maxHeartbeats 4000000 in
theorem slips_ref (A : Option Addr) (c : Nat) (s : Int) (ms : List Msh) (i : Int) (w : World) (hA : MRow w A ms) (hl : ms.length ≤ 1000000) :
    Calls Try.prog 32 #[.agg #[.int .i64 s, .slice A ms.length c], .int .i64 i] w (IntsRes w (slipL s ms i) (slipX s ms i)) := by
  have c0 := fun (w' : World) (he : Ext w w') => asked_ref A c s ms i i w' (hA.ext he) hl
  simp only [askE_twice] at c0
  have C0 := Lib.hid c0
  clear c0
  by_cases hz : askE s ms [i] = 0
  · obtain ⟨hT, hin⟩ := askE_zero hz
    have ht : trainP s ms := of_decide_eq_true hT
    obtain ⟨S, rfl⟩ : ∃ S : Nat, s = S := ⟨s.toNat, by have := ht.1; omega⟩
    have hi0 := hin i (by simp)
    obtain ⟨I, rfl⟩ : ∃ I : Nat, i = I := ⟨i.toNat, by omega⟩
    have hI : I < S := by omega
    have c1 := fun (w' : World) (he : Ext w w') (n : Nat) (hn : n ≤ 800) => slipping_ref A c S I ms ht hI n 0 [] none 0 w' (hA.ext he) (RowI.nil w') (by omega) (by simp; omega)
    have hsome := fun (l : List Nat) (h : slipO ms S I = some l) => slipX_some (s := (S : Int)) (i := (I : Int)) hz h
    have hnone := fun (h : slipO ms S I = none) => slipX_none (s := (S : Int)) (i := (I : Int)) hz h
    have hs1 := fun (n : Nat) (l : List Nat) (hn : n ≤ ms.length) => slipO_some (S := S) (i := I) (r := l) hn
    have hs2 := slipO_none (ms := ms) (S := S) (i := I)
    have hl16 := ht.2.2.1
    rw [hz] at C0
    have C1 := Lib.hid c1
    have Hsome := Lib.hid hsome
    have Hnone := Lib.hid hnone
    have Hs1 := Lib.hid hs1
    have Hs2 := Lib.hid hs2
    clear c1 hsome hnone hs1 hs2 hA ht hT hin hz hl hi0
    change Hid (∀ (w' : World) (he : Ext w w') (n : Nat) (hn : n ≤ 800), Calls Try.prog 75 #[.agg #[.int .i64 S, .slice A ms.length c], .int .i64 I, .int .i64 n, .int .i64 0, .slice none 0 0] w' (SlipRes w' (slipN ms S I n))) at C1
    generalize slipN ms S I = N at *
    generalize slipO ms S I = O at *
    generalize slipX (S : Int) ms (I : Int) = X at *
    generalize slipL (S : Int) ms (I : Int) = L at *
    generalize ms.length = m at *
    go_enter Try.func32, Try.ntmps32
    have hexb : Ext w (w.alloc (.cells #[.int .i64 S, .slice A m c] 41)) := by simp
    have hp0 : ∀ w', Ext (w.alloc (.cells #[.int .i64 S, .slice A m c] 41)) w' → w'.cell? ⟨w.heap.size, 0, none⟩ = some (.int .i64 S) := fun w' he => he.cell (by simp)
    have hp1 : ∀ w', Ext (w.alloc (.cells #[.int .i64 S, .slice A m c] 41)) w' → w'.cell? ⟨w.heap.size, 1, none⟩ = some (.slice A m c) := fun w' he => he.cell (by simp)
    go_wp2_with (first
      | (go_at_call 35; refine (C0.out _ (by simp)).mono ?_; rintro e wb ⟨rfl, hx1⟩))
    generalize w.alloc (.cells #[.int .i64 S, .slice A m c] 41) = wb0 at *
    generalize w.heap.size = bx at *
    have hexb : Ext w wb := hexb.trans hx1
    have hp0 : ∀ w', Ext wb w' → _ := fun w' he => hp0 w' (hx1.trans he)
    have hp1 : ∀ w', Ext wb w' → _ := fun w' he => hp1 w' (hx1.trans he)
    have Hexb := Lib.hid hexb
    have Hp0 := Lib.hid hp0
    have Hp1 := Lib.hid hp1
    clear hexb hp0 hp1 hx1 C0
    go_loopw [7] (fun i wr => ∃ k : Nat, k ≤ m + 1 ∧ i = .int .i64 k ∧ Ext wb wr ∧ ∀ j, j < k → N j = none) (fun i _ => m + 1 - (intOf i).toNat)
    case atStart => exact ⟨0, by omega, rfl, Ext.refl _, fun j hj => by omega⟩
    case round =>
      obtain ⟨k, hk, rfl, hex, hall⟩ := hrel
      have Hall := Lib.hid hall
      clear hall
      have hexw := Hexb.out.trans hex
      have hp0 : ∀ w', Ext wr w' → w'.cell? ⟨bx, 0, none⟩ = some (.int .i64 S) := fun w' he => Hp0.out w' (hex.trans he)
      have hp1 : ∀ w', Ext wr w' → w'.cell? ⟨bx, 1, none⟩ = some (.slice A m c) := fun w' he => Hp1.out w' (hex.trans he)
      by_cases hlt : k ≤ m
      · have c1 := C1.out wr hexw k (by omega)
        obtain ⟨r, hr⟩ : ∃ r, r = N k := ⟨_, rfl⟩
        rw [← hr] at c1
        have Hr := Lib.hid hr
        have Hc1 := Lib.hid c1
        clear hr c1
        cases r with
        | none =>
          go_wp2_with (first
            | (go_at_call 75; refine Hc1.out.mono ?_; rintro e w4 ⟨v, rfl, hx4, _⟩; simp only [Option.isSome_none]))
          go_roundw
          case rel => exact ⟨k + 1, by omega, by go_num, hex.trans hx4, fun j hj => by
            by_cases e : j = k
            · subst e; exact Hr.out.symm
            · exact Hall.out j (by omega)⟩
          case measure => simp [intOf]; omega
        | some l =>
          go_wp2_with (first
            | (go_at_call 75; refine Hc1.out.mono ?_; rintro e w4 ⟨v, rfl, hx4, hv4⟩; simp only [Option.isSome_some]))
          go_ret2
          obtain ⟨e1, e2⟩ := Hsome.out l (Hs1.out k l hlt Hall.out Hr.out.symm)
          obtain ⟨A2, c2, ev, hi⟩ := (hv4 l rfl).isInts
          subst ev
          rw [← e2] at hi ⊢
          exact ⟨A2, c2, by rw [e1]; rfl, hi, hexw.trans hx4⟩
      · obtain rfl : k = m + 1 := by omega
        obtain ⟨e1, e2⟩ := Hnone.out (Hs2.out fun j hj => Hall.out j (by omega))
        have E1 := Lib.hid e1
        have E2 := Lib.hid e2
        clear e1 e2
        go_wp2
        go_ret2
        exact intsRes_nil E2.out.symm E1.out.symm hexw
  · obtain ⟨e1, e2⟩ := slipX_bad hz
    rw [e1, e2]
    clear e1 e2
    generalize askE s ms [i] = X at *
    generalize ms.length = m at *
    go_enter Try.func32, Try.ntmps32
    go_wp2_with (first
      | (go_at_call 35; refine (C0.out _ (by simp)).mono ?_; rintro e wb ⟨rfl, hx1⟩))
    go_ret2
    exact intsRes_nil rfl rfl (Ext.trans (by simp) hx1)
end Go.Proofs.Ytbclbcldplmppaa
