/- Two trains compared; a copy of a train's meshes; a mesh's kind raised. -/
import Derived.Test.YtbclbcldplmppaaMv11
namespace Go.Proofs.Ytbclbcldplmppaa
open Go.RowKit

theorem neq_same (x : Msh) (w : World) : (binOp .neq 57 x.val x.val).run Try.prog w = .ok (.bool false) w := by
  rw [neq_msh]; simp

set_option maxRecDepth 100000 in
set_option maxHeartbeats 2000000 in
theorem same_train (A B : Option Addr) (c d : Nat) (s : Int) (ms : List Msh) (w : World) (hA : MRow w A ms) (hB : MRow w B ms) (hl : ms.length ≤ 1000000) :
    Calls Try.prog 30 #[.agg #[.int .i64 s, .slice A ms.length c], .agg #[.int .i64 s, .slice B ms.length d]] w fun e w' => e = .returned (.bool true) ∧ Ext w w' := by
  have ha := fun k (hk : k < ms.length) => hA.at_ hk
  have hb := fun k (hk : k < ms.length) => hB.at_ hk
  have Ha := Lib.hid ha
  have Hb := Lib.hid hb
  clear ha hb hA hB
  obtain ⟨m, hm⟩ : ∃ m, m = ms.length := ⟨_, rfl⟩
  rw [← hm] at hl ⊢
  have Hm := Lib.hid hm
  clear hm
  go_enter Try.func30, Try.ntmps30
  have hz : (w.alloc (.cells #[.int .i64 s, .slice A m c] 41)).heap.size = w.heap.size + 1 := by simp only [World.alloc, Array.size_push]
  have hx : Ext w ((w.alloc (.cells #[.int .i64 s, .slice A m c] 41)).alloc (.cells #[.int .i64 s, .slice B m d] 41)) := ((Ext.refl w).alloc _).alloc _
  have a0 : ∀ w', Ext ((w.alloc (.cells #[.int .i64 s, .slice A m c] 41)).alloc (.cells #[.int .i64 s, .slice B m d] 41)) w' → w'.cell? ⟨w.heap.size, 0, none⟩ = some (.int .i64 s) := fun w' he => cells_one rfl w' (Ext.trans ((Ext.refl _).alloc _) he)
  have a1 : ∀ w', Ext ((w.alloc (.cells #[.int .i64 s, .slice A m c] 41)).alloc (.cells #[.int .i64 s, .slice B m d] 41)) w' → w'.cell? ⟨w.heap.size, 1, none⟩ = some (.slice A m c) := fun w' he => cells_one rfl w' (Ext.trans ((Ext.refl _).alloc _) he)
  have b0 : ∀ w', Ext ((w.alloc (.cells #[.int .i64 s, .slice A m c] 41)).alloc (.cells #[.int .i64 s, .slice B m d] 41)) w' → w'.cell? ⟨w.heap.size + 1, 0, none⟩ = some (.int .i64 s) := fun w' he => cells_two rfl w' he
  have b1 : ∀ w', Ext ((w.alloc (.cells #[.int .i64 s, .slice A m c] 41)).alloc (.cells #[.int .i64 s, .slice B m d] 41)) w' → w'.cell? ⟨w.heap.size + 1, 1, none⟩ = some (.slice B m d) := fun w' he => cells_two rfl w' he
  go_wp2
  generalize (w.alloc (.cells #[.int .i64 s, .slice A m c] 41)).alloc (.cells #[.int .i64 s, .slice B m d] 41) = wb at *
  generalize w.heap.size = bx at *
  have Hx := Lib.hid hx
  have A1 := Lib.hid a1
  have B1 := Lib.hid b1
  clear hx a0 a1 b0 b1 hz
  go_loopw [5] (fun i wr => ∃ k : Nat, k ≤ m ∧ i = .int .i64 k ∧ Ext wb wr) (fun i _ => m - (intOf i).toNat)
  case atStart => exact ⟨0, by omega, rfl, Ext.refl _⟩
  case round =>
    obtain ⟨k, hk, rfl, hex⟩ := hrel
    have a1 : ∀ w', Ext wr w' → w'.cell? ⟨bx, 1, none⟩ = some (.slice A m c) := fun w' he => A1.out w' (hex.trans he)
    have b1 : ∀ w', Ext wr w' → w'.cell? ⟨bx + 1, 1, none⟩ = some (.slice B m d) := fun w' he => B1.out w' (hex.trans he)
    by_cases hlt : k < m
    · have hkp : k < ms.length := by rw [← Hm.out]; exact hlt
      obtain ⟨ad, rfl, q0, q1, q2, q3, q4, q5⟩ := Ha.out k hkp
      obtain ⟨bd, rfl, r0, r1, r2, r3, r4, r5⟩ := Hb.out k hkp
      have hexw := Hx.out.trans hex
      have q0 : ∀ w', Ext wr w' → _ := fun w' he => q0 w' (hexw.trans he)
      have q1 : ∀ w', Ext wr w' → _ := fun w' he => q1 w' (hexw.trans he)
      have q2 : ∀ w', Ext wr w' → _ := fun w' he => q2 w' (hexw.trans he)
      have q3 : ∀ w', Ext wr w' → _ := fun w' he => q3 w' (hexw.trans he)
      have q4 : ∀ w', Ext wr w' → _ := fun w' he => q4 w' (hexw.trans he)
      have q5 : ∀ w', Ext wr w' → _ := fun w' he => q5 w' (hexw.trans he)
      have r0 : ∀ w', Ext wr w' → _ := fun w' he => r0 w' (hexw.trans he)
      have r1 : ∀ w', Ext wr w' → _ := fun w' he => r1 w' (hexw.trans he)
      have r2 : ∀ w', Ext wr w' → _ := fun w' he => r2 w' (hexw.trans he)
      have r3 : ∀ w', Ext wr w' → _ := fun w' he => r3 w' (hexw.trans he)
      have r4 : ∀ w', Ext wr w' → _ := fun w' he => r4 w' (hexw.trans he)
      have r5 : ∀ w', Ext wr w' → _ := fun w' he => r5 w' (hexw.trans he)
      have hn := neq_same ms[k]
      clear Ha Hb
      generalize ms[k] = x at *
      obtain ⟨kind, xa, xb, xc, xn, xm⟩ := x
      simp only [Msh.val] at q0 q1 q2 q3 q4 q5 r0 r1 r2 r3 r4 r5 hn
      have hki : (k : Int) < (m : Int) := by omega
      go_wp2
      refine wp_region_calm 11 (fun _ _ _ _ => True) (fun _ _ _ _ _ _ h => h) (by kernel_rfl) (by kernel_rfl) ?_
      simp only [List.take_succ_cons, List.take_zero, List.drop_succ_cons, List.drop_zero]
      refine calm_quiet calm_mono_final 11 (by kernel_rfl) ?_
      simp only [List.take_succ_cons, List.take_zero, List.drop_succ_cons, List.drop_zero]
      repeat (go_big_quiet_step (fail))
      refine wpQuiet_nil ?_
      refine calm_nil fun w3 he3 hF => ?_
      clear hF
      go_wp2
      go_roundw
      case rel => exact ⟨k + 1, by omega, by go_num, hex.trans he3⟩
      case measure => simp [intOf]; omega
    · clear Ha Hb
      go_wp2
      go_ret
      exact ⟨rfl, Hx.out.trans hex⟩

/-- 'append([]api.Mesh{}, t.Meshes...)'. -/
theorem app_mesh {w : World} {b c : Nat} {B : Option Addr} {ms : List Msh} (ty : TypeId) (hb : w.heap[b]? = some (.cells #[] 57)) (hB : MRow w B ms) (hl : ms.length ≤ 1000) :
    ∃ h c' cs w', (Builtin.append_ #[39, 39] ty #[.slice (some ⟨b, 0, none⟩) 0 0, .slice B ms.length c]).run Try.prog w = .ok (.slice (some ⟨h, 0, none⟩) ms.length c') w' ∧ Ext w w' ∧ MRow w' (some ⟨h, 0, none⟩) ms ∧ w'.heap[h]? = some (.cells cs 57) := by
  obtain ⟨i, hi, hz0, hz1, hz2⟩ := mesh_elem.info
  have hlen : (cellsL ms).length = ms.length * 6 := by
    have := flatten_len 6 (ms.map Msh.cells) (by simp [Msh.cells])
    simpa [cellsL] using this
  have hs : Src Try.prog 6 39 (.slice B ms.length c) ms.length (cellsL ms) w := by
    cases B with
    | none =>
      cases ms with
      | nil => exact Src.ofNil w Try.underlying39 c
      | cons x xs =>
        obtain ⟨ad, e, _⟩ := hB 0 (by simp [Msh.cells])
        cases e
    | some a =>
      refine Src.ofSlice w Try.underlying39 a _ c _ hlen (fun j u hu => ?_) (fun u hu => ?_)
      · obtain ⟨ad, e, hc⟩ := hB j (List.getElem?_eq_some_iff.1 hu).1
        rw [Option.some.inj e, hc]
        exact hu
      · obtain ⟨r, hr, hur⟩ := List.mem_flatten.1 hu
        obtain ⟨x, _, rfl⟩ := List.mem_map.1 hr
        simp [Msh.cells] at hur
        rcases hur with rfl | rfl | rfl | rfl | rfl | rfl <;> rfl
  have hs' : Src Try.prog i.size 39 (.slice B ms.length c) ms.length (cellsL ms) w := by rw [hz1]; exact hs
  by_cases h0 : ms.length = 0
  · have : ms = [] := List.eq_nil_of_length_eq_zero h0
    subst this
    exact ⟨_, _, _, w, run_append_nothing w 39 39 ty 57 i Try.underlying39 hi _ 0 0 (Nat.le_refl _) _ hs', Ext.refl _, Row.nil _ _, hb⟩
  · have hfit : Builtin.nextslicecap (0 + ms.length) 0 * i.bytes ≤ 281474976710656 := by rw [hz2]; exact growslice_fits (by omega) (by omega)
    have hold : (Builtin.firstCells i.size 0 (.slice (some ⟨b, 0, none⟩) 0 0)).run Try.prog w.drew = .ok ([] : List Value).toArray w.drew := by
      exact run_firstCells_some w.drew i.size 0 _ 0 0 [] (by simp) (by simp)
    have hrun := run_append_grow_src (P := Try.prog) w 39 39 ty 57 i _ Try.underlying39 hi hz0 (some ⟨b, 0, none⟩) 0 0 [] hold _ ms.length (cellsL ms) hs' (by omega) (by omega) hfit
    rw [Nat.zero_add] at hrun
    refine ⟨_, _, _, _, hrun, by simp, fun k hk => ⟨_, rfl, ?_⟩, heap_alloc_new w.drew _⟩
    have hk' : k < (cellsL ms).length := hk
    have hadd : (⟨w.heap.size, 0, none⟩ : Addr).add k = ⟨w.heap.size, k, none⟩ := by unfold Addr.add; split <;> simp_all
    rw [hadd, show w.heap.size = w.drew.heap.size from rfl, cell_heap (heap_alloc_new w.drew _)]
    simp only [List.nil_append]
    rw [Array.getElem?_append_left (by simpa using hk'), List.getElem?_toArray]
    rfl

/-- A mesh's kind, set. -/
theorem cellsL_kind (ms : List Msh) (k : Nat) (hk : k < ms.length) (x : Msh) (h1 : x.a = ms[k].a) (h2 : x.b = ms[k].b) (h3 : x.c = ms[k].c) (h4 : x.n = ms[k].n) (h5 : x.m = ms[k].m) : (cellsL ms).set (k * 6) (.int .u8 x.kind) = cellsL (ms.set k x) := by
  unfold cellsL
  have h6 : ∀ r ∈ ms.map Msh.cells, r.length = 6 := by simp [Msh.cells]
  have h6' : ∀ r ∈ (ms.set k x).map Msh.cells, r.length = 6 := fun r hr => by
    obtain ⟨x, _, rfl⟩ := List.mem_map.1 hr
    simp [Msh.cells]
  have hl := flatten_len 6 _ h6
  have hl' := flatten_len 6 _ h6'
  simp only [List.length_map, List.length_set] at hl hl'
  apply List.ext_getElem?
  intro j
  by_cases hj : j < ms.length * 6
  · have e : j = j / 6 * 6 + j % 6 := by omega
    have hd : j / 6 < ms.length := by omega
    have g2 := flatten_get 6 _ h6' (j / 6) (j % 6) (by omega) (by simpa using hd)
    have g1 := flatten_get 6 _ h6 (j / 6) (j % 6) (by omega) (by simpa using hd)
    rw [← e] at g1 g2
    rw [g2, List.getElem?_set]
    by_cases e1 : k = j / 6
    · subst e1
      by_cases e2 : j % 6 = 0
      · rw [if_pos (by omega), if_pos (by omega)]
        rw [e2]
        simp [Msh.cells]
      · rw [if_neg (by omega), g1]
        have hm : j % 6 = 1 ∨ j % 6 = 2 ∨ j % 6 = 3 ∨ j % 6 = 4 ∨ j % 6 = 5 := by omega
        rcases hm with h | h | h | h | h <;> rw [h] <;> simp [Msh.cells, h1, h2, h3, h4, h5]
    · rw [if_neg (by omega), g1]
      simp [e1]
  · rw [List.getElem?_eq_none (by rw [List.length_set]; omega), List.getElem?_eq_none (by omega)]

theorem MRow.setCell {w : World} {h : Nat} {ms : List Msh} (hm : MRow w (some ⟨h, 0, none⟩) ms) {p : Addr} (hp : p.block ≠ h) (u : Value) : MRow (w.setCell p u) (some ⟨h, 0, none⟩) ms := fun k hk => by
  obtain ⟨ad, e, hc⟩ := hm k hk
  refine ⟨ad, e, ?_⟩
  have e := Option.some.inj e
  subst e
  have hadd : (⟨h, 0, none⟩ : Addr).add k = ⟨h, k, none⟩ := by unfold Addr.add; split <;> simp_all
  rw [hadd] at hc ⊢
  rw [World.cell?_setCell_other _ _ _ _ (by first | (simp; omega) | (simp; exact fun e => absurd e hp) | (intro e; exact absurd (congrArg Addr.block e) hp))]
  exact hc

set_option maxRecDepth 100000 in
theorem great_any (A : Option Addr) (c m : Nat) (s : Int) (w : World) :
    Calls Try.prog 21 #[.agg #[.int .i64 s, .slice A m c]] w fun e w' => e = .returned (.bool (decide ((30 : Int) < (m : Int)))) ∧ Ext w w' := by
  go_enter Try.func21, Try.ntmps21
  go_wp2
  go_ret
  exact ⟨rfl, by simp⟩
end Go.Proofs.Ytbclbcldplmppaa

/- GearVerdicts: the law's own walk. -/
namespace Go.Proofs.Ytbclbcldplmppaa
open Go.RowKit

set_option maxRecDepth 100000 in
set_option maxHeartbeats 8000000 in
theorem verdicts_law (A : Option Addr) (c : Nat) (s : Int) (ms : List Msh) (i o num den : Int) (A1 A2 A3 : Option Addr) (c1 c2 c3 : Nat) (F M T : List Int) (w : World) (hA : MRow w A ms) (h1 : Ints w A1 F) (h2 : Ints w A2 M) (h3 : Ints w A3 T) (hden : den ≤ 9223372036854775807) (hnum : -9223372036854775808 ≤ num ∧ num ≤ 9223372036854775807) :
    Calls Try.prog 5 #[.agg #[.int .i64 s, .slice A ms.length c], .int .i64 i, .int .i64 o, .int .i64 num, .int .i64 den, .agg #[.slice A1 F.length c1, .slice A2 M.length c2, .slice A3 T.length c3]] w fun e w' => e = .returned (.bool true) ∧ Ext w w' := by
  have hg := fun (w' : World) => great_any A c ms.length s w'
  have hgp := fun (w' : World) => greatProof_any A1 A2 A3 c1 c2 c3 F.length M.length T.length w'
  by_cases g1 : 30 < ms.length
  · have e1 : decide ((30 : Int) < (ms.length : Int)) = true := by simp; omega
    rw [e1] at hg
    have Hg := Lib.hid hg
    clear hg hgp hA h1 h2 h3 e1
    generalize ms.length = m at *
    generalize F.length = q1 at *
    generalize M.length = q2 at *
    generalize T.length = q3 at *
    go_enter Try.func5, Try.ntmps5
    go_wp2_with (first
      | (go_at_call 21; refine (Hg.out _).mono ?_; rintro e w1 ⟨rfl, hx1⟩))
    go_ret
    exact ⟨rfl, Ext.trans (by simp) hx1⟩
  have e1 : decide ((30 : Int) < (ms.length : Int)) = false := by simp; omega
  rw [e1] at hg
  have Hg := Lib.hid hg
  clear hg e1
  cases e2 : (decide ((100 : Int) < (F.length : Int)) || decide ((100 : Int) < (M.length : Int)) || decide ((100 : Int) < (T.length : Int)))
  case true =>
    rw [e2] at hgp
    have Hgp := Lib.hid hgp
    clear hgp hA h1 h2 h3 e2
    generalize ms.length = m at *
    generalize F.length = q1 at *
    generalize M.length = q2 at *
    generalize T.length = q3 at *
    go_enter Try.func5, Try.ntmps5
    have p0 : ∀ w', Ext ((w.alloc (.cells #[.int .i64 s, .slice A m c] 41)).alloc (.cells #[.slice A1 q1 c1, .slice A2 q2 c2, .slice A3 q3 c3] 60)) w' → w'.cell? ⟨w.heap.size + 1, 0, none⟩ = some (.slice A1 q1 c1) := fun w' he => he.cell (cells_last (by simp) rfl)
    have p1 : ∀ w', Ext ((w.alloc (.cells #[.int .i64 s, .slice A m c] 41)).alloc (.cells #[.slice A1 q1 c1, .slice A2 q2 c2, .slice A3 q3 c3] 60)) w' → w'.cell? ⟨w.heap.size + 1, 1, none⟩ = some (.slice A2 q2 c2) := fun w' he => he.cell (cells_last (by simp) rfl)
    have p2 : ∀ w', Ext ((w.alloc (.cells #[.int .i64 s, .slice A m c] 41)).alloc (.cells #[.slice A1 q1 c1, .slice A2 q2 c2, .slice A3 q3 c3] 60)) w' → w'.cell? ⟨w.heap.size + 1, 2, none⟩ = some (.slice A3 q3 c3) := fun w' he => he.cell (cells_last (by simp) rfl)
    have hxb : Ext w ((w.alloc (.cells #[.int .i64 s, .slice A m c] 41)).alloc (.cells #[.slice A1 q1 c1, .slice A2 q2 c2, .slice A3 q3 c3] 60)) := ((Ext.refl w).alloc _).alloc _
    go_wp2_with (first
      | (go_at_call 21; refine (Hg.out _).mono ?_; rintro e w1 ⟨rfl, hx1⟩)
      | (go_at_call 33; refine (Hgp.out _).mono ?_; rintro e w2 ⟨rfl, hx2⟩))
    go_ret
    exact ⟨rfl, hxb.trans (hx1.trans hx2)⟩
  have hl : ms.length ≤ 1000000 := by omega
  have hl1 : F.length ≤ 1000000 := by simp only [Bool.or_eq_false_iff, decide_eq_false_iff_not] at e2; omega
  have hl2 : M.length ≤ 1000000 := by simp only [Bool.or_eq_false_iff, decide_eq_false_iff_not] at e2; omega
  have hl3 : T.length ≤ 1000000 := by simp only [Bool.or_eq_false_iff, decide_eq_false_iff_not] at e2; omega
  rw [e2] at hgp
  have Hgp := Lib.hid hgp
  have c34 : ∀ (w' : World) (_ : Ext w w'), Calls Try.prog 34 #[.agg #[.int .i64 s, .slice A ms.length c], .int .i64 i, .int .i64 o] w' fun e w'' => ∃ (rn rd : Int) (B1 B2 B3 : Option Addr) (r1 d1 r2 d2 r3 d3 : Nat), e = .returned (.tuple #[.int .i64 rn, .int .i64 rd, .agg #[.slice B1 r1 d1, .slice B2 r2 d2, .slice B3 r3 d3], .int .i64 (verdE s ms i o)]) ∧ Ext w' w'' := fun w' he => by
    refine (ratio_any A c s i o ms w' (hA.ext he) hl).mono fun e w'' h => ?_
    obtain ⟨rn, rd, B1, B2, B3, d1, d2, d3, G1, G2, G3, h0, _, _, _, hx, _⟩ := h
    exact ⟨rn, rd, B1, B2, B3, _, d1, _, d2, _, d3, h0, hx⟩
  have c35 := fun (w' : World) (he : Ext w w') => asked_ref A c s ms i o w' (hA.ext he) hl
  have c36 : askE s ms [i, o] = 0 → ∀ (w' : World) (_ : Ext w w'), Calls Try.prog 36 #[.agg #[.int .i64 s, .slice A ms.length c], .int .i64 i, .int .i64 o] w' fun e w'' => e = .returned (.int .i64 (verdE s ms i o)) ∧ Ext w' w'' := fun hz w' he => by
    unfold verdE
    rw [if_pos hz]
    obtain ⟨S, I, O, rfl, rfl, rfl, hi, ho, ht⟩ := ask_two hz
    exact verdict_ref A c S I O ms w' (hA.ext he) ht hi ho
  have hbad : askE s ms [i, o] ≠ 0 → verdE s ms i o = askE s ms [i, o] := fun hz => if_neg hz
  have c37 := fun (w' : World) (he : Ext w w') => checkRatio_any A c s ms i o num den A1 A2 A3 c1 c2 c3 F M T w' (hA.ext he) hl (h1.ext he) (h2.ext he) hl1 hl2 hden hnum
  have c38 := fun (w' : World) (he : Ext w w') => checkRatio_ref A c s ms i o num den A1 A2 A3 c1 c2 c3 F M T w' (hA.ext he) hl (h1.ext he) (h2.ext he) (h3.ext he) hl1 hl2 hl3 hden
  have c39 := fun (w' : World) (he : Ext w w') => checkJam_any A c s ms i A1 A2 A3 c1 c2 c3 F M T w' (hA.ext he) hl (h1.ext he) hl1
  have c40 := fun (w' : World) (he : Ext w w') => checkJam_ref A c s ms i A1 A2 A3 c1 c2 c3 F M T w' (hA.ext he) hl (h1.ext he) (h2.ext he) (h3.ext he) hl1 hl2 hl3
  have c41 := fun (w' : World) (he : Ext w w') => checkLoose_any A c s ms i o A1 A2 A3 c1 c2 c3 F M T w' (hA.ext he) hl (h2.ext he) (h3.ext he) hl2 hl3
  have c42 := fun (w' : World) (he : Ext w w') => checkLoose_ref A c s ms i o A1 A2 A3 c1 c2 c3 F M T w' (hA.ext he) hl (h1.ext he) (h2.ext he) (h3.ext he) hl1 hl2 hl3
  have C34 := Lib.hid c34
  have C35 := Lib.hid c35
  have C36 := Lib.hid c36
  have C37 := Lib.hid c37
  have C38 := Lib.hid c38
  have C39 := Lib.hid c39
  have C40 := Lib.hid c40
  have C41 := Lib.hid c41
  have C42 := Lib.hid c42
  clear hgp c34 c35 c36 c37 c38 c39 c40 c41 c42 e2 g1 hl1 hl2 hl3 hA h1 h2 h3
  generalize ratE s ms i o num den F M T = eR at *
  generalize jamE s ms i F M T = eJ at *
  generalize looseE s ms i o F M T = eL at *
  generalize verdE s ms i o = vE at *
  generalize ms.length = m at *
  generalize F.length = q1 at *
  generalize M.length = q2 at *
  generalize T.length = q3 at *
  generalize askE s ms [i, o] = z at *
  have hrest : ∀ (w1 : World) (_ : Ext w w1) (_ : ∀ w', Ext w1 w' → True), True := fun _ _ _ => trivial
  clear hrest
  by_cases hz : z = 0
  all_goals
    first | (have D36 := Lib.hid (C36.out hz); clear C36; subst hz) | (obtain rfl := hbad hz; clear C36)
    clear hbad
    go_enter Try.func5, Try.ntmps5
    have t0 : ∀ w', Ext ((w.alloc (.cells #[.int .i64 s, .slice A m c] 41)).alloc (.cells #[.slice A1 q1 c1, .slice A2 q2 c2, .slice A3 q3 c3] 60)) w' → w'.cell? ⟨w.heap.size, 0, none⟩ = some (.int .i64 s) := fun w' he => cells_one rfl w' (Ext.trans ((Ext.refl _).alloc _) he)
    have t1 : ∀ w', Ext ((w.alloc (.cells #[.int .i64 s, .slice A m c] 41)).alloc (.cells #[.slice A1 q1 c1, .slice A2 q2 c2, .slice A3 q3 c3] 60)) w' → w'.cell? ⟨w.heap.size, 1, none⟩ = some (.slice A m c) := fun w' he => cells_one rfl w' (Ext.trans ((Ext.refl _).alloc _) he)
    have p0 : ∀ w', Ext ((w.alloc (.cells #[.int .i64 s, .slice A m c] 41)).alloc (.cells #[.slice A1 q1 c1, .slice A2 q2 c2, .slice A3 q3 c3] 60)) w' → w'.cell? ⟨w.heap.size + 1, 0, none⟩ = some (.slice A1 q1 c1) := fun w' he => he.cell (cells_last (by simp) rfl)
    have p1 : ∀ w', Ext ((w.alloc (.cells #[.int .i64 s, .slice A m c] 41)).alloc (.cells #[.slice A1 q1 c1, .slice A2 q2 c2, .slice A3 q3 c3] 60)) w' → w'.cell? ⟨w.heap.size + 1, 1, none⟩ = some (.slice A2 q2 c2) := fun w' he => he.cell (cells_last (by simp) rfl)
    have p2 : ∀ w', Ext ((w.alloc (.cells #[.int .i64 s, .slice A m c] 41)).alloc (.cells #[.slice A1 q1 c1, .slice A2 q2 c2, .slice A3 q3 c3] 60)) w' → w'.cell? ⟨w.heap.size + 1, 2, none⟩ = some (.slice A3 q3 c3) := fun w' he => he.cell (cells_last (by simp) rfl)
    have hxb : Ext w ((w.alloc (.cells #[.int .i64 s, .slice A m c] 41)).alloc (.cells #[.slice A1 q1 c1, .slice A2 q2 c2, .slice A3 q3 c3] 60)) := ((Ext.refl w).alloc _).alloc _
    go_wp2_with (first
      | (go_at_call 21; refine (Hg.out _).mono ?_; rintro e w1 ⟨rfl, hx1⟩)
      | (go_at_call 33; refine (Hgp.out _).mono ?_; rintro e w2 ⟨rfl, hx2⟩; have hb2 := hx1.trans hx2; have hw2 := hxb.trans hb2)
      | (go_at_call 34; refine (C34.out _ hw2).mono ?_; rintro e w3 ⟨rn, rd, B1, B2, B3, r1, d1, r2, d2, r3, d3, rfl, hx3⟩; have hx3a := hx3.alloc (.cells #[.slice B1 r1 d1, .slice B2 r2 d2, .slice B3 r3 d3] 60); have hb3 := hb2.trans hx3a; have hw3 := hxb.trans hb3)
      | (go_at_call 35; refine (C35.out _ hw3).mono ?_; rintro e w4 ⟨rfl, hx4⟩; have hb4 := hb3.trans hx4; have hw4 := hxb.trans hb4)
      | (go_at_call 36; refine (D36.out _ hw4).mono ?_; rintro e w5 ⟨rfl, hx5⟩; have hb5 := hb4.trans hx5; have hw5 := hxb.trans hb5))
    first
      | (have hbz := hb5; have hx := hw5)
      | (have hbz := hb4; have hx := hw4)
    have t0 : ∀ w', Ext _ w' → _ := fun w' he => t0 w' (hbz.trans he)
    have t1 : ∀ w', Ext _ w' → _ := fun w' he => t1 w' (hbz.trans he)
    have p0 : ∀ w', Ext _ w' → _ := fun w' he => p0 w' (hbz.trans he)
    have p1 : ∀ w', Ext _ w' → _ := fun w' he => p1 w' (hbz.trans he)
    have p2 : ∀ w', Ext _ w' → _ := fun w' he => p2 w' (hbz.trans he)
    clear hxb hbz
    refine wp_region_calm 45 (fun j _ v _ => v = .int .i64 (if j < 20 then eR else if j < 30 then eJ else eL)) (fun _ _ _ _ _ _ h => h) (by kernel_rfl) (by kernel_rfl) ?_
    simp only [List.take_succ_cons, List.take_zero, List.drop_succ_cons, List.drop_zero]
    refine calm_quiet calm_mono_final 10 (by kernel_rfl) ?_
    simp only [List.take_succ_cons, List.take_zero, List.drop_succ_cons, List.drop_zero]
    repeat (go_big_quiet_step (fail))
    refine wpQuiet_nil ?_
    refine calm_call calm_mono_final 37 #[.agg #[.int .i64 s, .slice A m c], .int .i64 i, .int .i64 o, .int .i64 num, .int .i64 den, .agg #[.slice A1 q1 c1, .slice A2 q2 c2, .slice A3 q3 c3]] rfl (fun w => ?_) (fun w' he _ => ?_) ?_
    · go_simp
    · exact (C37.out w' (hx.trans he)).mono fun e w'' ⟨he', hx⟩ => ⟨_, he', hx, rfl⟩
    intro v _ _ hv
    have hv' : v = .int .i64 eR := hv
    clear hv
    subst hv'
    simp only [Act.put, List.setIfInBounds_toArray, List.set_cons_succ, List.set_cons_zero]
    refine calm_quiet calm_mono_final 6 (by kernel_rfl) ?_
    simp only [List.take_succ_cons, List.take_zero, List.drop_succ_cons, List.drop_zero]
    repeat (go_big_quiet_step (fail))
    refine wpQuiet_nil ?_
    refine calm_call calm_mono_final 38 #[.agg #[.int .i64 s, .slice A m c], .int .i64 i, .int .i64 o, .int .i64 num, .int .i64 den, .agg #[.slice A1 q1 c1, .slice A2 q2 c2, .slice A3 q3 c3]] rfl (fun w => ?_) (fun w' he _ => ?_) ?_
    · go_simp
    · exact (C38.out w' (hx.trans he)).mono fun e w'' ⟨he', hx⟩ => ⟨_, he', hx, rfl⟩
    intro v _ _ hv
    have hv' : v = .int .i64 eR := hv
    clear hv
    subst hv'
    simp only [Act.put, List.setIfInBounds_toArray, List.set_cons_succ, List.set_cons_zero]
    refine calm_quiet calm_mono_final 6 (by kernel_rfl) ?_
    simp only [List.take_succ_cons, List.take_zero, List.drop_succ_cons, List.drop_zero]
    repeat (go_big_quiet_step (fail))
    refine wpQuiet_nil ?_
    refine calm_call calm_mono_final 39 #[.agg #[.int .i64 s, .slice A m c], .int .i64 i, .agg #[.slice A1 q1 c1, .slice A2 q2 c2, .slice A3 q3 c3]] rfl (fun w => ?_) (fun w' he _ => ?_) ?_
    · go_simp
    · exact (C39.out w' (hx.trans he)).mono fun e w'' ⟨he', hx⟩ => ⟨_, he', hx, rfl⟩
    intro v _ _ hv
    have hv' : v = .int .i64 eJ := hv
    clear hv
    subst hv'
    simp only [Act.put, List.setIfInBounds_toArray, List.set_cons_succ, List.set_cons_zero]
    refine calm_quiet calm_mono_final 3 (by kernel_rfl) ?_
    simp only [List.take_succ_cons, List.take_zero, List.drop_succ_cons, List.drop_zero]
    repeat (go_big_quiet_step (fail))
    refine wpQuiet_nil ?_
    refine calm_call calm_mono_final 40 #[.agg #[.int .i64 s, .slice A m c], .int .i64 i, .agg #[.slice A1 q1 c1, .slice A2 q2 c2, .slice A3 q3 c3]] rfl (fun w => ?_) (fun w' he _ => ?_) ?_
    · go_simp
    · exact (C40.out w' (hx.trans he)).mono fun e w'' ⟨he', hx⟩ => ⟨_, he', hx, rfl⟩
    intro v _ _ hv
    have hv' : v = .int .i64 eJ := hv
    clear hv
    subst hv'
    simp only [Act.put, List.setIfInBounds_toArray, List.set_cons_succ, List.set_cons_zero]
    refine calm_quiet calm_mono_final 7 (by kernel_rfl) ?_
    simp only [List.take_succ_cons, List.take_zero, List.drop_succ_cons, List.drop_zero]
    repeat (go_big_quiet_step (fail))
    refine wpQuiet_nil ?_
    refine calm_call calm_mono_final 41 #[.agg #[.int .i64 s, .slice A m c], .int .i64 i, .int .i64 o, .agg #[.slice A1 q1 c1, .slice A2 q2 c2, .slice A3 q3 c3]] rfl (fun w => ?_) (fun w' he _ => ?_) ?_
    · go_simp
    · exact (C41.out w' (hx.trans he)).mono fun e w'' ⟨he', hx⟩ => ⟨_, he', hx, rfl⟩
    intro v _ _ hv
    have hv' : v = .int .i64 eL := hv
    clear hv
    subst hv'
    simp only [Act.put, List.setIfInBounds_toArray, List.set_cons_succ, List.set_cons_zero]
    refine calm_quiet calm_mono_final 4 (by kernel_rfl) ?_
    simp only [List.take_succ_cons, List.take_zero, List.drop_succ_cons, List.drop_zero]
    repeat (go_big_quiet_step (fail))
    refine wpQuiet_nil ?_
    refine calm_call calm_mono_final 42 #[.agg #[.int .i64 s, .slice A m c], .int .i64 i, .int .i64 o, .agg #[.slice A1 q1 c1, .slice A2 q2 c2, .slice A3 q3 c3]] rfl (fun w => ?_) (fun w' he _ => ?_) ?_
    · go_simp
    · exact (C42.out w' (hx.trans he)).mono fun e w'' ⟨he', hx⟩ => ⟨_, he', hx, rfl⟩
    intro v _ _ hv
    have hv' : v = .int .i64 eL := hv
    clear hv
    subst hv'
    simp only [Act.put, List.setIfInBounds_toArray, List.set_cons_succ, List.set_cons_zero]
    refine calm_quiet calm_mono_final 3 (by kernel_rfl) ?_
    simp only [List.take_succ_cons, List.take_zero, List.drop_succ_cons, List.drop_zero]
    repeat (go_big_quiet_step (fail))
    refine wpQuiet_nil ?_
    refine calm_nil fun w7 hx7 _ => ?_
    go_wp2
    go_ret
    exact ⟨rfl, hx.trans hx7⟩
end Go.Proofs.Ytbclbcldplmppaa
