/- A ratio's proof checked, by the code. -/
import Derived.Test.YtebkhdhhajjhfaaGreatT14
import Derived.Test.YtebkhdhhajjhfaaGreatT13
import Derived.Deep.RegionHeld3
namespace Go.Proofs.YtebkhdhhajjhfaaGreat.Gr
open Go.RowKit

theorem provesRatio_any (A : Option Addr) (c S i o : Nat) (num den : Int) (ms : List Msh) (A1 A2 A3 : Option Addr) (c1 c2 c3 : Nat) (F M T : List Int) (w : World) (hA : MRow w A ms) (ht : trainP S ms) (hi : i < S) (ho : o < S) (h1 : Ints w A1 F) (h2 : Ints w A2 M) (hl1 : F.length ≤ 1000000) (hl2 : M.length ≤ 1000000) (hden : den ≤ 9223372036854775807) (hnum : -9223372036854775808 ≤ num ∧ num ≤ 9223372036854775807) :
    Calls Tryz.prog 81 #[.agg #[.int .i64 S, .slice A ms.length c], .int .i64 i, .int .i64 o, .int .i64 num, .int .i64 den, .agg #[.slice A1 F.length c1, .slice A2 M.length c2, .slice A3 T.length c3]] w fun e w' => e = .returned (.bool (decide (ratPr (gearL ms S) ms.length S i o num den F M T))) ∧ Ext w w' := by
  by_cases h : sizedP F ms.length ∧ T.length = 0 ∧ movesP (gearL ms S) ms.length S M ∧ 0 < getI M i ∧ 1 ≤ den ∧ num.gcd den = 1
  · exact provesRatioG_good A c S i o num den ms A1 A2 A3 c1 c2 c3 F M T w hA ht hi ho h1 h2 hl1 hl2 hden hnum h
  · exact provesRatioG_bad A c S i o num den ms A1 A2 A3 c1 c2 c3 F M T w hA ht hi ho h1 h2 hl1 hl2 hden h

set_option maxRecDepth 100000 in
set_option maxHeartbeats 4000000 in
theorem checkRatio_any (A : Option Addr) (c : Nat) (s : Int) (ms : List Msh) (i o num den : Int) (A1 A2 A3 : Option Addr) (c1 c2 c3 : Nat) (F M T : List Int) (w : World) (hA : MRow w A ms) (hl : ms.length ≤ 1000000) (h1 : Ints w A1 F) (h2 : Ints w A2 M) (hl1 : F.length ≤ 1000000) (hl2 : M.length ≤ 1000000) (hden : den ≤ 9223372036854775807) (hnum : -9223372036854775808 ≤ num ∧ num ≤ 9223372036854775807) :
    Calls Tryz.prog 44 #[.agg #[.int .i64 s, .slice A ms.length c], .int .i64 i, .int .i64 o, .int .i64 num, .int .i64 den, .agg #[.slice A1 F.length c1, .slice A2 M.length c2, .slice A3 T.length c3]] w fun e w' => e = .returned (.int .i64 (ratE s ms i o num den F M T)) ∧ Ext w w' := by
  have c0 : ∀ (g : Nat) (w' : World) (_ : Ext w w') (_ : w'.cell? ⟨g, 0, none⟩ = some (vint i)) (_ : w'.cell? ⟨g, 1, none⟩ = some (vint o)), Calls Tryz.prog 46 #[.agg #[.int .i64 s, .slice A ms.length c], .slice (some ⟨g, 0, none⟩) 2 2] w' fun e w'' => e = .returned (.int .i64 (askE s ms [i, o])) ∧ Ext w' w'' :=
    fun g w' he hc hc' => asked_any A c s ms (some ⟨g, 0, none⟩) 2 [i, o] w' (hA.ext he) hl (ints_two hc hc') (by simp)
  have cA := c0 (w.heap.size + 1 + 1) (((w.alloc (.cells #[.int .i64 s, .slice A ms.length c] 46)).alloc (.cells #[.slice A1 F.length c1, .slice A2 M.length c2, .slice A3 T.length c3] 53)).alloc (.cells #[.int .i64 i, .int .i64 o] 3)) (((((Ext.refl w).alloc _).alloc _).alloc _)) (cells_three rfl _ (Ext.refl _)) (cells_three rfl _ (Ext.refl _))
  have C0 := Lib.hid cA
  clear c0 cA
  have hx : Ext w ((w.alloc (.cells #[.int .i64 s, .slice A ms.length c] 46)).alloc (.cells #[.slice A1 F.length c1, .slice A2 M.length c2, .slice A3 T.length c3] 53)) := ((Ext.refl w).alloc _).alloc _
  have a0 : ∀ w', Ext ((w.alloc (.cells #[.int .i64 s, .slice A ms.length c] 46)).alloc (.cells #[.slice A1 F.length c1, .slice A2 M.length c2, .slice A3 T.length c3] 53)) w' → w'.cell? ⟨w.heap.size, 0, none⟩ = some (.int .i64 s) := fun w' he => cells_one rfl w' (Ext.trans ((Ext.refl _).alloc _) he)
  have a1 : ∀ w', Ext ((w.alloc (.cells #[.int .i64 s, .slice A ms.length c] 46)).alloc (.cells #[.slice A1 F.length c1, .slice A2 M.length c2, .slice A3 T.length c3] 53)) w' → w'.cell? ⟨w.heap.size, 1, none⟩ = some (.slice A ms.length c) := fun w' he => cells_one rfl w' (Ext.trans ((Ext.refl _).alloc _) he)
  have b0 : ∀ w', Ext ((w.alloc (.cells #[.int .i64 s, .slice A ms.length c] 46)).alloc (.cells #[.slice A1 F.length c1, .slice A2 M.length c2, .slice A3 T.length c3] 53)) w' → w'.cell? ⟨w.heap.size + 1, 0, none⟩ = some (.slice A1 F.length c1) := fun w' he => cells_two rfl w' he
  have b1 : ∀ w', Ext ((w.alloc (.cells #[.int .i64 s, .slice A ms.length c] 46)).alloc (.cells #[.slice A1 F.length c1, .slice A2 M.length c2, .slice A3 T.length c3] 53)) w' → w'.cell? ⟨w.heap.size + 1, 1, none⟩ = some (.slice A2 M.length c2) := fun w' he => cells_two rfl w' he
  have b2 : ∀ w', Ext ((w.alloc (.cells #[.int .i64 s, .slice A ms.length c] 46)).alloc (.cells #[.slice A1 F.length c1, .slice A2 M.length c2, .slice A3 T.length c3] 53)) w' → w'.cell? ⟨w.heap.size + 1, 2, none⟩ = some (.slice A3 T.length c3) := fun w' he => cells_two rfl w' he
  by_cases hz : askE s ms [i, o] = 0
  · obtain ⟨S, I, O, rfl, rfl, rfl, hi, ho, ht⟩ := ask_two hz
    have e1 : ratE (S : Int) ms (I : Int) (O : Int) num den F M T = if decide (ratPr (gearL ms S) ms.length S I O num den F M T) = true then 0 else 31 := by unfold ratE; rw [if_pos hz]; rfl
    rw [e1]
    rw [hz] at C0
    have c1' := fun (w' : World) (he : Ext w w') => provesRatio_any A c S I O num den ms A1 A2 A3 c1 c2 c3 F M T w' (hA.ext he) ht hi ho (h1.ext he) (h2.ext he) hl1 hl2 hden hnum
    have C1 := Lib.hid c1'
    clear c1' e1 hz hA h1 h2 hl ht hl1 hl2 hnum
    generalize decide (ratPr (gearL ms S) ms.length S I O num den F M T) = b at *
    generalize F.length = q1 at *
    generalize M.length = q2 at *
    generalize T.length = q3 at *
    generalize ms.length = m at *
    cases b
    all_goals
      go_enter Tryz.func44, Tryz.ntmps44
      go_wp2_with (first
        | (go_at_call 46; (with_reducible refine C0.out.mono ?_); rintro e w1 ⟨rfl, hx1⟩; have hxb1 := Ext.trans ((Ext.refl _).alloc _) hx1; have hxw1 := hx.trans hxb1)
        | (go_at_call 81; (with_reducible refine (C1.out _ hxw1).mono ?_); rintro e w2 ⟨rfl, hx2⟩)
        | (go_at_call 80; refine (verdict_code _ _).mono ?_; rintro e w5 ⟨rfl, rfl⟩))
      go_ret
      exact ⟨rfl, hxw1.trans hx2⟩
  · have e1 : ratE s ms i o num den F M T = askE s ms [i, o] := by unfold ratE; exact if_neg hz
    rw [e1]
    generalize askE s ms [i, o] = X at *
    clear hA h1 h2 hl e1 hl1 hl2 hnum
    generalize F.length = q1 at *
    generalize M.length = q2 at *
    generalize T.length = q3 at *
    generalize ms.length = m at *
    go_enter Tryz.func44, Tryz.ntmps44
    go_wp2_with (first
      | (go_at_call 46; (with_reducible refine C0.out.mono ?_); rintro e w1 ⟨rfl, hx1⟩; have hxb1 := Ext.trans ((Ext.refl _).alloc _) hx1; have hxw1 := hx.trans hxb1))
    go_ret
    exact ⟨rfl, hxw1⟩

end Go.Proofs.YtebkhdhhajjhfaaGreat.Gr

/- A ratio's answer, by the code: up to the solved system. -/
namespace Go.Proofs.YtebkhdhhajjhfaaGreat.Gr
open Go.RowKit

/-- The order of columns that a ratio asks for. -/
def ratCols (S i o : Nat) : List Nat := if o = i then ordN S [i] [i] else ordN S [o, i] [o, i]
theorem ratCols_ord (S i o : Nat) : ordS S [(o : Int), (i : Int)] = (ratCols S i o).map fun (k : Nat) => (k : Int) := by
  unfold ratCols
  split
  · rename_i h; rw [h]; exact ordS_same S i
  · rename_i h; exact ordS_two h
theorem ratCols_lt {S i o : Nat} (hi : i < S) (ho : o < S) : ∀ c ∈ ratCols S i o, c < S := by
  unfold ratCols
  split
  · exact ordN_lt (by simp [hi])
  · exact ordN_lt (by simp [hi, ho])
theorem ratCols_all {S i o : Nat} : ∀ c, c < S → c ∈ ratCols S i o := by
  unfold ratCols
  split
  · exact ordN_all (fun c hc => hc)
  · exact ordN_all (fun c hc => hc)
theorem ratCols_nodup {S i o : Nat} : (ratCols S i o).Nodup := by
  unfold ratCols
  split
  · exact ordN_nodup (fun c hc => hc) (by simp)
  · rename_i h; exact ordN_nodup (fun c hc => hc) (by simp [h])
theorem ratCols_last (S i o : Nat) : ∃ c1, ratCols S i o = c1 ++ [i] := by
  unfold ratCols
  split
  · exact ⟨_, rfl⟩
  · exact ⟨(List.range S).filter (fun k => decide (k ∉ [o, i])) ++ [o], by simp [ordN]⟩
theorem ratCols_two {S i o : Nat} (h : o ≠ i) : ∃ c1, ratCols S i o = c1 ++ [o, i] := by
  unfold ratCols
  rw [if_neg h]
  exact ⟨_, rfl⟩
theorem nodup_len {S : Nat} {l : List Nat} (hn : l.Nodup) (h1 : ∀ c ∈ l, c < S) (h2 : ∀ c, c < S → c ∈ l) : l.length = S := by
  have h : l.Perm (List.range S) := (List.perm_ext_iff_of_nodup hn List.nodup_range).2 fun a => ⟨fun h => List.mem_range.2 (h1 a h), fun h => h2 a (List.mem_range.1 h)⟩
  simpa using h.length_eq
theorem ratCols_len {S i o : Nat} (hi : i < S) (ho : o < S) : (ratCols S i o).length = S := nodup_len ratCols_nodup (ratCols_lt hi ho) ratCols_all

/-- The answer of 'Ratio' for a train that is one. -/
def RatRes (b : World) (ms : List Msh) (S i o : Nat) (e : Ending) (w' : World) : Prop :=
  ∃ (num den x : Int) (A1 A2 A3 : Option Addr) (c1 c2 c3 : Nat) (F M T : List Int),
    e = .returned (.tuple #[.int .i64 num, .int .i64 den, .agg #[.slice A1 F.length c1, .slice A2 M.length c2, .slice A3 T.length c3], .int .i64 x]) ∧
    Ints w' A1 F ∧ Ints w' A2 M ∧ Ints w' A3 T ∧ Ext b w' ∧ x = verdS ms.length S (gearL ms S) i o ∧
    (x = 41 ∧ num = 0 ∧ den = 0 ∧ jamPr (gearL ms S) ms.length S i F M T ∨ x = 42 ∧ num = 0 ∧ den = 0 ∧ loosePr (gearL ms S) ms.length S i o F M T ∨ x = 0 ∧ ratPr (gearL ms S) ms.length S i o num den F M T)

/-- The zero struct of the solved type, in block g. -/
structure ZOk (W : World) (g : Nat) : Prop where
  c0 : W.cell? ⟨g, 0, none⟩ = some (.slice none 0 0)
  c1 : W.cell? ⟨g, 1, none⟩ = some (.map none)
  c2 : W.cell? ⟨g, 2, none⟩ = some (.slice none 0 0)
  c3 : W.cell? ⟨g, 3, none⟩ = some (.int .i64 0)
  f : ∀ j, W.frozen? ⟨g, j, none⟩ = false
theorem ZOk.lt {W : World} {g : Nat} (h : ZOk W g) : g < W.heap.size := World.block_lt_of_cell? _ _ h.c0
theorem ZOk.ext {W W' : World} {g : Nat} (h : ZOk W g) (he : Ext W W') : ZOk W' g :=
  ⟨he.cell h.c0, he.cell h.c1, he.cell h.c2, he.cell h.c3, fun j => (he.frozen h.lt).trans (h.f j)⟩
theorem ZOk.alloc {W : World} {g : Nat} {o : Obj} (h : ZOk W g) : ZOk (W.alloc o) g := h.ext ((Ext.refl W).alloc o)
theorem ZOk.drew {W : World} {g : Nat} (h : ZOk W g) : ZOk W.drew g := h.ext (Ext.drew (Ext.refl W))
theorem ZOk.new {W : World} : ZOk (W.alloc (.cells #[.slice none 0 0, .map none, .slice none 0 0, .int .i64 0] 122)) W.heap.size :=
  ⟨cells_last rfl rfl, cells_last rfl rfl, cells_last rfl rfl, cells_last rfl rfl, fun j => by simp only [World.frozen?, heap_alloc_new]; simp⟩
theorem ZOk.grown {W W' : World} {g gl : Nat} {x : Int} (h : ZOk W g) (hl : W.cell? ⟨gl, 0, none⟩ = some (vint x)) (hg : W.grownBy W' (some gl)) : ZOk W' g := by
  have hne : g ≠ gl := fun e => by
    subst e
    have := h.c0
    rw [hl] at this
    cases this
  have hb : W'.heap[g]? = W.heap[g]? := hg.block g h.lt fun e => hne (Option.some.inj e)
  have hc : ∀ j, W'.cell? ⟨g, j, none⟩ = W.cell? ⟨g, j, none⟩ := fun j => World.cell?_of_block (a := ⟨g, j, none⟩) hb
  exact ⟨(hc 0).trans h.c0, (hc 1).trans h.c1, (hc 2).trans h.c2, (hc 3).trans h.c3, fun j => (World.frozen?_of_block (a := ⟨g, j, none⟩) hb).trans (h.f j)⟩
theorem ZOk.new' {W : World} {g : Nat} (h : W.heap.size = g) : ZOk (W.alloc (.cells #[.slice none 0 0, .map none, .slice none 0 0, .int .i64 0] 122)) g := by subst h; exact ZOk.new
/-- The literal of two numbers, in block g. -/
structure LOk (W : World) (g : Nat) (x y : Int) : Prop where
  c0 : W.cell? ⟨g, 0, none⟩ = some (vint x)
  c1 : W.cell? ⟨g, 1, none⟩ = some (vint y)
  f : W.frozen? ⟨g, 1, none⟩ = false
theorem LOk.ext {W W' : World} {g : Nat} {x y : Int} (h : LOk W g x y) (he : Ext W W') : LOk W' g x y :=
  ⟨he.cell h.c0, he.cell h.c1, (he.frozen (World.block_lt_of_cell? _ _ h.c1)).trans h.f⟩
theorem LOk.alloc {W : World} {g : Nat} {x y : Int} {o : Obj} (h : LOk W g x y) : LOk (W.alloc o) g x y := h.ext ((Ext.refl W).alloc o)
theorem LOk.drew {W : World} {g : Nat} {x y : Int} (h : LOk W g x y) : LOk W.drew g x y := h.ext (Ext.drew (Ext.refl W))
theorem LOk.new {W : World} {x y : Int} : LOk (W.alloc (.cells #[.int .i64 x, .int .i64 y] 3)) W.heap.size x y :=
  ⟨cells_last rfl rfl, cells_last rfl rfl, by simp only [World.frozen?, heap_alloc_new]; simp⟩

theorem LOk.new' {W : World} {x y : Int} {g : Nat} (h : W.heap.size = g) : LOk (W.alloc (.cells #[.int .i64 x, .int .i64 y] 3)) g x y := by subst h; exact LOk.new
theorem order_lit {S : Nat} {ms : Value} {w : World} {gl : Nat} {x y : Int} (hS : S ≤ 8) (h : LOk w gl x y) :
    Calls Tryz.prog 49 #[.agg #[.int .i64 S, ms], .slice (some ⟨gl, 0, none⟩) 2 2] w (fun e w' => LOk w gl x y ∧ OrdPair w gl (ordS S [x, y]) e w') := (order_pair S ms w hS gl x y h.c0 h.c1 h.f).mono fun _ _ h2 => ⟨h, h2⟩
theorem rows_then {w1 b w W w' : World} {ms : List Msh} {S gl : Nat} {v : Value} (hb : Ext w1 b) (h : isRows b ms S v w) (he : Ext w W) (hg : W.grownBy w' (some gl)) (hl : w1.heap.size ≤ gl) (hc : w.heap.size ≤ gl ∨ gl < b.heap.size) : ∃ b', isRows b' ms S v w' := by
  rcases hc with hc | hc
  · exact ⟨b, h.later (OrdPair.ext hg he hc)⟩
  · exact ⟨w1, (h.later he).grown hb hg hl hc⟩

theorem isSolved.form {b w : World} {ms : List Msh} {S : Nat} {cols : List Nat} {u : Value} (h : isSolved b ms S cols u w) : ∃ A n c B n' c' mb d, u = .agg #[.slice A n c, .map (some mb), .slice B n' c', .int .i64 d] := by
  obtain ⟨v, ordv, mb, g, h, σ, pv, M, d, D, rfl, hs, hm, hp, hd, ho⟩ := h
  obtain ⟨A, c, rfl⟩ := hm.own.form
  obtain ⟨B, c', rfl, _⟩ := ho
  exact ⟨_, _, _, _, _, _, _, _, rfl⟩
/-- Four cells of the call's own struct. -/
def put4 (w : World) (g : Nat) (x0 x1 x2 x3 : Value) : World := (((w.setCell ⟨g, 0, none⟩ x0).setCell ⟨g, 1, none⟩ x1).setCell ⟨g, 2, none⟩ x2).setCell ⟨g, 3, none⟩ x3
theorem put4_ext {w0 w : World} {g : Nat} {x0 x1 x2 x3 : Value} (he : Ext w0 w) (hg : w0.heap.size ≤ g) : Ext w0 (put4 w g x0 x1 x2 x3) :=
  ((((he.setCell (p := ⟨g, 0, none⟩) hg x0).setCell (p := ⟨g, 1, none⟩) hg x1).setCell (p := ⟨g, 2, none⟩) hg x2).setCell (p := ⟨g, 3, none⟩) hg x3)
theorem put4_cells {w : World} {g : Nat} {x0 x1 x2 x3 : Value} (hz : ZOk w g) : ∀ w2, Ext (put4 w g x0 x1 x2 x3) w2 →
    w2.cell? ⟨g, 0, none⟩ = some x0 ∧ w2.cell? ⟨g, 1, none⟩ = some x1 ∧ w2.cell? ⟨g, 2, none⟩ = some x2 ∧ w2.cell? ⟨g, 3, none⟩ = some x3 := fun w2 he => by
  have o : ∀ {W : World} {j k : Nat} {x : Value}, j ≠ k → (W.setCell ⟨g, j, none⟩ x).cell? ⟨g, k, none⟩ = W.cell? ⟨g, k, none⟩ := fun h => World.cell?_setCell_other _ _ _ _ (fun e => by injection e with _ e2 _; exact h e2)
  refine ⟨he.cell ?_, he.cell ?_, he.cell ?_, he.cell ?_⟩ <;> unfold put4
  · rw [o (by decide), o (by decide), o (by decide)]
    exact World.cell?_setCell_same _ _ _ hz.c0
  · rw [o (by decide), o (by decide)]
    exact World.cell?_setCell_same _ _ _ (u := .map none) (by rw [o (by decide)]; exact hz.c1)
  · rw [o (by decide)]
    exact World.cell?_setCell_same _ _ _ (u := .slice none 0 0) (by rw [o (by decide), o (by decide)]; exact hz.c2)
  · exact World.cell?_setCell_same _ _ _ (u := .int .i64 0) (by rw [o (by decide), o (by decide), o (by decide)]; exact hz.c3)
theorem put4_grown {w : World} {g : Nat} {x0 x1 x2 x3 : Value} : w.grownBy (put4 w g x0 x1 x2 x3) (some g) :=
  (((grown_setAt (p := ⟨g, 0, none⟩)).trans (grown_setAt (p := ⟨g, 1, none⟩))).trans (grown_setAt (p := ⟨g, 2, none⟩))).trans (grown_setAt (p := ⟨g, 3, none⟩))
/-- The solved system, as the rest of 'Ratio' reads it. -/
def SolvQ (b w : World) (ms : List Msh) (S : Nat) (cols : List Nat) (v : Value) (mb : Nat) (ordv : Value) (d : Int) : Prop :=
  ∃ g h σ pv M D, SolSt (augF S (gearL ms S)) S ms.length cols σ pv M d ∧ MF b w v S ms.length ms.length g h (fun k => lineOf M S (σ k)) (fun k => byOf M S ms.length (σ k)) ∧ MapI w mb pv.length D ∧ MapIs D (colsP pv) ∧ ∃ Ao co, ordv = .slice Ao cols.length co
theorem solved_then {w1 b w4 W : World} {ms : List Msh} {S gz mb : Nat} {cols : List Nat} {v ordv x0 x1 x2 x3 : Value} {d : Int} (hb : Ext w1 b) (h : isSolved b ms S cols (.agg #[v, .map (some mb), ordv, .int .i64 d]) w4) (he : Ext w4 W) (hz : ZOk W gz) (hl : w1.heap.size ≤ gz) (hc : w4.heap.size ≤ gz ∨ gz < b.heap.size) :
    SolvQ w1 (put4 W gz x0 x1 x2 x3) ms S cols v mb ordv d := by
  obtain ⟨v', ordv', mb', g, h, σ, pv, M, d', D, e, hs, hm, hp, hd, ho⟩ := h
  simp only [Value.agg.injEq, Array.mk.injEq, List.cons.injEq, Value.map.injEq, Value.int.injEq, Option.some.injEq, and_true, true_and] at e
  obtain ⟨rfl, rfl, rfl, rfl⟩ := e
  have hord : ∃ Ao co, ordv = .slice Ao cols.length co := by
    obtain ⟨Ao, co, rfl, _⟩ := ho
    exact ⟨Ao, co, by simp⟩
  have hg : W.grownBy (put4 W gz x0 x1 x2 x3) (some gz) := put4_grown
  have hx : Ext w1 (put4 W gz x0 x1 x2 x3) := OrdPair.ext hg ((hb.trans hm.ext).trans he) hl
  rcases hc with hc | hc
  · have hx4 : Ext w4 (put4 W gz x0 x1 x2 x3) := OrdPair.ext hg he hc
    exact ⟨g, h, σ, pv, M, D, hs, (hm.since hb).later hx4, hp.later hx4, hd, hord⟩
  · have hm := hm.later he
    have old : ∀ {j : Nat} {xs : List Int}, NewInts b W j xs → NewInts w1 (put4 W gz x0 x1 x2 x3) j xs := fun {j xs} hj => ⟨hx, Nat.le_trans hb.le hj.2.1, (hg.block j hj.lt (fun e => by have := Option.some.inj e; have := hj.2.1; omega)).trans hj.2.2⟩
    refine ⟨g, h, σ, pv, M, D, hs, ⟨⟨hx, (hm.own.since hb).2.kept hg (.inr fun e => by have := (hm.own.2.lt gz e).1; omega)⟩, fun i hi => ⟨old (hm.gl i hi).1, (hm.gl i hi).2⟩, fun i hi => ⟨old (hm.hb i hi).1, (hm.hb i hi).2⟩, hm.gg, hm.hh, hm.gh⟩, ?_, hd, hord⟩
    obtain ⟨es, clock, hh, r⟩ := hp.later he
    refine ⟨es, clock, ?_, r⟩
    rw [hg.block mb (Array.getElem?_eq_some_iff.1 hh).1 (fun e => ?_)]
    · exact hh
    · have e := Option.some.inj e
      subst e
      have h0 := hz.c0
      simp [World.cell?, hh] at h0
theorem fin_old {w1 b w4 : World} {ms : List Msh} {S gz mb : Nat} {cols : List Nat} {v ordv : Value} {d : Int} (hb : Ext w1 b) (h : isSolved b ms S cols (.agg #[v, .map (some mb), ordv, .int .i64 d]) w4) (hz : ZOk w4 gz) (hx : Ext w1 w4) (hl : w1.heap.size ≤ gz) (hc : gz < b.heap.size) :
    Ext w1 (put4 w4 gz v (.map (some mb)) ordv (.int .i64 d)) ∧ SolvQ w1 (put4 w4 gz v (.map (some mb)) ordv (.int .i64 d)) ms S cols v mb ordv d ∧ (∀ w2, Ext (put4 w4 gz v (.map (some mb)) ordv (.int .i64 d)) w2 → w2.cell? ⟨gz, 0, none⟩ = some v ∧ w2.cell? ⟨gz, 1, none⟩ = some (.map (some mb)) ∧ w2.cell? ⟨gz, 2, none⟩ = some ordv ∧ w2.cell? ⟨gz, 3, none⟩ = some (.int .i64 d)) ∧ w1.heap.size ≤ gz :=
  ⟨put4_ext hx hl, solved_then hb h (Ext.refl _) hz hl (.inr hc), put4_cells hz, hl⟩
theorem fin_new {w1 b w4 : World} {ms : List Msh} {S mb : Nat} {cols : List Nat} {v ordv : Value} {d : Int} (hb : Ext w1 b) (h : isSolved b ms S cols (.agg #[v, .map (some mb), ordv, .int .i64 d]) w4) (hx : Ext w1 w4) :
    Ext w1 (w4.alloc (.cells #[v, .map (some mb), ordv, .int .i64 d] 122)) ∧ SolvQ w1 (w4.alloc (.cells #[v, .map (some mb), ordv, .int .i64 d] 122)) ms S cols v mb ordv d ∧ (∀ w2, Ext (w4.alloc (.cells #[v, .map (some mb), ordv, .int .i64 d] 122)) w2 → w2.cell? ⟨w4.heap.size, 0, none⟩ = some v ∧ w2.cell? ⟨w4.heap.size, 1, none⟩ = some (.map (some mb)) ∧ w2.cell? ⟨w4.heap.size, 2, none⟩ = some ordv ∧ w2.cell? ⟨w4.heap.size, 3, none⟩ = some (.int .i64 d)) ∧ w1.heap.size ≤ w4.heap.size := by
  refine ⟨hx.alloc _, ?_, fun w2 he => ⟨he.cell (cells_last rfl rfl), he.cell (cells_last rfl rfl), he.cell (cells_last rfl rfl), he.cell (cells_last rfl rfl)⟩, hx.le⟩
  obtain ⟨v', ordv', mb', g, h, σ, pv, M, d', D, e, hs, hm, hp, hd, ho⟩ := h.later (Ext.alloc (Ext.refl w4) (.cells #[v, .map (some mb), ordv, .int .i64 d] 122))
  simp only [Value.agg.injEq, Array.mk.injEq, List.cons.injEq, Value.map.injEq, Value.int.injEq, Option.some.injEq, and_true, true_and] at e
  obtain ⟨rfl, rfl, rfl, rfl⟩ := e
  refine ⟨g, h, σ, pv, M, D, hs, hm.since hb, hp, hd, ?_⟩
  obtain ⟨Ao, co, rfl, _⟩ := ho
  exact ⟨Ao, co, by simp⟩

/-! ### What the rest of 'Ratio' asks of the solved system -/
theorem nodup_le_of {S : Nat} {l : List Nat} (hn : l.Nodup) (h : ∀ c ∈ l, c < S) : l.length ≤ S := by
  have := nodup_le hn (m := List.range S) fun x hx => List.mem_range.2 (h x hx)
  simpa using this
theorem facOf_neg {S m : Nat} {M : Nat → Nat → Int} {d : Int} {q : Nat × Nat} {x : Nat} (hx : q.1 = x) (hd : M x q.2 = d) (hq : q.2 < S) :
    FacOf S m M d q (negL (decide (getI (lineOf M S x) q.2 < 0)) (byOf M S m x) m) := by
  subst hx
  rw [lineOf_get hq, hd]
  refine ⟨outL_len _ _, fun y hy => ?_⟩
  unfold negL sg
  rw [outL_get hy, byOf_get hy]
  by_cases h : d < 0
  · rw [if_pos (by simpa using h), if_pos h]; omega
  · rw [if_neg (by simpa using h), if_neg h]; omega
theorem SolSt.two53 {ms : List Msh} {S : Nat} {cols : List Nat} {σ : Nat → Nat} {pv : List (Nat × Nat)} {M : Nat → Nat → Int} {d : Int} (h : SolSt (augF S (gearL ms S)) S ms.length cols σ pv M d) (ht : trainP S ms) : d.natAbs ≤ 9007199254740992 ∧ ∀ q ∈ pv, ∀ j, (M q.1 j).natAbs ≤ 9007199254740992 := by
  refine h.bar.fits (fun x hx C hC => ?_) h.cnd ?_
  · rw [← augA_eq]
    exact aug_small (by rw [lineI_eq hx]; exact facS_small (ht.2.2.2 x hx)) C hC
  · rw [← colsP_len]
    have := nodup_le_of h.cnd fun c hc => (h.cin c hc).2
    have := ht.2.1
    omega
theorem verd_jam {ms : List Msh} {S i o : Nat} {σ : Nat → Nat} {pv : List (Nat × Nat)} {M : Nat → Nat → Int} {d : Int} (h : SolSt (augF S (gearL ms S)) S ms.length (ratCols S i o) σ pv M d) (hi : i < S) (hm : i ∈ colsP pv) : (41 : Int) = verdS ms.length S (gearL ms S) i o := by
  obtain ⟨c1, hc⟩ := ratCols_last S i o
  have hj := (h.jam ratCols_all hc ratCols_nodup hi).2 hm
  unfold verdS
  rw [if_pos]
  unfold jamB
  exact beq_iff_eq.2 hj
theorem verd_free {ms : List Msh} {S i o : Nat} {σ : Nat → Nat} {pv : List (Nat × Nat)} {M : Nat → Nat → Int} {d : Int} (h : SolSt (augF S (gearL ms S)) S ms.length (ratCols S i o) σ pv M d) (hi : i < S) (hm : i ∉ colsP pv) : jamB ms.length S (gearL ms S) i = false := by
  obtain ⟨c1, hc⟩ := ratCols_last S i o
  refine Bool.eq_false_iff.2 fun hb => hm ((h.jam ratCols_all hc ratCols_nodup hi).1 ?_)
  unfold jamB at hb
  exact beq_iff_eq.1 hb
theorem verd_same {ms : List Msh} {S i : Nat} {σ : Nat → Nat} {pv : List (Nat × Nat)} {M : Nat → Nat → Int} {d : Int} (h : SolSt (augF S (gearL ms S)) S ms.length (ratCols S i i) σ pv M d) (hi : i < S) (hm : i ∉ colsP pv) : (0 : Int) = verdS ms.length S (gearL ms S) i i := by
  unfold verdS
  rw [verd_free h hi hm, if_neg (by decide), if_neg]
  intro hb
  refine h.loose_same ratCols_all hi hm ?_
  unfold looseB at hb
  unfold isLoose
  simpa using hb
theorem verd_loose {ms : List Msh} {S i o : Nat} {σ : Nat → Nat} {pv : List (Nat × Nat)} {M : Nat → Nat → Int} {d : Int} (h : SolSt (augF S (gearL ms S)) S ms.length (ratCols S i o) σ pv M d) (hi : i < S) (ho : o < S) (hoi : o ≠ i) (hm : i ∉ colsP pv) : verdS ms.length S (gearL ms S) i o = if o ∈ colsP pv then 0 else 42 := by
  obtain ⟨c1, hc⟩ := ratCols_two hoi
  have hl := h.loose ratCols_all hc ratCols_nodup hi ho hoi hm
  unfold verdS
  rw [verd_free h hi hm, if_neg (by decide)]
  have e : (looseB ms.length S (gearL ms S) i o = true) ↔ o ∉ colsP pv := by
    rw [← hl]
    unfold looseB isLoose
    simp
  by_cases ho : o ∈ colsP pv
  · rw [if_neg (fun hb => e.1 hb ho), if_pos ho]
  · rw [if_pos (e.2 ho), if_neg ho]
/-- Numbers in new memory, when another block is written. -/
theorem ints_far {a w w' : World} {g r : Nat} {xs : List Int} (h : NewInts a w g xs) (hg : w.grownBy w' (some r)) (hne : g ≠ r) : Ints w' (some ⟨g, 0, none⟩) xs := by
  have hh : w'.heap[g]? = some (.cells (xs.map vint).toArray 3) := (hg.block g h.lt (fun e => hne (Option.some.inj e))).trans h.2.2
  have := row_heap hh
  simpa [Ints] using this
/-- Three cells of the call's own struct. -/
def put3 (w : World) (g : Nat) (x0 x1 x2 : Value) : World := ((w.setCell ⟨g, 0, none⟩ x0).setCell ⟨g, 1, none⟩ x1).setCell ⟨g, 2, none⟩ x2
theorem put3_grown {w : World} {g : Nat} {x0 x1 x2 : Value} : w.grownBy (put3 w g x0 x1 x2) (some g) :=
  ((grown_setAt (p := ⟨g, 0, none⟩)).trans (grown_setAt (p := ⟨g, 1, none⟩))).trans (grown_setAt (p := ⟨g, 2, none⟩))
/-- The answer's own struct. -/
structure GOk (W : World) (g : Nat) (u0 u1 u2 : Value) : Prop where
  c0 : W.cell? ⟨g, 0, none⟩ = some u0
  c1 : W.cell? ⟨g, 1, none⟩ = some u1
  c2 : W.cell? ⟨g, 2, none⟩ = some u2
  f : ∀ j, W.frozen? ⟨g, j, none⟩ = false
theorem GOk.lt {W : World} {g : Nat} {u0 u1 u2 : Value} (h : GOk W g u0 u1 u2) : g < W.heap.size := World.block_lt_of_cell? _ _ h.c0
theorem GOk.ext {W W' : World} {g : Nat} {u0 u1 u2 : Value} (h : GOk W g u0 u1 u2) (he : Ext W W') : GOk W' g u0 u1 u2 :=
  ⟨he.cell h.c0, he.cell h.c1, he.cell h.c2, fun j => (he.frozen h.lt).trans (h.f j)⟩
theorem GOk.drew {W : World} {g : Nat} {u0 u1 u2 : Value} (h : GOk W g u0 u1 u2) : GOk W.drew g u0 u1 u2 := h.ext (Ext.drew (Ext.refl W))
theorem GOk.new {W : World} {u0 u1 u2 : Value} {g : Nat} (hg : W.heap.size = g) : GOk (W.alloc (.cells #[u0, u1, u2] 53)) g u0 u1 u2 := by
  subst hg
  exact ⟨cells_last rfl rfl, cells_last rfl rfl, cells_last rfl rfl, fun j => by simp only [World.frozen?, heap_alloc_new]; simp⟩
section
variable {W : World} {g : Nat} {u0 u1 u2 : Value}
theorem cell_same' {W : World} {p : Addr} {x : Value} (u : Value) (h : W.cell? p = some u) : (W.setCell p x).cell? p = some x := World.cell?_setCell_same _ _ _ h
theorem cell_far' {W : World} {g j k : Nat} {x : Value} (h : j ≠ k) : (W.setCell ⟨g, j, none⟩ x).cell? ⟨g, k, none⟩ = W.cell? ⟨g, k, none⟩ := World.cell?_setCell_other _ _ _ _ (fun e => by injection e with _ e2 _; exact h e2)
theorem GOk.set0 (h : GOk W g u0 u1 u2) (x : Value) : GOk (W.setCell ⟨g, 0, none⟩ x) g x u1 u2 :=
  ⟨cell_same' u0 h.c0, (cell_far' (by decide)).trans h.c1, (cell_far' (by decide)).trans h.c2, fun j => by rw [World.frozen?_setCell]; exact h.f j⟩
theorem GOk.set1 (h : GOk W g u0 u1 u2) (x : Value) : GOk (W.setCell ⟨g, 1, none⟩ x) g u0 x u2 :=
  ⟨(cell_far' (by decide)).trans h.c0, cell_same' u1 h.c1, (cell_far' (by decide)).trans h.c2, fun j => by rw [World.frozen?_setCell]; exact h.f j⟩
theorem GOk.set2 (h : GOk W g u0 u1 u2) (x : Value) : GOk (W.setCell ⟨g, 2, none⟩ x) g u0 u1 x :=
  ⟨(cell_far' (by decide)).trans h.c0, (cell_far' (by decide)).trans h.c1, cell_same' u2 h.c2, fun j => by rw [World.frozen?_setCell]; exact h.f j⟩
end
/-- The solved system when the answer's own struct is written. -/
theorem SolvQ.open_ {b0 b w : World} {ms : List Msh} {S : Nat} {cols : List Nat} {v : Value} {mb : Nat} {ordv : Value} {d : Int} (h : SolvQ b w ms S cols v mb ordv d) {r : Nat} {u : Value} (he : Ext b0 b) (h1 : b0.heap.size ≤ r) (h2 : r < b.heap.size) (hu : w.cell? ⟨r, 0, none⟩ = some u) :
    ∃ g h σ pv M D, SolSt (augF S (gearL ms S)) S ms.length cols σ pv M d ∧ (∀ w', w.grownBy w' (some r) → MF b0 w' v S ms.length ms.length g h (fun k => lineOf M S (σ k)) (fun k => byOf M S ms.length (σ k))) ∧ (∀ w', w.grownBy w' (some r) → MapI w' mb pv.length D) ∧ MapIs D (colsP pv) ∧ ∃ Ao co, ordv = .slice Ao cols.length co := by
  obtain ⟨g, h, σ, pv, M, D, hs, hm, hp, hd, ho⟩ := h
  refine ⟨g, h, σ, pv, M, D, hs, fun w' hg => ?_, fun w' hg => ?_, hd, ho⟩
  · have hx : Ext b0 w' := OrdPair.ext hg (he.trans hm.ext) h1
    have old : ∀ {j : Nat} {xs : List Int}, NewInts b w j xs → NewInts b0 w' j xs := fun {j xs} hj => ⟨hx, Nat.le_trans he.le hj.2.1, (hg.block j hj.lt (fun e => by have := Option.some.inj e; have := hj.2.1; omega)).trans hj.2.2⟩
    exact ⟨⟨hx, (hm.own.since he).2.kept hg (.inr fun e => by have := (hm.own.2.lt r e).1; omega)⟩, fun i hi => ⟨old (hm.gl i hi).1, (hm.gl i hi).2⟩, fun i hi => ⟨old (hm.hb i hi).1, (hm.hb i hi).2⟩, hm.gg, hm.hh, hm.gh⟩
  · obtain ⟨es, clock, hh, r2⟩ := hp
    refine ⟨es, clock, ?_, r2⟩
    rw [hg.block mb (Array.getElem?_eq_some_iff.1 hh).1 (fun e => ?_)]
    · exact hh
    · have e := Option.some.inj e
      subst e
      simp [World.cell?, hh] at hu
theorem GOk.put3 {w : World} {g : Nat} {u0 u1 u2 x0 x1 x2 : Value} (h : GOk w g u0 u1 u2) : GOk (put3 w g x0 x1 x2) g x0 x1 x2 := ((h.set0 x0).set1 x1).set2 x2
theorem cell_gb {w w' : World} {r : Nat} {p : Addr} {x : Value} (hg : w.grownBy w' (some r)) (hne : p.block ≠ r) (h : w.cell? p = some x) : w'.cell? p = some x := (World.cell?_of_block (hg.block p.block (World.block_lt_of_cell? _ _ h) (fun e => hne (Option.some.inj e)))).trans h
theorem _root_.Go.Proofs.YtebkhdhhajjhfaaGreat.Ext.gb {w w' : World} {r : Option Nat} (h : Ext w w') : w.grownBy w' r := ⟨h.os, h.tape, h.output, h.size, fun k hk _ => h.block k hk⟩
/-- What 'Ratio' returns: two numbers, the struct, a number. -/
theorem results_ratio {fn : Func} (h : fn.results = #[.tmp 6, .tmp 7, .cell 8 53, .tmp 9]) (tmps : Array Value) (w : World) {g : Nat} {u0 u1 u2 : Value} (h8 : tmps.getD 8 undef = .pointer (some ⟨g, 0, none⟩)) (hc : GOk w g u0 u1 u2) :
    (results fn tmps).run Tryz.prog w = .ok (.tuple #[tmps.getD 6 undef, tmps.getD 7 undef, .agg #[u0, u1, u2], tmps.getD 9 undef]) w := by
  obtain ⟨c0, c1, c2, _⟩ := hc
  rw [Array.getD_eq_getD_getElem?] at h8
  simp [results, h, loadVar, h8, c0, c1, c2, loadCells, loadCellsFrom, asAddr, Addr.add_lit, Result.andThen, go_sem]
theorem MF.at2 {b w : World} {gv : Nat} {c' cv n m c : Nat} {g h : Nat → Nat} {L B : Nat → List Int} (hm : MF b w (.slice (some ⟨gv, 0, none⟩) c' cv) n m c g h L B) {k : Nat} (hk : k < c) :
    (∀ w', Ext w w' → w'.cell? ⟨gv, k * 2, none⟩ = some (sl (g k) n)) ∧ (∀ w', Ext w w' → w'.cell? ⟨gv, k * 2 + 1, none⟩ = some (sl (h k) m)) ∧
      Ints w (some ⟨g k, 0, none⟩) (L k) ∧ Ints w (some ⟨h k, 0, none⟩) (B k) ∧ (L k).length = n ∧ (B k).length = m := by
  obtain ⟨gv', cv', e, r⟩ := hm.at_ hk
  simp only [Value.slice.injEq, Option.some.injEq, Addr.mk.injEq, and_true] at e
  obtain ⟨rfl, rfl, rfl⟩ := e
  exact r
theorem wrap_tdiv {a s x : Int} (h : a.natAbs ≤ 9007199254740992) (he : a.tdiv s = x) : IntKind.i64.wrap (a.tdiv s) = x := by
  have h1 := Int.natAbs_tdiv_le_natAbs a s
  rw [IntKind.wrap_i64, he]
  rw [he] at h1
  omega
/-- A world that has grown, and holds the answer's own struct. -/
structure Sg (w0 : World) (r : Nat) (u0 u1 u2 : Value) (w' : World) : Prop where
  gb : w0.grownBy w' (some r)
  ok : GOk w' r u0 u1 u2
theorem Sg.drew {w0 w : World} {r : Nat} {u0 u1 u2 : Value} (h : Sg w0 r u0 u1 u2 w) : Sg w0 r u0 u1 u2 w.drew := ⟨h.gb.trans (Ext.gb (Ext.drew (Ext.refl _))), h.ok.drew⟩
theorem Sg.put3 {w0 w : World} {r : Nat} {u0 u1 u2 : Value} (h : Sg w0 r u0 u1 u2 w) : Sg w0 r u0 u1 u2 (put3 w r u0 u1 u2) := ⟨h.gb.trans put3_grown, h.ok.put3⟩
theorem Sg.start {w : World} {r : Nat} {u0 u1 u2 : Value} (h : GOk w r u0 u1 u2) : Sg w r u0 u1 u2 w := ⟨grownBy_refl _ _, h⟩
end Go.Proofs.YtebkhdhhajjhfaaGreat.Gr
