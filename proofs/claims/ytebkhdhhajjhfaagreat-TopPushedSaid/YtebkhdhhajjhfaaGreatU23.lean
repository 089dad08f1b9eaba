/- The cells of a brick, sorted: some order of those that are placed. -/
import Derived.Test.YtebkhdhhajjhfaaGreatU22
import Derived.Test.YtebkhdhhajjhfaaGreatU15
import Derived.Test.YtebkhdhhajjhfaaGreatU08
import Derived.Test.YtebkhdhhajjhfaaGreatU05
import Derived.Maps.RangeWalk
import Derived.Shelf.SlSortCmp.NoneTotal
namespace Go.Proofs.YtebkhdhhajjhfaaGreat.Lt
open Go.RowKit
theorem cell_elem : ElemInfo 60 (.agg #[.int .i64 0, .int .i64 0, .int .i64 0]) 3 24 := ⟨info_parts (by kernel_rfl), rfl, by decide⟩
abbrev OwnE (w1 w : World) (v : Value) (xs : List Ce) : Prop := Own w1 w 60 3 v xs.length (xs.map Ce.cells).flatten
/-- Sorting cells: some order of them. -/
theorem sort_cells (g cap : Nat) (ps : List Ce) (w0 w : World) (h : OwnE w0 w (.slice (some ⟨g, 0, none⟩) ps.length cap) ps) (hl : ps.length ≤ 1000000) : Calls Tryz.prog 104 #[.slice (some ⟨g, 0, none⟩) ps.length cap, .func (.func 105) #[] #[]] w fun e w' => e = .returned (.tuple #[]) ∧ ∃ qs : List Ce, qs.Perm ps ∧ Own w0 w' 60 3 (.slice (some ⟨g, 0, none⟩) ps.length cap) ps.length (qs.map Ce.cells).flatten := by
  have hk : ∀ x : Ce, x.cells.length = 3 := fun _ => rfl
  have h : Own w0 w 60 3 (.slice (some ⟨g, 0, none⟩) ps.toArray.size cap) ps.toArray.size (ps.toArray.toList.map Ce.cells).flatten := h
  have eg : ∀ args w, (callFunc 105 args).run Tryz.prog w = .ok (.enter 105 args) w := Go.Proofs.enters_of Tryz.func105 (by kernel_rfl) rfl
  have hcon := AnyQ.slices_SortFunc sortCellsL 3 Tryz.isAgg60 Tryz.sizeOf60 Ce.cells hk (fun x v hv => by simp [Ce.cells] at hv; rcases hv with rfl | rfl | rfl <;> rfl) ordC swo_ord 105 #[] g 0 cap ps.toArray w eg (fun _ _ _ _ x y => order_any x y _) (own_holds hk h) (World.ownsRow.lt h.2 g rfl).2 (by simp; omega)
  refine Calls.mono hcon ?_
  rintro e w' ⟨rfl, d', m, os, hp, _, rfl⟩
  have hs : d'.size = ps.toArray.size := hp.1
  refine ⟨rfl, d'.toList, ?_, own_sorted hk h hs⟩
  have := hp.2.2
  rw [← hs, Array.extract_size] at this
  rw [hs, Array.extract_size] at this
  exact this
theorem set_three (pre post : List Value) (m : Nat) (h : pre.length = m) (x y z a b c : Value) : (((pre ++ x :: y :: z :: post).set m a).set (m + 1) b).set (m + 2) c = pre ++ a :: b :: c :: post := by
  subst h
  rw [List.set_append_right _ _ (Nat.le_refl _), List.set_append_right _ _ (by omega), List.set_append_right _ _ (by omega)]
  simp
/-- The first k cells, and then zeros. -/
def fillE (l : List Ce) (k : Nat) : List Value := ((l.take k).map Ce.cells).flatten ++ List.replicate ((l.length - k) * 3) (vint 0)
theorem fillE_len (l : List Ce) {k : Nat} (hk : k ≤ l.length) : (fillE l k).length = l.length * 3 := by
  unfold fillE
  rw [List.length_append, Ce.cells_len, List.length_take, List.length_replicate, ← Nat.add_mul]
  congr 1
  omega
theorem fillE_set (l : List Ce) {k : Nat} (hk : k < l.length) {c : Ce} (hc : ceA l k = c) : (((fillE l k).set (k * 3) (vint c.x)).set (k * 3 + 1) (vint c.y)).set (k * 3 + 2) (vint c.z) = fillE l (k + 1) := by
  have e : (l.length - k) * 3 = (l.length - (k + 1)) * 3 + 1 + 1 + 1 := by omega
  have hp : ((l.take k).map Ce.cells).flatten.length = k * 3 := by rw [Ce.cells_len, List.length_take]; congr 1; omega
  unfold fillE
  rw [e, List.replicate_succ, List.replicate_succ, List.replicate_succ, set_three _ _ _ hp, List.take_succ_eq_append_getElem hk]
  rw [ceA_at hk] at hc
  rw [hc]
  simp [Ce.cells]
theorem fillE_zero (l : List Ce) : (madeCells (Value.cells (.agg #[.int .i64 0, .int .i64 0, .int .i64 0])) (l.length * 3)).toList = fillE l 0 := by
  apply List.ext_getElem
  · simp [fillE, madeCells]
  · intro i h1 h2
    have h3 : i % 3 < 3 := Nat.mod_lt _ (by omega)
    rcases (by omega : i % 3 = 0 ∨ i % 3 = 1 ∨ i % 3 = 2) with h | h | h <;> simp [fillE, madeCells, Value.cells, h]
theorem fillE_all (l : List Ce) : fillE l l.length = (l.map Ce.cells).flatten := by simp [fillE]
theorem fillE_get (l : List Ce) {k j : Nat} (hk : k < l.length) (hj : j < 3) : ∃ v, (fillE l k)[k * 3 + j]? = some v := by
  have := fillE_len l (Nat.le_of_lt hk)
  exact ⟨_, List.getElem?_eq_getElem (by rw [this]; have : (k + 1) * 3 ≤ l.length * 3 := Nat.mul_le_mul_right _ hk; omega)⟩

set_option maxRecDepth 100000 in
set_option maxHeartbeats 4000000 in
theorem cells_any (l : List Ce) (B : Option Addr) (b : Nat) (D : Option Addr) (m d : Nat) (wt : Int) (t : Nat) (o : Ce) (w : World) (hB : CeRow w B l) (hl : l.length ≤ 1000) (hn : ∀ c ∈ l, nearP c (-1000) 1000) (ht : t < 24) (ho : nearP o (-1000) 1000) :
    Calls Tryz.prog 72 #[.agg #[.slice B l.length b, .slice D m d, .int .i64 wt], .int .i64 t, o.val] w fun e w' => ∃ g cap qs, e = .returned (.slice (some ⟨g, 0, none⟩) l.length cap) ∧ List.Perm qs (placed l t o) ∧ Own w w' 60 3 (.slice (some ⟨g, 0, none⟩) l.length cap) l.length (qs.map Ce.cells).flatten := by
  have ha := fun k (hk : k < l.length) => hB.at_ hk
  have hct := fun k (hk : k < l.length) (w' : World) => turn_any (ceA l k) t ht w' (by have := hn _ (List.getElem_mem hk); rw [← ceA_at hk] at this; unfold nearP at *; omega)
  have hcp := fun k (hk : k < l.length) (w' : World) => plus_any (turnC (ceA l k) t) o w' (by have := turnC_near (hn _ (List.getElem_mem hk)) t; rw [← ceA_at hk] at this; unfold nearP at *; omega) (by unfold nearP at *; omega)
  have hlen : (placed l t o).length = l.length := by simp [placed]
  have hset := fun k (hk : k < l.length) => fillE_set (placed l t o) (k := k) (c := plusC (turnC (ceA l k) t) o) (by rw [hlen]; exact hk) (by rw [ceA_at (by rw [hlen]; exact hk), ceA_at hk]; simp [placed])
  have hget := fun k (hk : k < l.length) j (hj : j < 3) => fillE_get (placed l t o) (k := k) (j := j) (by rw [hlen]; exact hk) hj
  have hfl := fun k (hk : k ≤ l.length) => fillE_len (placed l t o) (k := k) (by rw [hlen]; exact hk)
  have hz := fillE_zero (placed l t o)
  have hall := fillE_all (placed l t o)
  rw [hlen] at hz hall
  simp only [hlen] at hfl
  have hso := fun (g : Nat) (w0 w' : World) (h : Own w0 w' 60 3 (.slice (some ⟨g, 0, none⟩) l.length l.length) l.length ((placed l t o).map Ce.cells).flatten) => (show Calls Tryz.prog 104 #[.slice (some ⟨g, 0, none⟩) l.length l.length, .func (.func 105) #[] #[]] w' fun e w'' => e = .returned (.tuple #[]) ∧ ∃ qs : List Ce, qs.Perm (placed l t o) ∧ Own w0 w'' 60 3 (.slice (some ⟨g, 0, none⟩) l.length l.length) l.length (qs.map Ce.cells).flatten from by
    have h1 := sort_cells g l.length (placed l t o) w0 w' (by show Own w0 w' _ 3 _ (placed l t o).length _; rw [hlen]; exact h) (by rw [hlen]; omega)
    rw [hlen] at h1
    exact h1)
  have Ha := Lib.hid ha
  have Hct := Lib.hid hct
  have Hcp := Lib.hid hcp
  have Hset := Lib.hid hset
  have Hget := Lib.hid hget
  have Hfl := Lib.hid hfl
  have Hz := Lib.hid hz
  have Hall := Lib.hid hall
  have Hso := Lib.hid hso
  clear ha hct hcp hset hget hfl hz hall hlen hB hn ho hso ht
  generalize placed l t o = C at *
  generalize l.length = n at *
  obtain ⟨ox, oy, oz⟩ := o
  have k2 : Blk ((w.alloc (.cells #[.slice B n b, .slice D m d, .int .i64 wt] 82)).alloc (.cells #[.int .i64 ox, .int .i64 oy, .int .i64 oz] 60)) w.heap.size [.slice B n b, .slice D m d, .int .i64 wt] := (Blk.new _ _).ext ((Ext.refl _).alloc _)
  have k3 : Blk ((w.alloc (.cells #[.slice B n b, .slice D m d, .int .i64 wt] 82)).alloc (.cells #[.int .i64 ox, .int .i64 oy, .int .i64 oz] 60)) (w.heap.size + 1) [.int .i64 ox, .int .i64 oy, .int .i64 oz] := Blk.new' (by simp)
  have hx0 : Ext w ((w.alloc (.cells #[.slice B n b, .slice D m d, .int .i64 wt] 82)).alloc (.cells #[.int .i64 ox, .int .i64 oy, .int .i64 oz] 60)) := ((Ext.refl _).alloc _).alloc _
  have b0 := k2.at_ 0 rfl
  go_enter Tryz.func72, Tryz.ntmps72
  go_wp2_with (refine own_make (w1 := w) cell_elem rfl _ _ rfl Tryz.underlying79 _ n rfl rfl (by omega) (by unfold maxLen; omega) hx0 ?_; intro w2 hown hx2; have b0' := fun w' he => b0 w' (hx2.trans he); clear b0)
  have k22 := k2.ext hx2
  have k32 := k3.ext hx2
  rw [Hz.out] at hown
  have hs1 : ((w.alloc (.cells #[.slice B n b, .slice D m d, .int .i64 wt] 82)).alloc (.cells #[.int .i64 ox, .int .i64 oy, .int .i64 oz] 60)).heap.size = w.heap.size + 1 + 1 := by simp
  rw [hs1] at hown
  clear hs1 k2 k3 hx0 hx2 b0'
  obtain ⟨g, hg⟩ : ∃ g, g = w.heap.size + 1 + 1 := ⟨_, rfl⟩
  rw [← hg] at hown ⊢
  have Hg := Lib.hid hg
  clear hg
  go_loopw [17] (fun i wr => ∃ k : Nat, k ≤ n ∧ i = .int .i64 k ∧ Own w wr 60 3 (.slice (some ⟨g, 0, none⟩) n n) n (fillE C k) ∧ Blk wr (w.heap.size + 1) [.int .i64 ox, .int .i64 oy, .int .i64 oz]) (fun i _ => n - (intOf i).toNat)
  case atStart => exact ⟨0, by omega, rfl, hown, k32⟩
  case round =>
    clear hown k22 k32
    obtain ⟨k, hk, rfl, hown, k22⟩ := hrel
    by_cases hlt : k < n
    · obtain ⟨ad, rfl, r0, r1, r2⟩ := Ha.out k hlt
      have hex := hown.ext
      have c0 : ∀ w', Ext wr w' → _ := fun w' he => r0 w' (hex.trans he)
      have c1 : ∀ w', Ext wr w' → _ := fun w' he => r1 w' (hex.trans he)
      have c2 : ∀ w', Ext wr w' → _ := fun w' he => r2 w' (hex.trans he)
      have hset := Hset.out k hlt
      have hpl := Hcp.out k hlt
      have htn := Hct.out k hlt
      have Hset' := Lib.hid hset
      have Hpl := Lib.hid hpl
      have Htn := Lib.hid htn
      have hki : (k : Int) < (n : Int) := by omega
      clear r0 r1 r2 hset hpl htn Ha Hset Hcp Hct Hz
      generalize plusC (turnC (ceA l k) t) ⟨ox, oy, oz⟩ = z at Hset' Hpl
      generalize turnC (ceA l k) t = y at Hpl Htn
      generalize ceA l k = s at c0 c1 c2 Htn
      obtain ⟨sx, sy, sz⟩ := s
      obtain ⟨yx, yy, yz⟩ := y
      obtain ⟨zx, zy, zz⟩ := z
      simp only at c0 c1 c2 Hset'
      have HW := Lib.hid (And.intro hown k22)
      clear hown k22
      go_wp2
      have hx7 : Ext wr (wr.alloc (.cells #[.int .i64 sx, .int .i64 sy, .int .i64 sz] 60)) := (Ext.refl _).alloc _
      have k7 : Blk (wr.alloc (.cells #[.int .i64 sx, .int .i64 sy, .int .i64 sz] 60)) wr.heap.size [.int .i64 sx, .int .i64 sy, .int .i64 sz] := Blk.new _ _
      generalize (wr.alloc (.cells #[.int .i64 sx, .int .i64 sy, .int .i64 sz] 60)) = w7 at hx7 k7 ⊢
      have hown7 := HW.out.1.later hx7
      have k27 := HW.out.2.ext hx7
      have s0 := k7.at_ 0 rfl
      have s1 := k7.at_ 1 rfl
      have s2 := k7.at_ 2 rfl
      have q0 := k27.at_ 0 rfl
      have q1 := k27.at_ 1 rfl
      have q2 := k27.at_ 2 rfl
      have Hown7 := Lib.hid hown7
      clear hown7 c0 c1 c2
      refine Cg.wp_region_calm (p := Cg.extPre) (fr := (fun _ => false)) 8 (fun j _ v _ => (j = 4 → v = .agg #[.int .i64 yx, .int .i64 yy, .int .i64 yz]) ∧ (j = 6 → v = .agg #[.int .i64 zx, .int .i64 zy, .int .i64 zz])) (fun _ _ _ _ _ _ h => h) (by kernel_rfl) (by kernel_rfl) ?_
      simp only [List.take_succ_cons, List.take_zero, List.drop_succ_cons, List.drop_zero]
      refine Cg.calm_quiet Cg.calm_mono_final w7 (fun _ h => h) 4 (by kernel_rfl) ?_
      simp only [List.take_succ_cons, List.take_zero, List.drop_succ_cons, List.drop_zero]
      repeat (go_big_quiet_step (fail))
      refine wpQuiet_nil ?_
      refine Cg.calm_call Cg.calm_mono_final 59 #[.agg #[.int .i64 sx, .int .i64 sy, .int .i64 sz], .int .i64 t] rfl (fun w => ?_) (fun w he hF => ?_) ?_
      · go_simp
      · exact (Htn.out w).mono fun e w'' ⟨he', hx⟩ => ⟨_, he', hx, ⟨fun _ => rfl, fun h => (by cases h)⟩, fun h => by cases h⟩
      rintro _ _ _ h _
      cases h.1 rfl
      simp only [Act.put, List.setIfInBounds_toArray, List.set_cons_succ, List.set_cons_zero]
      refine Cg.calm_quiet Cg.calm_mono_final w7 (fun _ h => h) 1 (by kernel_rfl) ?_
      simp only [List.take_succ_cons, List.take_zero, List.drop_succ_cons, List.drop_zero]
      repeat (go_big_quiet_step (fail))
      refine wpQuiet_nil ?_
      refine Cg.calm_call Cg.calm_mono_final 103 #[.agg #[.int .i64 yx, .int .i64 yy, .int .i64 yz], .agg #[.int .i64 ox, .int .i64 oy, .int .i64 oz]] rfl (fun w => ?_) (fun w he hF => ?_) ?_
      · go_simp
      · exact (Hpl.out w).mono fun e w'' ⟨he', hx⟩ => ⟨_, he', hx, ⟨fun h => (by cases h), fun _ => rfl⟩, fun h => by cases h⟩
      rintro _ _ _ h _
      cases h.2 rfl
      simp only [Act.put, List.setIfInBounds_toArray, List.set_cons_succ, List.set_cons_zero]
      refine Cg.calm_quiet Cg.calm_mono_final w7 (fun _ h => h) 1 (by kernel_rfl) ?_
      simp only [List.take_succ_cons, List.take_zero, List.drop_succ_cons, List.drop_zero]
      repeat (go_big_quiet_step (fail))
      refine wpQuiet_nil ?_
      refine Cg.calm_nil fun w3 he3 _ => ?_
      have he3 : Ext w7 w3 := he3
      have hown3 := Hown7.out.later he3
      have k23 := k27.ext he3
      obtain ⟨v0, g0⟩ := Hget.out k hlt 0 (by omega)
      obtain ⟨v1, g1⟩ := Hget.out k hlt 1 (by omega)
      obtain ⟨v2, g2⟩ := Hget.out k hlt 2 (by omega)
      have hfl := Hfl.out k (by omega)
      have e0 : w3.cell? ⟨g, k * 3, none⟩ = some v0 := (hown3.cell (j := k * 3) (by omega)).trans g0
      have e1 : w3.cell? ⟨g, k * 3 + 1, none⟩ = some v1 := (hown3.cell (j := k * 3 + 1) (by omega)).trans g1
      have e2 : w3.cell? ⟨g, k * 3 + 2, none⟩ = some v2 := (hown3.cell (j := k * 3 + 2) (by omega)).trans g2
      have hf := hown3.free
      have hown4 := ((hown3.store (k * 3) (.int .i64 zx)).store (k * 3 + 1) (.int .i64 zy)).store (k * 3 + 2) (.int .i64 zz)
      rw [Hset'.out] at hown4
      have hgne : g ≠ w.heap.size + 1 := by have := Hg.out; omega
      have k24 := ((k23.other (b := g) (k := k * 3) hgne (.int .i64 zx)).other (b := g) (k := k * 3 + 1) hgne (.int .i64 zy)).other (b := g) (k := k * 3 + 2) hgne (.int .i64 zz)
      have H4 := Lib.hid (And.intro hown4 k24)
      clear hown4 k24 hown3 k23 g0 g1 g2 hfl s0 s1 s2 q0 q1 q2 k27 k7
      go_wp2
      go_roundw
      case rel => exact ⟨k + 1, by omega, by go_num, H4.out.1, H4.out.2⟩
      case measure => simp [intOf]; omega
    · obtain rfl : n = k := by omega
      have hall := Hall.out
      rw [hall] at hown
      have hs := Hso.out g w wr hown
      have Hs := Lib.hid hs
      clear hall hown hs k22
      go_wp2_with (go_at_call 104; refine (Hs.out).mono ?_; rintro e w9 ⟨rfl, qs, hq, ho⟩)
      go_ret
      exact ⟨g, n, qs, rfl, hq, ho⟩
end Go.Proofs.YtebkhdhhajjhfaaGreat.Lt

/- For the walk through Overlaps: the call's own rows beside maps; which cells bricks have. -/
namespace Go.Proofs.YtebkhdhhajjhfaaGreat.Lt
open Go Go.RowKit Go.Maps Go.ChangeShapes
theorem pair_elem : ElemInfo 173 (.agg #[.int .i64 0, .int .i64 0]) 2 16 := ⟨info_parts (by kernel_rfl), rfl, by decide⟩
section
variable {w0 w w' : World} {e : TypeId} {size n : Nat} {v : Value} {xs : List Value}
theorem own_grown (h : Own w0 w e size v n xs) {row : Option Nat} (hg : w.grownBy w' row) (hr : ∀ k, row = some k → w0.heap.size ≤ k) (hne : v.ownBlock = none ∨ v.ownBlock ≠ row) : Own w0 w' e size v n xs := by
  refine ⟨h.1.grown hg hr, h.2.1, ?_⟩
  rcases h.2.2 with h1 | ⟨g, cap, cur, rfl, hb, hh, r⟩
  · exact .inl h1
  · refine .inr ⟨g, cap, cur, rfl, hb, ?_, r⟩
    have hlt : g < w.heap.size := (Array.getElem?_eq_some_iff.1 hh).1
    rw [hg.block g hlt (hne.elim (fun h1 => by cases h1) id)]
    exact hh
theorem own_ne_map (h : Own w0 w e size v n xs) {r : Nat} {es : Array MapEntry} {clock : Nat} (hr : w.heap[r]? = some (.map es clock)) : v.ownBlock = none ∨ v.ownBlock ≠ some r := by
  rcases h.2.2 with ⟨rfl, _⟩ | ⟨g, cap, cur, rfl, _, hh, _⟩
  · exact .inl rfl
  · refine .inr fun e1 => ?_
    have : g = r := by simpa [Value.ownBlock] using e1
    subst this
    rw [hr] at hh
    cases hh
/-- Rows of other types lie elsewhere. -/
theorem own_ne_row (h : Own w0 w e size v n xs) {base e2 size2 n2 : Nat} {v2 : Value} {ys : List Value} (h2 : w.ownsRow base e2 size2 v2 n2 ys) (hne : e ≠ e2) : v.ownBlock = none ∨ v.ownBlock ≠ v2.ownBlock := by
  rcases h.2.2 with ⟨rfl, _⟩ | ⟨g, cap, cur, rfl, _, hh, _⟩
  · exact .inl rfl
  · refine .inr fun e1 => ?_
    rcases h2.2 with ⟨rfl, _⟩ | ⟨g2, cap2, cur2, rfl, _, hh2, _⟩
    · cases e1
    · have : g = g2 := by simpa [Value.ownBlock] using e1
      subst this
      rw [hh] at hh2
      simp only [Option.some.injEq, Obj.cells.injEq] at hh2
      exact hne hh2.2.1
end
theorem own_ne_ranges {P : Program} {w0 w : World} {e : TypeId} {size n : Nat} {v : Value} {xs : List Value} (h : Own w0 w e size v n xs) {k : TypeId} {R : Value → Option (DataW Unit × List MemPlace)} {b r m : Nat} {D : DataW Unit} {left : Lit → Bool} {cnt : Nat} (hr : w.ranges P k R b r m D left cnt) : some b ≠ v.ownBlock ∧ some r ≠ v.ownBlock := by
  obtain ⟨es, clock, since, seen, c0, hb, _, _, _, hr, _⟩ := hr
  rcases h.2.2 with ⟨rfl, _⟩ | ⟨g, cap, cur, rfl, _, hh, _⟩
  · exact ⟨by simp [Value.ownBlock], by simp [Value.ownBlock]⟩
  · refine ⟨fun e1 => ?_, fun e1 => ?_⟩
    · cases e1
      rw [hb] at hh
      cases hh
    · cases e1
      rw [hr] at hh
      cases hh
theorem InM.isMap {w0 w : World} {b base n : Nat} {f : Ce → Int → Prop} (h : InM w0 w b base n f) : ∃ es clock, w.heap[b]? = some (.map es clock) := by
  obtain ⟨D, ⟨es, clock, hb, _⟩, _⟩ := h
  exact ⟨es, clock, hb⟩
/-! ### Which cells -/
/-- The cells of brick i. -/
def plB (l : List Ki) (ms : List Br) (i : Nat) : List Ce := placed (kiA l (brA ms i).kind.toNat).cs (brA ms i).trn.toNat (brA ms i).at_
/-- Two bricks share a cell. -/
def ovlP (l : List Ki) (ms : List Br) (m : Nat) : Prop := ∃ i j : Nat, i < j ∧ j < m ∧ ∃ c, c ∈ plB l ms i ∧ c ∈ plB l ms j
/-- Which of the first bricks have a cell. -/
def fB (l : List Ki) (ms : List Br) (k : Nat) (c : Ce) (x : Int) : Prop := ∃ i : Nat, i < k ∧ x = (i : Int) ∧ c ∈ plB l ms i
theorem ovl_step (l : List Ki) (ms : List Br) (k : Nat) : ovlP l ms (k + 1) ↔ ovlP l ms k ∨ ∃ c ∈ plB l ms k, ∃ x, fB l ms k c x := by
  constructor
  · rintro ⟨i, j, hij, hj, c, h1, h2⟩
    rcases Nat.lt_succ_iff_lt_or_eq.1 hj with h | rfl
    · exact .inl ⟨i, j, hij, h, c, h1, h2⟩
    · exact .inr ⟨c, h2, _, i, hij, rfl, h1⟩
  · rintro (⟨i, j, hij, hj, c, h1, h2⟩ | ⟨c, h2, x, i, hi, _, h1⟩)
    · exact ⟨i, j, hij, by omega, c, h1, h2⟩
    · exact ⟨i, k, hi, by omega, c, h1, h2⟩
theorem fB_step (l : List Ki) (ms : List Br) (k : Nat) (c : Ce) (x : Int) : fB l ms (k + 1) c x ↔ fB l ms k c x ∨ x = (k : Int) ∧ c ∈ plB l ms k := by
  constructor
  · rintro ⟨i, hi, rfl, h⟩
    rcases Nat.lt_succ_iff_lt_or_eq.1 hi with h1 | rfl
    · exact .inl ⟨i, h1, rfl, h⟩
    · exact .inr ⟨rfl, h⟩
  · rintro (⟨i, hi, rfl, h⟩ | ⟨rfl, h⟩)
    · exact ⟨i, by omega, rfl, h⟩
    · exact ⟨k, by omega, rfl, h⟩
theorem fB_zero (l : List Ki) (ms : List Br) (c : Ce) (x : Int) : ¬ fB l ms 0 c x := by
  rintro ⟨i, hi, _⟩
  omega
theorem ovl_zero (l : List Ki) (ms : List Br) : ¬ ovlP l ms 0 := by
  rintro ⟨i, j, _, hj, _⟩
  omega
theorem fB_small {l : List Ki} {ms : List Br} {k : Nat} {c : Ce} {x : Int} (h : fB l ms k c x) : 0 ≤ x ∧ x < k := by
  obtain ⟨i, hi, rfl, _⟩ := h
  omega
theorem mem_take_succ {α : Type} {l : List α} {j : Nat} (h : j < l.length) (c : α) : c ∈ l.take (j + 1) ↔ c ∈ l.take j ∨ c = l[j] := by
  have e := List.take_succ_eq_append_getElem h
  rw [e, List.mem_append, List.mem_singleton]
theorem nodup_take {α : Type} {l : List α} (hn : l.Nodup) {j : Nat} (h : j < l.length) : l[j] ∉ l.take j := by
  intro hm
  obtain ⟨i, hi, e⟩ := List.getElem_of_mem hm
  rw [List.length_take] at hi
  rw [List.getElem_take] at e
  have := (List.getElem_inj hn).1 e
  omega
theorem cells_at (qs : List Ce) {j : Nat} (h : j < qs.length) : (qs.map Ce.cells).flatten[j * 3]? = some (.int .i64 qs[j].x) ∧ (qs.map Ce.cells).flatten[j * 3 + 1]? = some (.int .i64 qs[j].y) ∧ (qs.map Ce.cells).flatten[j * 3 + 2]? = some (.int .i64 qs[j].z) := by
  have e : ∀ i, i < 3 → (qs.map Ce.cells).flatten[j * 3 + i]? = qs[j].cells[i]? := fun i hi => by
    induction qs generalizing j with
    | nil => simp at h
    | cons q t ih =>
      cases j with
      | zero => simp only [List.map_cons, List.flatten_cons, Nat.zero_mul, Nat.zero_add, List.getElem_cons_zero]; rw [List.getElem?_append_left (by simp [Ce.cells]; omega)]
      | succ j =>
        simp only [List.map_cons, List.flatten_cons, List.getElem_cons_succ]
        rw [List.getElem?_append_right (by simp [Ce.cells]; omega)]
        have := ih (j := j) (by simpa using h)
        rw [← this]
        congr 1
        simp [Ce.cells]
        omega
  exact ⟨by simpa [Ce.cells] using e 0 (by omega), by simpa [Ce.cells] using e 1 (by omega), by simpa [Ce.cells] using e 2 (by omega)⟩
end Go.Proofs.YtebkhdhhajjhfaaGreat.Lt

/- The order of pairs: Overlaps's closure. -/
namespace Go.Proofs.YtebkhdhhajjhfaaGreat.Lt
open Go.RowKit
set_option maxRecDepth 100000 in
set_option maxHeartbeats 1000000 in
theorem pair_ord (a b : Int × Int) (w : World) : Calls Tryz.prog 75 #[.agg #[.int .i64 a.1, .int .i64 a.2], .agg #[.int .i64 b.1, .int .i64 b.2]] w fun e w' => e = .returned (.int .i64 (cmpL [a.1, a.2] [b.1, b.2])) ∧ Grown w w' := by
  obtain ⟨a, b'⟩ := a
  obtain ⟨x, y⟩ := b
  have hW : Grown w ((w.alloc (.cells #[.int .i64 a, .int .i64 b'] 173)).alloc (.cells #[.int .i64 x, .int .i64 y] 173)) := ((Grown.refl w).alloc _).alloc _
  have ka : Row ((w.alloc (.cells #[.int .i64 a, .int .i64 b'] 173)).alloc (.cells #[.int .i64 x, .int .i64 y] 173)) (some ⟨w.heap.size, 0, none⟩) [.int .i64 a, .int .i64 b'] := Row.ext (row_heap (heap_alloc_new _ _)) ((Ext.refl _).alloc _)
  have kb : Row ((w.alloc (.cells #[.int .i64 a, .int .i64 b'] 173)).alloc (.cells #[.int .i64 x, .int .i64 y] 173)) (some ⟨w.heap.size + 1, 0, none⟩) [.int .i64 x, .int .i64 y] := by
    have h := heap_alloc_new (w.alloc (.cells #[.int .i64 a, .int .i64 b'] 173)) (.cells #[.int .i64 x, .int .i64 y] 173)
    rw [show (w.alloc (.cells #[.int .i64 a, .int .i64 b'] 173)).heap.size = w.heap.size + 1 by simp] at h
    exact row_heap h
  have cc := fun (w' : World) (h : Ext ((w.alloc (.cells #[.int .i64 a, .int .i64 b'] 173)).alloc (.cells #[.int .i64 x, .int .i64 y] 173)) w') => compare_any (some ⟨w.heap.size, 0, none⟩) (some ⟨w.heap.size + 1, 0, none⟩) 2 2 [a, b'] [x, y] w' (Row.ext ka h) (Row.ext kb h) rfl (by simp)
  have Cc := Lib.hid cc
  have HW := Lib.hid hW
  clear cc ka kb hW
  have s1 : ∀ (g : Nat) (w : World), (Instr.sliceAt 173 (.pointer (some ⟨g, 0, none⟩)) none none none).run Tryz.prog w = .ok (.slice (some ⟨g, 0, none⟩) 2 2) w := fun _ _ => by kernel_rfl
  simp only
  generalize cmpL [a, b'] [x, y] = R at *
  go_enter Tryz.func75, Tryz.ntmps75
  go_wp2
  generalize ((w.alloc (.cells #[.int .i64 a, .int .i64 b'] 173)).alloc (.cells #[.int .i64 x, .int .i64 y] 173)) = W at *
  refine Cg.wp_region_calm (p := growPre) (fr := (fun _ => false)) 4 (fun _ _ v _ => v = .int .i64 R) (fun _ _ _ _ _ _ h => h) (by kernel_rfl) (by kernel_rfl) ?_
  simp only [List.take_succ_cons, List.take_zero, List.drop_succ_cons, List.drop_zero]
  refine Cg.calm_quiet Cg.calm_mono_final W (fun _ h => Grown.ext h) 2 (by kernel_rfl) ?_
  simp only [List.take_succ_cons, List.take_zero, List.drop_succ_cons, List.drop_zero]
  repeat (go_big_quiet_step (fail))
  refine wpQuiet_nil ?_
  refine Cg.calm_call Cg.calm_mono_final 76 #[.slice (some ⟨w.heap.size, 0, none⟩) 2 2, .slice (some ⟨w.heap.size + 1, 0, none⟩) 2 2] rfl (fun w => ?_) (fun w he hF => ?_) ?_
  · go_simp
  · exact (Cc.out w (Grown.ext he)).mono fun e w'' ⟨he', hx⟩ => ⟨_, he', by rw [← hx]; exact Grown.refl _, rfl, fun h => by cases h⟩
  rintro _ _ _ rfl _
  simp only [Act.put, List.setIfInBounds_toArray, List.set_cons_succ, List.set_cons_zero]
  refine Cg.calm_quiet Cg.calm_mono_final W (fun _ h => Grown.ext h) 1 (by kernel_rfl) ?_
  simp only [List.take_succ_cons, List.take_zero, List.drop_succ_cons, List.drop_zero]
  repeat (go_big_quiet_step (fail))
  refine wpQuiet_nil ?_
  refine Cg.calm_nil fun w3 he3 _ => ?_
  have he3 : Grown W w3 := he3
  have H3 := Lib.hid he3
  clear he3
  go_wp2
  go_ret
  exact ⟨rfl, HW.out.trans H3.out⟩
end Go.Proofs.YtebkhdhhajjhfaaGreat.Lt

/- Overlaps: no pair exactly if no two bricks share a cell. -/
namespace Go.Proofs.YtebkhdhhajjhfaaGreat.Lt
open Go Go.RowKit Go.Maps Go.ChangeShapes
def ordP (p q : Int × Int) : Int := cmpL [p.1, p.2] [q.1, q.2]
theorem ordP_neg {p q : Int × Int} : ordP p q < 0 ↔ p.1 < q.1 ∨ p.1 = q.1 ∧ p.2 < q.2 := by
  have a1 := @cmpI_zero p.1 q.1
  have a2 := @cmpI_neg p.1 q.1
  have b1 := @cmpI_zero p.2 q.2
  have b2 := @cmpI_neg p.2 q.2
  unfold ordP
  simp only [cmpL]
  split
  · split <;> omega
  · omega
theorem swo_pair : Go.Sort.SWO (ltOf ordP) where
  irrefl x := by
    unfold ltOf
    exact decide_eq_false fun h => by have := ordP_neg.1 h; omega
  trans x y z h1 h2 := by
    unfold ltOf at *
    have h1 := ordP_neg.1 (of_decide_eq_true h1)
    have h2 := ordP_neg.1 (of_decide_eq_true h2)
    exact decide_eq_true (ordP_neg.2 (by omega))
  ntrans x y z h1 h2 := by
    unfold ltOf at *
    have h1 := mt ordP_neg.2 (of_decide_eq_false h1)
    have h2 := mt ordP_neg.2 (of_decide_eq_false h2)
    exact decide_eq_false fun h => by have := ordP_neg.1 h; omega
/-- Sorting pairs: in the call's own row. -/
theorem sort_pairs (v : Value) (ps : List (Int × Int)) (w0 w : World) (h : Own w0 w 173 2 v ps.length (ps.map fun p => [Value.int .i64 p.1, Value.int .i64 p.2]).flatten) (hl : ps.length ≤ 100000000) : Calls Tryz.prog 74 #[v, .func (.func 75) #[] #[]] w fun e w' => e = .returned (.tuple #[]) ∧ Ext w0 w' := by
  have hk : ∀ x : Int × Int, [Value.int .i64 x.1, Value.int .i64 x.2].length = 2 := fun _ => rfl
  by_cases hn : 0 < ps.length
  · obtain ⟨g, cap, rfl, _, _⟩ := h.at_ hn
    have h : Own w0 w 173 2 (.slice (some ⟨g, 0, none⟩) ps.toArray.size cap) ps.toArray.size (ps.toArray.toList.map fun p => [Value.int .i64 p.1, Value.int .i64 p.2]).flatten := h
    have eg : ∀ args w, (callFunc 75 args).run Tryz.prog w = .ok (.enter 75 args) w := Go.Proofs.enters_of Tryz.func75 (by kernel_rfl) rfl
    have hcon := AnyQ.slices_SortFunc sortPairsL 2 Tryz.isAgg173 Tryz.sizeOf173 (fun p : Int × Int => [Value.int .i64 p.1, Value.int .i64 p.2]) hk (fun x v hv => by simp at hv; rcases hv with rfl | rfl <;> rfl) ordP swo_pair 75 #[] g 0 cap ps.toArray w eg (fun _ _ _ _ x y => pair_ord x y _) (own_holds hk h) (World.ownsRow.lt h.2 g rfl).2 (by simp; omega)
    refine Calls.mono hcon ?_
    rintro e w' ⟨rfl, d', m, os, hp, _, rfl⟩
    exact ⟨rfl, (own_sorted hk h hp.1).ext⟩
  · have h0 : ps.length = 0 := by omega
    have hx := h.1
    obtain ⟨p, cap, rfl⟩ : ∃ p cap, v = .slice p 0 cap := by
      rcases h.2.2 with ⟨rfl, _⟩ | ⟨g, cap, cur, rfl, _⟩
      · exact ⟨none, 0, rfl⟩
      · exact ⟨_, cap, by rw [h0]⟩
    exact (AnyF.slices_SortFunc_none sortPairsL p cap _ w).mono fun _ _ ⟨e, hw⟩ => ⟨e, hw ▸ hx⟩
end Go.Proofs.YtebkhdhhajjhfaaGreat.Lt
