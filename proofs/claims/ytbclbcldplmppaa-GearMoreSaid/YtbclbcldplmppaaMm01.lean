/- Arguments of the laws, opened: a mesh; a number of 16 bits. -/
import Derived.Maps.AppendAt
import Derived.Test.YtbclbcldplmppaaMx01
namespace Go.Proofs.Ytbclbcldplmppaa
open Go.ChangeShapes Go.WideShapes Go.ChangeAt Go.RowKit Go.Deep

section
variable {H : Type} {enc : TypeId × Value → H} {w : World} {base : Nat} {held : Bool}
theorem open_fields {P : Program} {r : Reach} {b0 : Nat} {spare : Nat → Bool} {t : TypeId} {fs : Array Field} {v : Value} {d : DataW H} {p : List MemPlace} (hs : P.underlying t = some (.struct fs)) (hone : oneCellFields P fs = true) (hC : P.cellsOf t = fs.size)
    (hv : Value.okWide P w r b0 t v) (h : DataW.Trod enc P w base spare held t v d p) :
    ∃ (cs : Array Value) (n : Nat), v = .agg cs ∧ cs.size = fs.size ∧ ∀ (j : Nat) (f : Field), fs[j]? = some f → ∃ (u : Value) (y : DataW H × List MemPlace), cs[j]? = some u ∧ DataW.trod enc P w base spare held n f.type [u] = some y := by
  obtain ⟨cs, rfl, hsz⟩ := okWide_struct hs hv
  obtain ⟨fuel, hf⟩ := h
  obtain ⟨ys, n, _, _, hlen, hyl, hfl⟩ := DataW.trod_struct hs hf
  have hsz' : cs.size = fs.size := hsz.trans hC
  refine ⟨cs, n, rfl, hsz', fun j f hj => ?_⟩
  obtain ⟨ho, hk⟩ := hone_of hone j f hj
  have hjl : j < fs.size := (Array.getElem?_eq_some_iff.1 hj).1
  have h1 := hfl j f hj
  rw [ho, hk] at h1
  have hcl : (Value.cells (.agg cs)).toList = cs.toList := rfl
  rw [hcl] at h1
  have hone' : (cs.toList.drop j).take 1 = [cs[j]'(by omega)] := by
    rw [List.drop_eq_getElem_cons (by simp; omega)]
    simp
  rw [hone'] at h1
  have hys : ys[j]? = some (ys[j]'(by omega)) := List.getElem?_eq_getElem (by omega)
  exact ⟨_, _, Array.getElem?_eq_getElem (by omega), h1.trans hys⟩
theorem array6 {α : Type} {cs : Array α} (h : cs.size = 6) : ∃ c0 c1 c2 c3 c4 c5, cs = #[c0, c1, c2, c3, c4, c5] := by
  obtain ⟨l⟩ := cs
  match l, h with
  | [c0, c1, c2, c3, c4, c5], _ => exact ⟨c0, c1, c2, c3, c4, c5, rfl⟩
set_option maxRecDepth 100000 in
theorem arg_mesh {r : Reach} {b0 : Nat} {v : Value} {d : DataW H} {p : List MemPlace} (hv : Value.okWide Try.prog w r b0 57 v) (h : DataW.Trod enc Try.prog w base (fun _ => true) held 57 v d p) :
    ∃ x : Msh, v = x.val ∧ True := by
  obtain ⟨cs, n, rfl, hsz, hf⟩ := open_fields Try.underlying57 (by kernel_rfl) (by kernel_rfl) hv h
  obtain ⟨c0, c1, c2, c3, c4, c5, rfl⟩ := array6 hsz
  obtain ⟨v0, y0, e0, h0⟩ := hf 0 _ rfl
  obtain ⟨v1, y1, e1, h1⟩ := hf 1 _ rfl
  obtain ⟨v2, y2, e2, h2⟩ := hf 2 _ rfl
  obtain ⟨v3, y3, e3, h3⟩ := hf 3 _ rfl
  obtain ⟨v4, y4, e4, h4⟩ := hf 4 _ rfl
  obtain ⟨v5, y5, e5, h5⟩ := hf 5 _ rfl
  obtain ⟨x0, rfl⟩ := u8_of h0
  obtain ⟨x1, rfl, _⟩ := int_of h1
  obtain ⟨x2, rfl, _⟩ := int_of h2
  obtain ⟨x3, rfl, _⟩ := int_of h3
  obtain ⟨x4, rfl, _⟩ := int_of h4
  obtain ⟨x5, rfl, _⟩ := int_of h5
  obtain rfl : c0 = .int .u8 x0 := by injection e0
  obtain rfl : c1 = .int .i64 x1 := by injection e1
  obtain rfl : c2 = .int .i64 x2 := by injection e2
  obtain rfl : c3 = .int .i64 x3 := by injection e3
  obtain rfl : c4 = .int .i64 x4 := by injection e4
  obtain rfl : c5 = .int .i64 x5 := by injection e5
  exact ⟨⟨x0, x1, x2, x3, x4, x5⟩, rfl, trivial⟩
end
end Go.Proofs.Ytbclbcldplmppaa

/- One mesh more: the list that the law makes. -/
namespace Go.Proofs.Ytbclbcldplmppaa
open Go.RowKit

def keptO (x : Msh) : List Obj := [.cells #[] 57, .cells x.cells.toArray 57, .cells #[.int .i64 0, .slice none 0 0] 41]
/-- A growth under which the lists so far stay. -/
structure GrM (b : Nat) (xs : List Msh) (x : Msh) (w w' : World) : Prop where
  low : Below b w w'
  kept : ∀ (k : Nat) (o : Obj), o ∈ keptO x → w.heap[k]? = some o → w'.heap[k]? = some o
  own : ∀ (v : Value) (n : Nat) (ys : List Value), (n = xs.length ∧ ys = cellsL xs ∨ n = xs.length + 1 ∧ ys = cellsL (xs ++ [x])) → w.ownsRow b 57 6 v n ys → w'.ownsRow b 57 6 v n ys
def grmPre (b : Nat) (xs : List Msh) (x : Msh) : Cf.Pre where
  R := GrM b xs x
  refl _ := ⟨Below.refl _ _, fun _ _ _ h => h, fun _ _ _ _ h => h⟩
  trans h k := ⟨Below.trans h.low k.low, fun i o ho hh => k.kept i o ho (h.kept i o ho hh), fun v n ys hn ho => k.own v n ys hn (h.own v n ys hn ho)⟩
  drawn h _ := ⟨⟨h.low.os, h.low.tape, h.low.output, h.low.size, h.low.block⟩, fun i o ho hh => h.kept i o ho hh, fun v m ys hn ho => h.own v m ys hn ho⟩
  size h := h.low.size
theorem GrM.of_ext {b : Nat} {xs : List Msh} {x : Msh} {w w' : World} (h : Ext w w') (hb : b ≤ w.heap.size) : GrM b xs x w w' :=
  ⟨Below.mono h hb, fun _ _ _ hh => h.heap hh, fun _ _ _ _ ho => h.owns ho⟩
theorem GrM.ext {xs : List Msh} {x : Msh} {w w' : World} (h : GrM w.heap.size xs x w w') : Ext w w' := h.low

set_option maxRecDepth 100000 in
theorem app_one {w : World} {b : Nat} {v : Value} {xs : List Msh} {x : Msh} {bs c : Nat} (ty : TypeId) (hown : w.ownsRow b 57 6 v xs.length (cellsL xs)) (h0 : xs.length = 0 → ∃ g, v = .slice (some ⟨g, 0, none⟩) 0 0)
    (hx : w.heap[bs]? = some (.cells x.cells.toArray 57)) (hn : xs.length ≤ 1000) (hb : b ≤ w.heap.size) :
    ∃ v' w', (Builtin.append_ #[39, 39] ty #[v, .slice (some ⟨bs, 0, none⟩) 1 c]).run Try.prog w = .ok v' w' ∧ w'.ownsRow b 57 6 v' (xs.length + 1) (cellsL (xs ++ [x])) ∧ GrM b xs x w w' := by
  obtain ⟨i, hi, hz0, hz1, hz2⟩ := mesh_elem.info
  have hc6 : x.cells.length = 6 := by simp [Msh.cells]
  have happ : cellsL (xs ++ [x]) = cellsL xs ++ x.cells := by simp [cellsL]
  have hnews : ∀ j u, x.cells[j]? = some u → w.cell? ((⟨bs, 0, none⟩ : Addr).add j) = some u := fun j u hj => by
    rw [add_zero', cell_heap hx, List.getElem?_toArray]
    exact hj
  have hone : ∀ u ∈ x.cells, u.oneCell' = true := fun u hu => by
    simp [Msh.cells] at hu
    rcases hu with rfl | rfl | rfl | rfl | rfl | rfl <;> rfl
  have h63 : xs.length + 1 ≤ maxLen := by unfold maxLen; omega
  obtain ⟨v', w', hr, o1, o2, _, o4⟩ := run_append_own_at (P := Try.prog) w b 39 ty 57 i _ 6 _ Try.underlying39 hi hz0 hz1 hz2 mesh_elem.zs mesh_elem.pos v xs.length (cellsL xs) hown ⟨bs, 0, none⟩ 1 c x.cells (by rw [hc6]) hnews hone h63 (by omega) hb
  rw [← happ] at o1
  refine ⟨v', w', hr, o1, ?_⟩
  rcases hown.2 with ⟨rfl, hz⟩ | ⟨g, cap, cur, rfl, hbg, hg, hnc, hcm, hcs, htake⟩
  · obtain ⟨g, e⟩ := h0 hz
    cases e
  · have hglt : g < w.heap.size := (Array.getElem?_eq_some_iff.1 hg).1
    by_cases hroom : xs.length + 1 ≤ cap
    · have hn1 : 1 ≤ xs.length := by
        refine Nat.one_le_iff_ne_zero.2 fun e => ?_
        obtain ⟨g', e'⟩ := h0 e
        simp only [Value.slice.injEq] at e'
        omega
      have hr2 := run_append_room (P := Try.prog) w 39 ty 57 i Try.underlying39 hi g xs.length cap cur hg ⟨bs, 0, none⟩ 1 c x.cells (by rw [hz1, hc6]) hnews hone hroom (by rw [hz1, hcs, hc6]; omega)
      rw [hr] at hr2
      injection hr2 with e1 e2
      have hnew : w'.heap[g]? = some (.cells (cur.toList.take (xs.length * 6) ++ x.cells ++ cur.toList.drop (xs.length * 6 + 6)).toArray 57) := by
        rw [e2, hz1, hc6]
        exact setRow_heap w g cur _ _ _ hg
      have hoth : ∀ k, k < w.heap.size → k ≠ g → w'.heap[k]? = w.heap[k]? := fun k hk hne => o2.block k hk fun e => hne (Option.some.inj e)
      refine ⟨⟨o2.os, o2.tape, o2.output, o2.size, fun k hk => hoth k (by omega) (by omega)⟩, fun k o ho hh => ?_, fun v2 n2 ys hny ho => ?_⟩
      · by_cases e : k = g
        · subst e
          rw [hg] at hh
          injection hh with hh
          simp only [keptO, List.mem_cons, List.not_mem_nil, or_false] at ho
          rcases ho with rfl | rfl | rfl
          · injection hh with h1 _
            rw [h1] at hcs
            simp at hcs
            omega
          · injection hh with h1 _
            rw [h1] at hcs
            simp [hc6] at hcs
            omega
          · injection hh with _ h1
            exact absurd h1 (by decide)
        · rw [hoth k (Array.getElem?_eq_some_iff.1 hh).1 e]; exact hh
      · refine ⟨ho.1, ?_⟩
        rcases ho.2 with h | ⟨g2, cap2, cur2, rfl, hbg2, hg2, hnc2, hcm2, hcs2, htake2⟩
        · exact .inl h
        · refine .inr ?_
          by_cases e : g2 = g
          · subst e
            rw [hg] at hg2
            injection hg2 with hg2
            injection hg2 with h1 _
            subst h1
            refine ⟨g2, cap2, _, rfl, hbg2, hnew, hnc2, hcm2, ?_, ?_⟩
            · simp only [List.size_toArray, List.length_append, List.length_take, List.length_drop, Array.length_toList, hc6]
              omega
            · have hl0 : (cur.toList.take (xs.length * 6)).length = xs.length * 6 := by simp; omega
              rcases hny with ⟨rfl, rfl⟩ | ⟨rfl, rfl⟩
              · rw [htake, List.append_assoc]
                have hlx : (cellsL xs).length = xs.length * 6 := cellsL_len xs
                rw [← hlx]
                exact List.take_left
              · rw [htake, happ]
                have hlx : (cellsL xs ++ x.cells).length = (xs.length + 1) * 6 := by rw [List.length_append, cellsL_len, hc6]; omega
                rw [← hlx]
                exact List.take_left
          · exact ⟨g2, cap2, cur2, rfl, hbg2, (hoth g2 (Array.getElem?_eq_some_iff.1 hg2).1 e).trans hg2, hnc2, hcm2, hcs2, htake2⟩
    · have holds : ∀ j u, (cellsL xs)[j]? = some u → w.cell? ((⟨g, 0, none⟩ : Addr).add j) = some u := hown.cells (g := g) rfl
      have hr2 := run_append_grow (P := Try.prog) w 39 ty 57 i _ Try.underlying39 hi hz0 ⟨g, 0, none⟩ xs.length cap (cellsL xs) (by rw [hz1]; exact hown.1) holds ⟨bs, 0, none⟩ 1 c x.cells (by rw [hz1, hc6]) hnews (by omega) (by omega) (by rw [hz2]; exact growslice_fits (by omega) (by omega))
      rw [hr] at hr2
      injection hr2 with e1 e2
      subst e2
      exact GrM.of_ext (by simp) hb
/-- The first append: a list, copied. -/
theorem app_copy {w : World} {base b c : Nat} {B : Option Addr} {ms : List Msh} (ty : TypeId) (hb : w.heap[b]? = some (.cells #[] 57)) (hbb : base ≤ b) (hB : MRow w B ms) (hl : ms.length ≤ 1000) :
    ∃ v' w', (Builtin.append_ #[39, 39] ty #[.slice (some ⟨b, 0, none⟩) 0 0, .slice B ms.length c]).run Try.prog w = .ok v' w' ∧ Ext w w' ∧ w'.ownsRow base 57 6 v' ms.length (cellsL ms) ∧ (ms.length = 0 → ∃ g, v' = .slice (some ⟨g, 0, none⟩) 0 0) := by
  have hblt : b < w.heap.size := (Array.getElem?_eq_some_iff.1 hb).1
  have hown0 : w.ownsRow base 57 6 (.slice (some ⟨b, 0, none⟩) 0 0) 0 [] := ⟨by simp, .inr ⟨b, 0, #[], rfl, hbb, hb, by omega, by unfold maxLen; omega, by simp, by simp⟩⟩
  by_cases h0 : ms.length = 0
  · have hms : ms = [] := List.eq_nil_of_length_eq_zero h0
    subst hms
    obtain ⟨i, hi, hz0, hz1, hz2⟩ := mesh_elem.info
    have hs : Src Try.prog i.size 39 (.slice B 0 c) 0 [] w := by
      cases B with
      | none => exact Src.ofNil w Try.underlying39 c
      | some a => exact Src.ofSlice w Try.underlying39 a _ c _ (by simp) (fun j u hu => by simp at hu) (fun u hu => by simp at hu)
    exact ⟨_, w, run_append_nothing w 39 39 ty 57 i Try.underlying39 hi _ 0 0 (Nat.le_refl _) _ hs, Ext.refl _, hown0, fun _ => ⟨b, rfl⟩⟩
  · obtain ⟨i, hi, hz0, hz1, hz2⟩ := mesh_elem.info
    have hlen := cellsL_len ms
    obtain ⟨ad, rfl, _⟩ := hB 0 (by show 0 < (cellsL ms).length; omega)
    have hnews : ∀ j u, (cellsL ms)[j]? = some u → w.cell? (ad.add j) = some u := fun j u hu => by
      obtain ⟨ad', e, hc⟩ := hB j (List.getElem?_eq_some_iff.1 hu).1
      cases Option.some.inj e
      exact hc.trans hu
    have hone : ∀ u ∈ cellsL ms, u.oneCell' = true := fun u hu => by
      obtain ⟨r, hr, hur⟩ := List.mem_flatten.1 hu
      obtain ⟨x, _, rfl⟩ := List.mem_map.1 hr
      simp [Msh.cells] at hur
      rcases hur with rfl | rfl | rfl | rfl | rfl | rfl <;> rfl
    obtain ⟨v', w', hr, o1, o2, _, o4⟩ := run_append_own_at (P := Try.prog) w base 39 ty 57 i _ 6 _ Try.underlying39 hi hz0 hz1 hz2 mesh_elem.zs mesh_elem.pos _ 0 [] hown0 ad ms.length c (cellsL ms) hlen hnews hone (by unfold maxLen; omega) (by omega) (by omega)
    rw [Nat.zero_add, List.nil_append] at o1
    have holds : ∀ j u, ([] : List Value)[j]? = some u → w.cell? ((⟨b, 0, none⟩ : Addr).add j) = some u := fun j u hu => by simp at hu
    have hr2 := run_append_grow (P := Try.prog) w 39 ty 57 i _ Try.underlying39 hi hz0 ⟨b, 0, none⟩ 0 0 [] (by simp) holds ad ms.length c (cellsL ms) (by rw [hz1]; exact hlen) hnews (by omega) (by omega) (by rw [hz2]; exact growslice_fits (by omega) (by omega))
    rw [hr] at hr2
    injection hr2 with e1 e2
    subst e2
    exact ⟨v', _, hr, by simp, o1, fun h => absurd h h0⟩
end Go.Proofs.Ytbclbcldplmppaa

/- One mesh more. Plain Lean. -/
namespace Go.Proofs.Ytbclbcldplmppaa

/-- One row more: the rank stays, or grows by 1. -/
theorem rkF_snoc (m n : Nat) (L : Nat → Nat → Int) (e : Nat → Int) : rkF m n L ≤ rkF (m + 1) n (snocF m L e) ∧ rkF (m + 1) n (snocF m L e) ≤ rkF m n L + 1 := by
  obtain ⟨σ, pv, M, d, h⟩ := solved_exists (augF n L) n m (List.range n) (fun c hc => List.mem_range.1 hc)
  have hb := h.basis fun c hc => List.mem_range.2 hc
  have hk := hb.rkF
  have h0 := rkF_is m n L
  have h1 := rkF_is (m + 1) n (snocF m L e)
  generalize rkF (m + 1) n (snocF m L e) = k1 at *
  constructor
  · refine Nat.le_of_not_lt fun hlt => ?_
    obtain ⟨V, R, v1, v2, v3, v4, v5⟩ := h0.ex
    refine v5 (h1.no V R (fun v hv => ?_) (by omega) v4)
    obtain ⟨x, hx, rfl⟩ := fam_mem.1 (v1 v hv)
    exact fam_mem.2 ⟨x, by omega, snocF_lt hx⟩
  · refine Nat.le_of_not_lt fun hlt => ?_
    obtain ⟨V, R, v1, v2, v3, v4, v5⟩ := h1.ex
    rw [hk] at hlt
    have := D_span_fam primeLike_zero (n := n) (cnt := (colsP pv).length + 1) (Y := snocF (colsP pv).length (fun i => M (σ i)) e) V R v4 (fun v hv => by
      obtain ⟨x, hx, rfl⟩ := fam_mem.1 (v1 v hv)
      refine ⟨d, by rw [Int.zero_dvd]; exact hb.hd, ?_⟩
      by_cases hxa : x = m
      · subst hxa; rw [snocF_at]
        have := InSpan.mem (m := 0) (n := n) (cnt := (colsP pv).length + 1) (Y := snocF (colsP pv).length (fun i => M (σ i)) e) (k := (colsP pv).length) (by omega)
        rw [snocF_at] at this
        have := this.comb this d 0
        exact this.congr fun j _ => by rw [Int.zero_mul, Int.add_zero, Int.sub_self]; exact Int.dvd_zero _
      · rw [snocF_lt (by omega)]
        exact (hb.hA x (by omega)).more (by omega) fun y hy => snocF_lt hy) (by omega)
    rw [Int.zero_dvd] at this
    exact v5 this

section
variable {ms : List Msh} {x : Msh} {S : Nat}
theorem lineI_app {k : Nat} (h : k < ms.length) : lineI (ms ++ [x]) S k = lineI ms S k := by
  rw [lineI_eq h, lineI_eq (by simp; omega), List.getElem_append_left h]
theorem gearL_app {k : Nat} (h : k < ms.length) : gearL (ms ++ [x]) S k = gearL ms S k := by
  funext j
  unfold gearL
  rw [lineI_app h]
theorem gearL_snoc {k : Nat} (h : k < ms.length + 1) : gearL (ms ++ [x]) S k = snocF ms.length (gearL ms S) (gearL (ms ++ [x]) S ms.length) k := by
  by_cases e : k = ms.length
  · subst e; rw [snocF_at]
  · rw [snocF_lt (by omega)]; exact gearL_app (by omega)
theorem rk_app : rkF (ms ++ [x]).length S (gearL (ms ++ [x]) S) = rkF (ms.length + 1) S (snocF ms.length (gearL ms S) (gearL (ms ++ [x]) S ms.length)) := by
  rw [List.length_append, List.length_singleton]
  refine rkF_eq ?_
  have e : fam (ms.length + 1) (gearL (ms ++ [x]) S) = fam (ms.length + 1) (snocF ms.length (gearL ms S) (gearL (ms ++ [x]) S ms.length)) :=
    List.map_congr_left fun k hk => gearL_snoc (List.mem_range.1 hk)
  rw [e]
  exact rkF_is _ _ _
theorem trainP_app {s : Int} (h : trainP s (ms ++ [x])) : trainP s ms := by
  obtain ⟨h1, h2, h3, h4⟩ := h
  simp only [List.length_append, List.length_singleton] at h3
  refine ⟨h1, h2, by omega, fun k hk => ?_⟩
  have := h4 k (by simp; omega)
  rwa [List.getElem_append_left hk] at this
/-- The number of free motions is lessened by at most 1. -/
theorem free_app {s : Int} (h : trainP s (ms ++ [x])) : freeS s (ms ++ [x]) ≤ freeS s ms ∧ freeS s ms - 1 ≤ freeS s (ms ++ [x]) ∧ 0 ≤ freeS s ms ∧ freeS s ms ≤ 8 ∧ 0 ≤ freeS s (ms ++ [x]) ∧ freeS s (ms ++ [x]) ≤ 8 := by
  have h' := trainP_app h
  unfold freeS
  have t1 : trainB s (ms ++ [x]) = true := decide_eq_true h
  have t2 : trainB s ms = true := decide_eq_true h'
  rw [if_pos t1, if_pos t2, rk_app]
  have := rkF_snoc ms.length s.toNat (gearL ms s.toNat) (gearL (ms ++ [x]) s.toNat ms.length)
  have h8 := h.2.1
  have h1 := h.1
  have l1 := (rkF_is ms.length s.toNat (gearL ms s.toNat)).le
  have l2 := (rkF_is (ms.length + 1) s.toNat (snocF ms.length (gearL ms s.toNat) (gearL (ms ++ [x]) s.toNat ms.length))).le
  omega
theorem getI_app {F : List Int} {z : Int} {y : Nat} (h : y < F.length) : getI (F ++ [z]) y = getI F y := by
  unfold getI
  rw [List.getElem?_append_left h]
theorem sumT_app {F : List Int} (hF : F.length = ms.length) (k : Nat) : ∀ i, i ≤ ms.length → sumT (F ++ [0]) (gearL (ms ++ [x]) S) i k = sumT F (gearL ms S) i k
  | 0, _ => rfl
  | i + 1, h => by
    rw [sumT, sumT, sumT_app hF k i (by omega), getI_app (by omega), gearL_app (by omega)]
theorem sumT_more {F : List Int} (hF : F.length = ms.length) (k : Nat) : sumT (F ++ [0]) (gearL (ms ++ [x]) S) (ms ++ [x]).length k = sumT F (gearL ms S) ms.length k := by
  rw [List.length_append, List.length_singleton, sumT, sumT_app hF k ms.length (Nat.le_refl _)]
  have : getI (F ++ [0]) ms.length = 0 := by unfold getI; rw [← hF]; simp
  rw [this, Int.zero_mul, Int.add_zero]
theorem jamPr.more {i : Nat} {F M T : List Int} (h : jamPr (gearL ms S) ms.length S i F M T) : jamPr (gearL (ms ++ [x]) S) (ms ++ [x]).length S i (F ++ [0]) M T := by
  obtain ⟨⟨h1, h1'⟩, h2, h3, h4, h5⟩ := h
  refine ⟨⟨by simp [h1], fun y hy => ?_⟩, h2, h3, fun k hk hki => ?_, ?_⟩
  · rcases List.mem_append.1 hy with h | h
    · exact h1' y h
    · simp at h; omega
  · rw [sumT_more h1]; exact h4 k hk hki
  · rw [sumT_more h1]; exact h5
theorem movesP.less {y : List Int} (h : movesP (gearL (ms ++ [x]) S) (ms ++ [x]).length S y) : movesP (gearL ms S) ms.length S y :=
  ⟨h.1, fun i hi => by
    have := h.2 i (by simp; omega)
    rwa [gearL_app hi] at this⟩
theorem loosePr.less {i o : Nat} {F M T : List Int} (h : loosePr (gearL (ms ++ [x]) S) (ms ++ [x]).length S i o F M T) : loosePr (gearL ms S) ms.length S i o F M T :=
  ⟨h.1, h.2.1.less, h.2.2.1.less, h.2.2.2⟩
theorem ratPr.more {i o : Nat} {num den num' den' : Int} {F M T F' M' T' : List Int} (h : ratPr (gearL ms S) ms.length S i o num den F M T) (h' : ratPr (gearL (ms ++ [x]) S) (ms ++ [x]).length S i o num' den' F' M' T') (hi : i < S) (ho : o < S) : num = num' ∧ den = den' := by
  have hM := h'.2.2.1
  have hpos := h'.2.2.2.1
  have t1 := h.turns hi ho hM.less.2
  have t2 := h'.turns hi ho hM.2
  have d1 := h.2.2.2.2.1
  have d2 := h'.2.2.2.2.1
  have g1 := h.2.2.2.2.2.1
  have g2 := h'.2.2.2.2.2.1
  generalize getI M' i = A at *
  generalize getI M' o = B at *
  refine lowest_eq d1 d2 g1 g2 ?_
  have e : A * (num * den') = A * (num' * den) := by
    calc A * (num * den') = (A * num) * den' := by rw [Int.mul_assoc]
      _ = (B * den) * den' := by rw [t1]
      _ = (B * den') * den := by rw [Int.mul_assoc, Int.mul_comm den den', Int.mul_assoc]
      _ = (A * num') * den := by rw [t2]
      _ = A * (num' * den) := by rw [Int.mul_assoc]
  exact Int.eq_of_mul_eq_mul_left (by omega) e
end
end Go.Proofs.Ytbclbcldplmppaa

/- GearMore: the law's own walk. -/
namespace Go.Proofs.Ytbclbcldplmppaa
open Go.RowKit

/-- How the answers for two trains hang together. -/
theorem more_rel {s : Int} {ms : List Msh} {x : Msh} {i o num den num' den' : Int} (ht : trainP s (ms ++ [x])) (h : RF s ms i o num den) (h' : RF s (ms ++ [x]) i o num' den') :
    (verdE s ms i o = 41 ∧ verdE s (ms ++ [x]) i o = 41) ∨ (verdE s ms i o = 0 ∧ verdE s (ms ++ [x]) i o = 41) ∨ (verdE s ms i o = 0 ∧ verdE s (ms ++ [x]) i o = 0 ∧ num' = num ∧ den' = den) ∨
    (verdE s ms i o = 2 ∧ verdE s (ms ++ [x]) i o = 2) ∨ (¬ verdE s ms i o = 41 ∧ ¬ verdE s ms i o = 0 ∧ ¬ verdE s ms i o = 2) := by
  have ht0 := trainP_app ht
  have hb1 : trainB s ms = true := decide_eq_true ht0
  have hb2 : trainB s (ms ++ [x]) = true := decide_eq_true ht
  by_cases hin : ∀ z ∈ [i, o], 0 ≤ z ∧ z < s
  · have hz : askE s ms [i, o] = 0 := askE_ok hb1 hin
    have hz' : askE s (ms ++ [x]) [i, o] = 0 := askE_ok hb2 hin
    obtain ⟨S, I, O, rfl, rfl, rfl, hi, ho, _⟩ := ask_two hz
    obtain ⟨F, M, T, h⟩ := h
    obtain ⟨F', M', T', h'⟩ := h'
    rcases h with ⟨h, _⟩ | ⟨_, ⟨hv, _, _, hp⟩ | ⟨hv, _⟩ | ⟨hv, hp⟩⟩
    · exact absurd hz h
    · refine .inl ⟨hv, ?_⟩
      simp only [Int.toNat_natCast] at hp
      exact (ratOk.of_jam h' hz' (F' := F ++ [0]) (M' := M) (T' := T) (by simpa using jamPr.more (x := x) hp)).1
    · exact .inr (.inr (.inr (.inr ⟨by omega, by omega, by omega⟩)))
    · simp only [Int.toNat_natCast] at hp
      rcases h' with ⟨h', _⟩ | ⟨_, ⟨hv', _⟩ | ⟨_, _, _, hp'⟩ | ⟨hv', hp'⟩⟩
      · exact absurd hz' h'
      · exact .inr (.inl ⟨hv, hv'⟩)
      · simp only [Int.toNat_natCast] at hp'
        exact (ratio_no_loose hp hp'.less hi ho).elim
      · simp only [Int.toNat_natCast] at hp'
        obtain ⟨e1, e2⟩ := hp.more hp' hi ho
        exact .inr (.inr (.inl ⟨hv, hv', e1.symm, e2.symm⟩))
  · have h2 : ∀ ms' : List Msh, trainB s ms' = true → verdE s ms' i o = 2 := fun ms' hb => by
      have : askE s ms' [i, o] = 2 := by unfold askE; rw [if_pos hb, if_neg hin]
      unfold verdE
      rw [if_neg (by omega), this]
    exact .inr (.inr (.inr (.inl ⟨h2 _ hb1, h2 _ hb2⟩)))

set_option maxRecDepth 100000 in
set_option maxHeartbeats 8000000 in
theorem more_law (A : Option Addr) (c : Nat) (s : Int) (ms : List Msh) (x : Msh) (i o : Int) (w : World) (hA : MRow w A ms) :
    Calls Try.prog 8 #[.agg #[.int .i64 s, .slice A ms.length c], x.val, .int .i64 i, .int .i64 o] w fun e w' => e = .returned (.bool true) ∧ Ext w w' := by
  have hg := fun (w' : World) => great_any A c ms.length s w'
  obtain ⟨xk, xa, xb, xc, xn, xm⟩ := x
  show Calls Try.prog 8 #[.agg #[.int .i64 s, .slice A ms.length c], .agg #[.int .u8 xk, .int .i64 xa, .int .i64 xb, .int .i64 xc, .int .i64 xn, .int .i64 xm], .int .i64 i, .int .i64 o] w _
  by_cases g1 : 30 < ms.length
  · have e1 : decide ((30 : Int) < (ms.length : Int)) = true := by simp; omega
    rw [e1] at hg
    have Hg := Lib.hid hg
    clear hg hA e1
    generalize ms.length = m at *
    go_enter Try.func8, Try.ntmps8
    have t0 : ∀ w', Ext ((w.alloc (.cells #[.int .i64 s, .slice A m c] 41)).alloc (.cells #[.int .u8 xk, .int .i64 xa, .int .i64 xb, .int .i64 xc, .int .i64 xn, .int .i64 xm] 57)) w' → w'.cell? ⟨w.heap.size, 0, none⟩ = some (.int .i64 s) := fun w' he => cells_one rfl w' (Ext.trans ((Ext.refl _).alloc _) he)
    have t1 : ∀ w', Ext ((w.alloc (.cells #[.int .i64 s, .slice A m c] 41)).alloc (.cells #[.int .u8 xk, .int .i64 xa, .int .i64 xb, .int .i64 xc, .int .i64 xn, .int .i64 xm] 57)) w' → w'.cell? ⟨w.heap.size, 1, none⟩ = some (.slice A m c) := fun w' he => cells_one rfl w' (Ext.trans ((Ext.refl _).alloc _) he)
    (repeat (first
      | (go_at_call 43; refine (alive_any _).mono ?_; rintro e w1 ⟨rfl, hx1⟩; have b1 := hx1; simp only [])
      | (go_at_call 21; refine (Hg.out _).mono ?_; rintro e w2 ⟨rfl, hx2⟩; have b2 := b1.trans hx2; simp only [])
      | go_values | go_skip | go_guarded | go_step | go_upon))
    go_ret
    exact ⟨rfl, Ext.trans (((Ext.refl w).alloc _).alloc _) b2⟩
  have e1 : decide ((30 : Int) < (ms.length : Int)) = false := by simp; omega
  rw [e1] at hg
  have Hg := Lib.hid hg
  clear hg e1
  have hl : ms.length ≤ 30 := by omega
  have hA' := fun (w' : World) (he : Ext w w') => hA.ext he
  have HA := Lib.hid hA'
  have hrf := ratio_rf A c s i o ms w hA (by omega)
  have cfr := fun (w' : World) (he : Ext w w') => free_any A c s ms w' (hA.ext he) (by omega)
  have Cfr := Lib.hid cfr
  clear hA' hA g1 cfr
  obtain ⟨num, den, frf, crat⟩ := hrf
  have Crat := Lib.hid crat
  clear crat
  obtain ⟨m, hm⟩ : ∃ m, m = ms.length := ⟨_, rfl⟩
  simp only [← hm] at Hg HA Cfr Crat hl ⊢
  have Hm := Lib.hid hm
  clear hm
  go_enter Try.func8, Try.ntmps8
  have t0 : ∀ w', Ext ((w.alloc (.cells #[.int .i64 s, .slice A m c] 41)).alloc (.cells #[.int .u8 xk, .int .i64 xa, .int .i64 xb, .int .i64 xc, .int .i64 xn, .int .i64 xm] 57)) w' → w'.cell? ⟨w.heap.size, 0, none⟩ = some (.int .i64 s) := fun w' he => cells_one rfl w' (Ext.trans ((Ext.refl _).alloc _) he)
  have t1 : ∀ w', Ext ((w.alloc (.cells #[.int .i64 s, .slice A m c] 41)).alloc (.cells #[.int .u8 xk, .int .i64 xa, .int .i64 xb, .int .i64 xc, .int .i64 xn, .int .i64 xm] 57)) w' → w'.cell? ⟨w.heap.size, 1, none⟩ = some (.slice A m c) := fun w' he => cells_one rfl w' (Ext.trans ((Ext.refl _).alloc _) he)
  have x0 : ∀ w', Ext ((w.alloc (.cells #[.int .i64 s, .slice A m c] 41)).alloc (.cells #[.int .u8 xk, .int .i64 xa, .int .i64 xb, .int .i64 xc, .int .i64 xn, .int .i64 xm] 57)) w' → w'.cell? ⟨w.heap.size + 1, 0, none⟩ = some (.int .u8 xk) := fun w' he => he.cell (cells_last (by simp) rfl)
  have x1 : ∀ w', Ext ((w.alloc (.cells #[.int .i64 s, .slice A m c] 41)).alloc (.cells #[.int .u8 xk, .int .i64 xa, .int .i64 xb, .int .i64 xc, .int .i64 xn, .int .i64 xm] 57)) w' → w'.cell? ⟨w.heap.size + 1, 1, none⟩ = some (.int .i64 xa) := fun w' he => he.cell (cells_last (by simp) rfl)
  have x2 : ∀ w', Ext ((w.alloc (.cells #[.int .i64 s, .slice A m c] 41)).alloc (.cells #[.int .u8 xk, .int .i64 xa, .int .i64 xb, .int .i64 xc, .int .i64 xn, .int .i64 xm] 57)) w' → w'.cell? ⟨w.heap.size + 1, 2, none⟩ = some (.int .i64 xb) := fun w' he => he.cell (cells_last (by simp) rfl)
  have x3 : ∀ w', Ext ((w.alloc (.cells #[.int .i64 s, .slice A m c] 41)).alloc (.cells #[.int .u8 xk, .int .i64 xa, .int .i64 xb, .int .i64 xc, .int .i64 xn, .int .i64 xm] 57)) w' → w'.cell? ⟨w.heap.size + 1, 3, none⟩ = some (.int .i64 xc) := fun w' he => he.cell (cells_last (by simp) rfl)
  have x4 : ∀ w', Ext ((w.alloc (.cells #[.int .i64 s, .slice A m c] 41)).alloc (.cells #[.int .u8 xk, .int .i64 xa, .int .i64 xb, .int .i64 xc, .int .i64 xn, .int .i64 xm] 57)) w' → w'.cell? ⟨w.heap.size + 1, 4, none⟩ = some (.int .i64 xn) := fun w' he => he.cell (cells_last (by simp) rfl)
  have x5 : ∀ w', Ext ((w.alloc (.cells #[.int .i64 s, .slice A m c] 41)).alloc (.cells #[.int .u8 xk, .int .i64 xa, .int .i64 xb, .int .i64 xc, .int .i64 xn, .int .i64 xm] 57)) w' → w'.cell? ⟨w.heap.size + 1, 5, none⟩ = some (.int .i64 xm) := fun w' he => he.cell (cells_last (by simp) rfl)
  have hxb : Ext w ((w.alloc (.cells #[.int .i64 s, .slice A m c] 41)).alloc (.cells #[.int .u8 xk, .int .i64 xa, .int .i64 xb, .int .i64 xc, .int .i64 xn, .int .i64 xm] 57)) := ((Ext.refl w).alloc _).alloc _
  (repeat (first
    | (go_at_call 43; refine (alive_any _).mono ?_; rintro e w1 ⟨rfl, hx1⟩; have b1 := hx1; simp only [])
    | (go_at_call 21; refine (Hg.out _).mono ?_; rintro e w2 ⟨rfl, hx2⟩; have b2 := b1.trans hx2; simp only [])
    | go_values | go_skip | go_guarded | go_step | go_upon))
  have hw2 := hxb.trans b2
  have t0 : ∀ w', Ext w2 w' → _ := fun w' he => t0 w' (b2.trans he)
  have t1 : ∀ w', Ext w2 w' → _ := fun w' he => t1 w' (b2.trans he)
  have x0 : ∀ w', Ext w2 w' → _ := fun w' he => x0 w' (b2.trans he)
  have x1 : ∀ w', Ext w2 w' → _ := fun w' he => x1 w' (b2.trans he)
  have x2 : ∀ w', Ext w2 w' → _ := fun w' he => x2 w' (b2.trans he)
  have x3 : ∀ w', Ext w2 w' → _ := fun w' he => x3 w' (b2.trans he)
  have x4 : ∀ w', Ext w2 w' → _ := fun w' he => x4 w' (b2.trans he)
  have x5 : ∀ w', Ext w2 w' → _ := fun w' he => x5 w' (b2.trans he)
  clear hx1 hx2 hxb b1 b2 Hg
  generalize w.heap.size + 1 = bm at *
  generalize w.heap.size = bt at *
  have hlm : ms.length ≤ 30 := by rw [← Hm.out]; exact hl
  refine Cf.wp_region_calm (p := grmPre w2.heap.size ms ⟨xk, xa, xb, xc, xn, xm⟩) (fr := fun _ => false) 11 (fun _ _ _ _ => True) (fun _ _ _ _ _ _ h => h) (by kernel_rfl) (by kernel_rfl) ?_
  simp only [List.take_succ_cons, List.take_zero, List.drop_succ_cons, List.drop_zero]
  refine Cf.calm_quiet Cf.calm_mono_final w2 (fun _ h => GrM.ext h) 2 (by kernel_rfl) ?_
  simp only [List.take_succ_cons, List.take_zero, List.drop_succ_cons, List.drop_zero]
  repeat (go_big_quiet_step (fail))
  refine wpQuiet_nil ?_
  refine Cf.calm_value Cf.calm_mono_final (fun v w => ∃ b, v = .slice (some ⟨b, 0, none⟩) 0 0 ∧ w2.heap.size ≤ b ∧ w.heap[b]? = some (Obj.cells #[] 57)) (fun _ w' w'' hR ⟨b, e, hb, hh⟩ => ⟨b, e, hb, (show GrM _ _ _ w' w'' from hR).kept _ _ (by simp [keptO]) hh⟩) rfl (fun w' hR _ => ⟨.slice (some ⟨w'.heap.size, 0, none⟩) 0 0, w'.alloc (.cells #[] 57), by go_simp, GrM.of_ext ((Ext.refl w').alloc _) (GrM.ext hR).le, ⟨_, rfl, (GrM.ext hR).le, heap_alloc_new _ _⟩, fun hf => by cases hf⟩) ?_
  rintro v2 _ _ ⟨b2, rfl, _, _⟩ _
  simp only [Act.put, List.setIfInBounds_toArray, List.set_cons_succ, List.set_cons_zero]
  refine Cf.calm_quiet Cf.calm_mono_final w2 (fun _ h => GrM.ext h) 2 (by kernel_rfl) ?_
  simp only [List.take_succ_cons, List.take_zero, List.drop_succ_cons, List.drop_zero]
  repeat (go_big_quiet_step (fail))
  refine wpQuiet_nil ?_
  refine Cf.calm_value Cf.calm_mono_final (fun v w => w.ownsRow w2.heap.size 57 6 v ms.length (cellsL ms) ∧ (ms.length = 0 → ∃ g, v = .slice (some ⟨g, 0, none⟩) 0 0)) (fun _ w' w'' hR ⟨h1, h2⟩ => ⟨(show GrM _ _ _ w' w'' from hR).own _ _ _ (.inl ⟨rfl, rfl⟩) h1, h2⟩) rfl (fun w' hR hf => ?_) ?_
  · obtain ⟨b', eb, hbb, hb2⟩ := (hf 2 (by kernel_rfl)).2 rfl
    simp only [Value.slice.injEq, Option.some.injEq, Addr.mk.injEq, and_true] at eb
    subst eb
    obtain ⟨v', w'', hr, hx2, ho, h0⟩ := app_copy (c := c) 39 hb2 hbb (HA.out w' (hw2.trans (GrM.ext hR))) (by omega)
    rw [← Hm.out] at hr
    exact ⟨_, w'', exec_append _ _ 39 rfl rfl rfl hr, GrM.of_ext hx2 (GrM.ext hR).le, ⟨ho, h0⟩, fun hf => by cases hf⟩
  rintro v5 _ _ ⟨_, _⟩ _
  simp only [Act.put, List.setIfInBounds_toArray, List.set_cons_succ, List.set_cons_zero]
  refine Cf.calm_quiet Cf.calm_mono_final w2 (fun _ h => GrM.ext h) 1 (by kernel_rfl) ?_
  simp only [List.take_succ_cons, List.take_zero, List.drop_succ_cons, List.drop_zero]
  repeat (go_big_quiet_step (fail))
  refine wpQuiet_nil ?_
  refine Cf.calm_value Cf.calm_mono_final (fun v w => ∃ b, v = .slice (some ⟨b, 0, none⟩) 1 1 ∧ w.heap[b]? = some (Obj.cells #[.int .u8 xk, .int .i64 xa, .int .i64 xb, .int .i64 xc, .int .i64 xn, .int .i64 xm] 57)) (fun _ w' w'' hR ⟨b, e, hh⟩ => ⟨b, e, (show GrM _ _ _ w' w'' from hR).kept _ _ (by simp [keptO, Msh.cells]) hh⟩) rfl (fun w' hR _ => ⟨.slice (some ⟨w'.heap.size, 0, none⟩) 1 1, w'.alloc (.cells #[.int .u8 xk, .int .i64 xa, .int .i64 xb, .int .i64 xc, .int .i64 xn, .int .i64 xm] 57), by go_simp, GrM.of_ext ((Ext.refl w').alloc _) (GrM.ext hR).le, ⟨_, rfl, heap_alloc_new _ _⟩, fun hf => by cases hf⟩) ?_
  rintro v7 _ _ ⟨b7, rfl, _⟩ _
  simp only [Act.put, List.setIfInBounds_toArray, List.set_cons_succ, List.set_cons_zero]
  refine Cf.calm_value Cf.calm_mono_final (fun v w => w.ownsRow w2.heap.size 57 6 v (ms.length + 1) (cellsL (ms ++ [(⟨xk, xa, xb, xc, xn, xm⟩ : Msh)]))) (fun _ w' w'' hR h1 => (show GrM _ _ _ w' w'' from hR).own _ _ _ (.inr ⟨rfl, rfl⟩) h1) rfl (fun w' hR hf => ?_) ?_
  · obtain ⟨ho, h0⟩ := (hf 5 (by kernel_rfl)).1.2 rfl
    obtain ⟨b', eb, hb7⟩ := (hf 7 (by kernel_rfl)).2 rfl
    simp only [Value.slice.injEq, Option.some.injEq, Addr.mk.injEq, and_true] at eb
    subst eb
    obtain ⟨v', w'', hr, ho2, hR2⟩ := app_one (x := ⟨xk, xa, xb, xc, xn, xm⟩) (c := 1) 39 ho h0 hb7 (by omega) (GrM.ext hR).le
    exact ⟨_, w'', exec_append _ _ 39 rfl rfl rfl hr, hR2, ho2, fun hf => by cases hf⟩
  rintro v8 _ _ hov _
  obtain ⟨h8, c8, rfl⟩ : ∃ h8 c8, v8 = .slice (some ⟨h8, 0, none⟩) (ms.length + 1) c8 := by
    rcases hov.2 with ⟨_, h⟩ | ⟨g, cap, cur, e, _⟩
    · omega
    · exact ⟨g, cap, e⟩
  clear hov
  simp only [Act.put, List.setIfInBounds_toArray, List.set_cons_succ, List.set_cons_zero]
  refine Cf.calm_value Cf.calm_mono_final (fun v _ => v = .agg #[.int .i64 s, .slice (some ⟨h8, 0, none⟩) (ms.length + 1) c8]) (fun _ _ _ _ h => h) rfl (fun w' he hf => ⟨_, w', by go_simp, GrM.of_ext (Ext.refl _) (GrM.ext he).le, rfl, fun hf => by cases hf⟩) ?_
  rintro v9 _ _ rfl _
  simp only [Act.put, List.setIfInBounds_toArray, List.set_cons_succ, List.set_cons_zero]
  refine Cf.calm_value Cf.calm_mono_final (fun v w => ∃ g, v = .pointer (some ⟨g, 0, none⟩) ∧ w2.heap.size ≤ g ∧ w.heap[g]? = some (Obj.cells #[.int .i64 0, .slice none 0 0] 41)) (fun _ w' w'' hR ⟨b, e, hb, hh⟩ => ⟨b, e, hb, (show GrM _ _ _ w' w'' from hR).kept _ _ (by simp [keptO]) hh⟩) rfl (fun w' hR _ => ⟨.pointer (some ⟨w'.heap.size, 0, none⟩), w'.alloc (.cells #[.int .i64 0, .slice none 0 0] 41), by go_simp, GrM.of_ext ((Ext.refl w').alloc _) (GrM.ext hR).le, ⟨_, rfl, (GrM.ext hR).le, heap_alloc_new _ _⟩, fun hf => by cases hf⟩) ?_
  rintro v10 _ _ ⟨g10, rfl, _, _⟩ _
  simp only [Act.put, List.setIfInBounds_toArray, List.set_cons_succ, List.set_cons_zero]
  refine Cf.calm_nil fun w3 hx3 hF => ?_
  have hx3 : Ext w2 w3 := GrM.ext hx3
  have ho8 := (hF.1 8).1.1.2 rfl
  obtain ⟨_, e10, hg10, hh10⟩ := (hF.1 10).2 rfl
  simp only [Value.pointer.injEq, Option.some.injEq, Addr.mk.injEq, and_true] at e10
  subst e10
  clear hF
  have hown8 : Own w2 w3 57 6 (.slice (some ⟨h8, 0, none⟩) (ms.length + 1) c8) (ms.length + 1) (cellsL (ms ++ [(⟨xk, xa, xb, xc, xn, xm⟩ : Msh)])) := ⟨hx3, ho8⟩
  obtain ⟨cur8, hb8, hh8⟩ : ∃ cur8, w2.heap.size ≤ h8 ∧ w3.heap[h8]? = some (.cells cur8 57 (0, 0)) := by
    rcases ho8.2 with ⟨_, h⟩ | ⟨g, cap, cur, e, hb, hh, _⟩
    · omega
    · simp only [Value.slice.injEq, Option.some.injEq, Addr.mk.injEq, and_true, true_and] at e
      obtain ⟨rfl, _⟩ := e
      exact ⟨cur, hb, hh⟩
  have hml : (ms ++ [(⟨xk, xa, xb, xc, xn, xm⟩ : Msh)]).length = ms.length + 1 := by simp
  have hm3 : MRow w3 (some ⟨h8, 0, none⟩) (ms ++ [(⟨xk, xa, xb, xc, xn, xm⟩ : Msh)]) := Own.mrow (w1 := w2) (m := ms.length + 1) (c := c8) (by rw [hml]; exact hown8)
  have hne : g10 ≠ h8 := fun e => by rw [e, hh8] at hh10; simp at hh10
  have hT3 : TOk w3 g10 (.int .i64 0) (.slice none 0 0) := ⟨by rw [cell_heap hh10]; rfl, by rw [cell_heap hh10]; rfl, fun j => by simp [World.frozen?, hh10]⟩
  obtain ⟨k0, k1, kf⟩ := id hT3
  have hT4 := hT3.set (.int .i64 s) (.slice (some ⟨h8, 0, none⟩) (ms.length + 1) c8)
  have hm4 := (hm3.setCell (p := ⟨g10, 0, none⟩) hne (.int .i64 s)).setCell (p := ⟨g10, 1, none⟩) hne (.slice (some ⟨h8, 0, none⟩) (ms.length + 1) c8)
  have hx4 : Ext w2 ((w3.setCell ⟨g10, 0, none⟩ (.int .i64 s)).setCell ⟨g10, 1, none⟩ (.slice (some ⟨h8, 0, none⟩) (ms.length + 1) c8)) := (hx3.setCell (p := ⟨g10, 0, none⟩) hg10 _).setCell (p := ⟨g10, 1, none⟩) hg10 _
  clear hown8 ho8 hm3 hx3 hh8 hh10 hne hT3 x0 x1 x2 x3 x4 x5
  (repeat (first | go_values | go_skip | go_guarded | go_step | go_upon))
  generalize (w3.setCell ⟨g10, 0, none⟩ (.int .i64 s)).setCell ⟨g10, 1, none⟩ (.slice (some ⟨h8, 0, none⟩) (ms.length + 1) c8) = w4 at *
  have T40 := Ext.cells hT4.c0
  have T41 := Ext.cells hT4.c1
  have hw4 := hw2.trans hx4
  have t0 : ∀ w', Ext w4 w' → _ := fun w' he => t0 w' (hx4.trans he)
  have t1 : ∀ w', Ext w4 w' → _ := fun w' he => t1 w' (hx4.trans he)
  have c45 := train_ref (some ⟨h8, 0, none⟩) c8 s (ms ++ [(⟨xk, xa, xb, xc, xn, xm⟩ : Msh)]) w4 hm4 (by rw [hml]; omega)
  have cfm := fun (w' : World) (he : Ext w4 w') => free_any (some ⟨h8, 0, none⟩) c8 s (ms ++ [(⟨xk, xa, xb, xc, xn, xm⟩ : Msh)]) w' (hm4.ext he) (by rw [hml]; omega)
  obtain ⟨n2, d2, f2, crm⟩ := ratio_rf (some ⟨h8, 0, none⟩) c8 s i o (ms ++ [(⟨xk, xa, xb, xc, xn, xm⟩ : Msh)]) w4 hm4 (by rw [hml]; omega)
  rw [hml] at c45 cfm crm
  have Cfm := Lib.hid cfm
  have Crm := Lib.hid crm
  clear cfm crm hm4 hT4 hx4 hw2 k0 k1 kf hml hg10 hb8
  cases hT : trainB s (ms ++ [(⟨xk, xa, xb, xc, xn, xm⟩ : Msh)])
  · rw [hT] at c45
    have C45 := Lib.hid c45
    clear c45 frf f2 hT
    generalize ms.length + 1 = m1 at *
    refine C45.out.mono ?_
    rintro e w5 ⟨rfl, hx5⟩
    simp only []
    (repeat (first | go_values | go_skip | go_guarded | go_step | go_upon))
    go_ret
    exact ⟨rfl, hw4.trans hx5⟩
  · have ht : trainP s (ms ++ [(⟨xk, xa, xb, xc, xn, xm⟩ : Msh)]) := of_decide_eq_true hT
    have hrel := more_rel ht frf f2
    obtain ⟨fr1, fr2, fr3, fr4, fr5, fr6⟩ := free_app ht
    have hE1 : trainE s ms = 0 := by
      unfold trainE
      rw [if_pos (show trainB s ms = true from decide_eq_true (trainP_app ht))]
    have hE2 : trainE s (ms ++ [(⟨xk, xa, xb, xc, xn, xm⟩ : Msh)]) = 0 := by
      unfold trainE
      rw [if_pos hT]
    rw [hT] at c45
    rw [hE1] at Cfr
    rw [hE2] at Cfm
    have C45 := Lib.hid c45
    clear c45 frf f2 hT ht hE1 hE2
    generalize freeS s ms = fa at *
    generalize freeS s (ms ++ [(⟨xk, xa, xb, xc, xn, xm⟩ : Msh)]) = fb at *
    generalize verdE s ms i o = v1 at *
    generalize verdE s (ms ++ [(⟨xk, xa, xb, xc, xn, xm⟩ : Msh)]) i o = v2 at *
    generalize ms.length + 1 = m1 at *
    have q1 : ¬ fa < fb := by omega
    have q2 : ¬ fb < fa - 1 := by omega
    have q3 : IntKind.i64.wrap (fa - 1) = fa - 1 := by rw [IntKind.wrap_i64]; omega
    refine C45.out.mono ?_
    rintro e w5 ⟨rfl, hx5⟩
    simp only []
    have b5 := hx5
    rcases hrel with ⟨rfl, rfl⟩ | ⟨rfl, rfl⟩ | ⟨rfl, rfl, rfl, rfl⟩ | ⟨rfl, rfl⟩ | ⟨k1, k2, k3⟩
    rotate_left 4
    · have k4 : (v1 == 41) = false := beq_eq_false_iff_ne.2 k1
      have k5 : (v1 == 0) = false := beq_eq_false_iff_ne.2 k2
      have k6 : (v1 != 2) = true := by rw [bne_iff_ne]; exact k3
      (repeat (first
        | (go_at_call 26; (with_reducible refine (Cfr.out _ (hw4.trans b5)).mono ?_); rintro e w6 ⟨rfl, hx6⟩; have b6 := b5.trans hx6; simp only [])
        | (go_at_call 26; (with_reducible refine (Cfm.out _ b6).mono ?_); rintro e w7 ⟨rfl, hx7⟩; have b7 := b6.trans hx7; simp only [])
        | (go_at_call 34; (with_reducible refine (Crat.out _ (hw4.trans b7)).mono ?_); rintro e w8 ⟨B1, B2, B3, r1, d1, r2, d2, r3, d3, rfl, hx8⟩; have b8 := (b7.trans hx8).alloc (.cells #[.slice B1 r1 d1, .slice B2 r2 d2, .slice B3 r3 d3] 60); simp only [])
        | (go_at_call 34; (with_reducible refine (Crm.out _ b8).mono ?_); rintro e w9 ⟨B1, B2, B3, r1, d1, r2, d2, r3, d3, rfl, hx9⟩; have b9 := (b8.trans hx9).alloc (.cells #[.slice B1 r1 d1, .slice B2 r2 d2, .slice B3 r3 d3] 60); simp only [])
        | go_values | go_skip | go_guarded | go_step | go_upon))
      go_ret
      exact ⟨rfl, hw4.trans b9⟩
    all_goals
      (repeat (first
        | (go_at_call 26; (with_reducible refine (Cfr.out _ (hw4.trans b5)).mono ?_); rintro e w6 ⟨rfl, hx6⟩; have b6 := b5.trans hx6; simp only [])
        | (go_at_call 26; (with_reducible refine (Cfm.out _ b6).mono ?_); rintro e w7 ⟨rfl, hx7⟩; have b7 := b6.trans hx7; simp only [])
        | (go_at_call 34; (with_reducible refine (Crat.out _ (hw4.trans b7)).mono ?_); rintro e w8 ⟨B1, B2, B3, r1, d1, r2, d2, r3, d3, rfl, hx8⟩; have b8 := (b7.trans hx8).alloc (.cells #[.slice B1 r1 d1, .slice B2 r2 d2, .slice B3 r3 d3] 60); simp only [])
        | (go_at_call 34; (with_reducible refine (Crm.out _ b8).mono ?_); rintro e w9 ⟨B1, B2, B3, r1, d1, r2, d2, r3, d3, rfl, hx9⟩; have b9 := (b8.trans hx9).alloc (.cells #[.slice B1 r1 d1, .slice B2 r2 d2, .slice B3 r3 d3] 60); simp only [])
        | go_values | go_skip | go_guarded | go_step | go_upon))
      go_ret
      exact ⟨rfl, hw4.trans b9⟩
end Go.Proofs.Ytbclbcldplmppaa
