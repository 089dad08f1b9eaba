/- The reference's Verdict. -/
import Derived.Test.YtebkhdhhajjhfaaGreatT12
import Derived.Test.YtebkhdhhajjhfaaGreatT03
import Derived.Maps.OwnSet
import Derived.Maps.RangeWalk
import Derived.Test.YtebkhdhhajjhfaaGreatT02
import Derived.Test.YtebkhdhhajjhfaaGreatT04
namespace Go.Proofs.YtebkhdhhajjhfaaGreat.Gr
open Go.RowKit

noncomputable def looseB (m n : Nat) (L : Nat → Nat → Int) (i o : Nat) : Bool := rkF (m + 1 + 1) n (snocF (m + 1) (snocF m L (eU i)) (eU o)) != rkF (m + 1) n (snocF m L (eU i))
noncomputable def verdS (m n : Nat) (L : Nat → Nat → Int) (i o : Nat) : Int := if jamB m n L i = true then 41 else if looseB m n L i o = true then 42 else 0

end Go.Proofs.YtebkhdhhajjhfaaGreat.Gr

/- The reference's Free. -/
namespace Go.Proofs.YtebkhdhhajjhfaaGreat.Gr
open Go.RowKit

end Go.Proofs.YtebkhdhhajjhfaaGreat.Gr

/- The code's Free. -/
namespace Go.Proofs.YtebkhdhhajjhfaaGreat.Gr
open Go.RowKit

end Go.Proofs.YtebkhdhhajjhfaaGreat.Gr

/- A solved train's map, looked up; the code's search for clutches that slip. -/
namespace Go.Proofs.YtebkhdhhajjhfaaGreat.Gr
open Go.RowKit

theorem MapIs.look {w : World} {mb n : Nat} {D : DataW Unit} {cs : List Nat} (h : MapIs D cs) (hM : MapI w mb n D) (x : Nat) (hx : x < 900) :
    ∃ c : Int, (Instr.lookup 120 (.map (some mb)) (.int .i64 x) true).run Tryz.prog w = .ok (.tuple #[.int .i64 c, .bool (decide (x ∈ cs))]) w ∧ ∀ k (hk : k < cs.length), cs[k] = x → c = (k : Int) := by
  have hkey := Maps.keyOf_int_mk (P := Tryz.prog) Tryz.underlying3 (wf_nat x (by omega))
  obtain ⟨i, hi, hz0, hz1, hz2⟩ := int_elem.info
  obtain ⟨v, ps, hrun, hv⟩ := hM.look_ok (Maps.int_keyed Tryz.underlying3) Tryz.underlying120 (z := .int .i64 0) (by simp [zeroValue, typeInfo, hi, hz0]) (plainElem_int Tryz.underlying3 (by decide)) hkey
  obtain ⟨c, rfl, hc, _⟩ := plainElem_int_inv Tryz.underlying3 hv
  rw [h.has] at hrun
  refine ⟨c, hrun, fun k hk e => ?_⟩
  have h1 := h.at_ k hk (.lit (.int .i64 0))
  rw [e] at h1
  have h2 := congrArg Prod.fst hc
  simp only at h2
  rw [h1] at h2
  simpa using h2.symm

end Go.Proofs.YtebkhdhhajjhfaaGreat.Gr

/- A row's factors; the motion of a free shaft: by the code. -/
namespace Go.Proofs.YtebkhdhhajjhfaaGreat.Gr
open Go.RowKit

theorem nodup_le {α : Type} : ∀ {l m : List α}, l.Nodup → (∀ x ∈ l, x ∈ m) → l.length ≤ m.length
  | [], m, _, _ => Nat.zero_le _
  | x :: l, m, hn, hs => by
    obtain ⟨m1, m2, rfl⟩ := List.append_of_mem (hs x (by simp))
    rw [List.nodup_cons] at hn
    have := nodup_le (l := l) (m := m1 ++ m2) hn.2 fun y hy => by
      have h1 := hs y (List.mem_cons_of_mem _ hy)
      rcases List.mem_append.1 h1 with h | h
      · exact List.mem_append.2 (.inl h)
      · rcases List.mem_cons.1 h with h | h
        · subst h; exact absurd hy hn.1
        · exact List.mem_append.2 (.inr h)
    simp only [List.length_append, List.length_cons] at this ⊢
    omega

/-- The map has no keys but the pivots' columns. -/
theorem MapIs.only {D : DataW Unit} {cs : List Nat} (h : MapIs D cs) (hn : cs.Nodup) {z : Lit} (hz : Maps.has D z = true) : ∃ c ∈ cs, z = .int .i64 (c : Int) := by
  obtain ⟨es, rfl, hp⟩ := h.tidy
  have hin : ∀ z, Maps.has (DataW.map es) z = true → z ∈ es.map (·.1) := fun z hz => by
    rw [Maps.has_eq, List.any_eq_true] at hz
    obtain ⟨p, hp, hk⟩ := hz
    exact List.mem_map.2 ⟨p, hp, WideAt.sameKey_eq hk⟩
  refine Classical.byContradiction fun hno => ?_
  have h1 : (z :: cs.map fun (c : Nat) => Lit.int .i64 (c : Int)).Nodup := by
    rw [List.nodup_cons]
    refine ⟨fun hm => hno ?_, ?_⟩
    · obtain ⟨c, hc, e⟩ := List.mem_map.1 hm
      exact ⟨c, hc, e.symm⟩
    · refine List.pairwise_map.2 (List.Pairwise.imp ?_ hn)
      intro a b hab e
      injection e with _ e
      exact hab (by omega)
  have h2 := nodup_le h1 (m := es.map (·.1)) fun x hx => by
    rcases List.mem_cons.1 hx with rfl | hx
    · exact hin _ hz
    · obtain ⟨c, hc, rfl⟩ := List.mem_map.1 hx
      exact hin _ (by rw [h.has]; simpa using hc)
  have h3 := h.size
  rw [Maps.size_eq] at h3
  simp at h2
  omega

/-- The first k numbers with the other sign. -/
def negK (l : List Int) (n k : Nat) : List Int := outL n fun j => if j < k then -getI l j else getI l j
def negL (b : Bool) (l : List Int) (n : Nat) : List Int := outL n fun j => if b = true then -getI l j else getI l j
theorem negK_zero (l : List Int) (n : Nat) : negK l n 0 = outL n (getI l) := outL_congr fun j _ => if_neg (Nat.not_lt_zero j)
theorem negK_full (l : List Int) (n : Nat) : negK l n n = negL true l n := outL_congr fun j hj => by rw [if_pos hj, if_pos rfl]
theorem negL_no (l : List Int) (n : Nat) : negL false l n = outL n (getI l) := outL_congr fun j _ => by rw [if_neg (by decide)]
theorem outL_self {l : List Int} {n : Nat} (h : l.length = n) : outL n (getI l) = l := by
  apply List.ext_getElem?
  intro j
  unfold outL
  by_cases hj : j < n
  · rw [List.getElem?_map, List.getElem?_range hj, Option.map_some, getI_eq (by omega), List.getElem?_eq_getElem (by omega)]
  · rw [List.getElem?_eq_none (by simp; omega), List.getElem?_eq_none (by omega)]
theorem negK_step {l : List Int} {n k : Nat} : (negK l n k).set k (-getI l k) = negK l n (k + 1) := by
  unfold negK
  rw [outL_set]
  refine outL_congr fun j _ => ?_
  by_cases e : j = k
  · subst e; rw [if_pos rfl, if_pos (by omega)]
  · rw [if_neg e]
    have : j < k ↔ j < k + 1 := by omega
    simp only [this]
theorem negK_at {l : List Int} {n k : Nat} (h : k < n) : getI (negK l n k) k = getI l k := by
  unfold negK
  rw [outL_get h, if_neg (Nat.lt_irrefl k)]

set_option maxRecDepth 100000 in
set_option maxHeartbeats 2000000 in
theorem factors_row (A1 A2 : Option Addr) (c1 c2 n m : Nat) (l b : List Int) (i : Nat) (w : World) (h1 : Ints w A1 l) (h2 : Ints w A2 b) (hn : l.length = n) (hm : b.length = m) (hi : i < n) (hbd : ∀ y, y < m → (getI b y).natAbs < 4611686018427387904) (hmm : m ≤ 1000) :
    Calls Tryz.prog 50 #[.agg #[.slice A1 n c1, .slice A2 m c2], .int .i64 i] w (TwinRes w (negL (decide (getI l i < 0)) b m)) := by
  have hl := h1.at_ (k := i) (by omega)
  obtain ⟨ad, rfl, hc⟩ := hl
  clear hc
  have ct : ∀ (w' : World), Ext w w' → Calls Tryz.prog 83 #[.slice A2 m c2] w' fun e w'' => ∃ g, e = .returned (sl g m) ∧ NewInts w' w'' g b := fun w' he => by
    have h := twin_any A2 c2 b w' (h2.ext he) (by omega)
    rw [hm] at h
    refine h.mono fun e w'' h => ?_
    obtain ⟨g, e1, e2⟩ := h
    exact ⟨g, by rw [e1, hm], e2⟩
  have ca : ∀ (w' : World), Ext w w' → Calls Tryz.prog 53 #[.slice (some ad) n c1, .int .i64 i] w' fun e w'' => e = .returned (.int .i64 (getI l i)) ∧ w' = w'' := fun w' he => by
    have h := at_any (some ad) c1 i l w' (h1.ext he) (by omega)
    rwa [hn] at h
  have Ca := Lib.hid ca
  have hself := outL_self hm
  have Ct := Lib.hid ct
  have Hbd := Lib.hid hbd
  have Hself := Lib.hid hself
  have Hm := Lib.hid hm
  clear ca ct hbd hself h1 h2 hn hm
  generalize getI l i = y at *
  go_enter Tryz.func50, Tryz.ntmps50
  have hexb : Ext w (w.alloc (.cells #[.slice (some ad) n c1, .slice A2 m c2] 130)) := by simp
  have hp0 : ∀ w', Ext (w.alloc (.cells #[.slice (some ad) n c1, .slice A2 m c2] 130)) w' → w'.cell? ⟨w.heap.size, 0, none⟩ = some (.slice (some ad) n c1) := fun w' he => he.cell (by simp)
  have hp1 : ∀ w', Ext (w.alloc (.cells #[.slice (some ad) n c1, .slice A2 m c2] 130)) w' → w'.cell? ⟨w.heap.size, 1, none⟩ = some (.slice A2 m c2) := fun w' he => he.cell (by simp)
  cases hs : decide (y < 0)
  · have hy : ¬ y < 0 := by simpa using hs
    go_wp2_with (first
      | (go_at_call 83; refine (Ct.out _ (by simp)).mono ?_; rintro e w2 ⟨g, rfl, hn2⟩; have hx2 := hn2.ext)
      | (go_at_call 53; refine (Ca.out _ (hexb.trans hx2)).mono ?_; rintro e w3 ⟨rfl, rfl⟩))
    go_ret
    rw [negL_no, Hself.out]
    exact ⟨g, by rw [Hm.out]; rfl, hn2.since hexb⟩
  · have hy : y < 0 := by simpa using hs
    go_wp2_with (first
      | (go_at_call 83; refine (Ct.out _ (by simp)).mono ?_; rintro e w2 ⟨g, rfl, hn2⟩; have hx2 := hn2.ext)
      | (go_at_call 53; refine (Ca.out _ (hexb.trans hx2)).mono ?_; rintro e w3 ⟨rfl, rfl⟩))
    have hst := hn2.since hexb
    rw [← Hself.out, ← negK_zero] at hst
    have Hst := Lib.hid hst
    clear hst hn2 hx2 hp0 hp1 hexb
    go_loopw [17] (fun k wr => ∃ j : Nat, j ≤ m ∧ k = .int .i64 j ∧ NewInts w wr g (negK b m j)) (fun k _ => m - (intOf k).toNat)
    case atStart => exact ⟨0, by omega, rfl, Hst.out⟩
    case round =>
      clear Hst
      obtain ⟨k, hk, rfl, hacc⟩ := hrel
      by_cases hlt : k < m
      · have hca : wr.cell? ⟨g, k, none⟩ = some (vint (getI b k)) := by
          have := hacc.cell (k := k) (by unfold negK; rw [outL_len]; exact hlt)
          rwa [negK_at hlt] at this
        have hfa := hacc.frz k
        have hb := Hbd.out k hlt
        have en : IntKind.i64.wrap (-getI b k) = -getI b k := by rw [IntKind.wrap_i64]; omega
        have hstp := negK_step (l := b) (n := m) (k := k)
        have Hstp := Lib.hid hstp
        have Hac := Lib.hid hacc
        have hki : (k : Int) < (m : Int) := by omega
        clear hstp hacc hb
        generalize getI b k = z at *
        go_wp2
        go_roundw
        case rel => exact ⟨k + 1, by omega, by go_num, by rw [← Hstp.out]; exact Hac.out.put k _⟩
        case measure => simp [intOf]; omega
      · obtain rfl : k = m := by omega
        have Hac := Lib.hid hacc
        clear hacc
        go_wp2
        go_ret
        rw [← negK_full]
        have hl2 : (negK b k k).length = k := outL_len _ _
        exact ⟨g, by rw [hl2]; rfl, Hac.out⟩
end Go.Proofs.YtebkhdhhajjhfaaGreat.Gr

/- The code's search for clutches that slip: the closure, where no more are wanted. -/
namespace Go.Proofs.YtebkhdhhajjhfaaGreat.Gr
open Go.RowKit

end Go.Proofs.YtebkhdhhajjhfaaGreat.Gr

/- The closure, where no more clutches are wanted: whether a shaft is jammed without a set. -/
namespace Go.Proofs.YtebkhdhhajjhfaaGreat.Gr
open Go.RowKit

end Go.Proofs.YtebkhdhhajjhfaaGreat.Gr

/- The closure: the search by recursion. -/
namespace Go.Proofs.YtebkhdhhajjhfaaGreat.Gr
open Go.RowKit

end Go.Proofs.YtebkhdhhajjhfaaGreat.Gr

/- The reference's slipping: a search by recursion. -/
namespace Go.Proofs.YtebkhdhhajjhfaaGreat.Gr
open Go.RowKit

end Go.Proofs.YtebkhdhhajjhfaaGreat.Gr

/- The reference's Slips. -/
namespace Go.Proofs.YtebkhdhhajjhfaaGreat.Gr
open Go.RowKit

theorem askE_zero {s : Int} {ms : List Msh} {l : List Int} (h : askE s ms l = 0) : trainB s ms = true ∧ ∀ x ∈ l, 0 ≤ x ∧ x < s := by
  unfold askE at h
  split at h
  · rename_i ht
    split at h
    · rename_i hl; exact ⟨ht, hl⟩
    · cases h
  · cases h
end Go.Proofs.YtebkhdhhajjhfaaGreat.Gr

/- The code's Slips. -/
namespace Go.Proofs.YtebkhdhhajjhfaaGreat.Gr
open Go.RowKit


theorem cells_one {w : World} {cs : Array Value} {t : TypeId} {j : Nat} {v : Value} (hv : cs[j]? = some v) : ∀ w', Ext (w.alloc (.cells cs t)) w' → w'.cell? ⟨w.heap.size, j, none⟩ = some v := fun w' he => by
  rw [cell_heap (he.heap (heap_alloc_new w _)), hv]
theorem cells_two {w : World} {o : Obj} {cs : Array Value} {t : TypeId} {j : Nat} {v : Value} (hv : cs[j]? = some v) : ∀ w', Ext ((w.alloc o).alloc (.cells cs t)) w' → w'.cell? ⟨w.heap.size + 1, j, none⟩ = some v := fun w' he => by
  have h : (w.alloc o).heap.size = w.heap.size + 1 := by simp only [World.alloc, Array.size_push]
  rw [← h, cell_heap (he.heap (heap_alloc_new (w.alloc o) _)), hv]
theorem cells_three {w : World} {o o' : Obj} {cs : Array Value} {t : TypeId} {j : Nat} {v : Value} (hv : cs[j]? = some v) : ∀ w', Ext (((w.alloc o).alloc o').alloc (.cells cs t)) w' → w'.cell? ⟨w.heap.size + 1 + 1, j, none⟩ = some v := fun w' he => by
  have h : ((w.alloc o).alloc o').heap.size = w.heap.size + 1 + 1 := by simp only [World.alloc, Array.size_push]
  rw [← h, cell_heap (he.heap (heap_alloc_new ((w.alloc o).alloc o') _)), hv]

end Go.Proofs.YtebkhdhhajjhfaaGreat.Gr

/- The motion of a free shaft: by the code. -/
namespace Go.Proofs.YtebkhdhhajjhfaaGreat.Gr
open Go.RowKit

/-- What the numbers are while the map is ranged over. -/
structure MotI (S : Nat) (pv : List (Nat × Nat)) (M : Nat → Nat → Int) (d : Int) (f : Nat) (D : DataW Unit) (left : Lit → Bool) (xs : List Int) : Prop where
  len : xs.length = S
  top : getI xs f = sg d * d
  piv : ∀ q ∈ pv, left (.int .i64 (q.2 : Int)) = false → getI xs q.2 = -sg d * M q.1 f
  oth : ∀ j, j < S → j ≠ f → j ∉ colsP pv → getI xs j = 0
  has : ∀ z, left z = true → Maps.has D z = true

theorem getI_set {l : List Int} {k j : Nat} {v : Int} (h : k < l.length) : getI (l.set k v) j = if j = k then v else getI l j := by
  unfold getI
  rw [List.getElem?_set]
  by_cases e : k = j
  · subst e; simp [h]
  · rw [if_neg e, if_neg (fun e' => e e'.symm)]

section
variable {S : Nat} {pv : List (Nat × Nat)} {M : Nat → Nat → Int} {d : Int} {f : Nat} {D : DataW Unit} {left : Lit → Bool} {xs : List Int}
theorem MotI.start (hd : MapIs D (colsP pv)) (hf : f < S) : MotI S pv M d f D (Maps.has D) ((List.replicate S 0).set f (sg d * d)) := by
  refine ⟨by simp, ?_, fun q hq h => ?_, fun j hj h _ => ?_, fun z h => h⟩
  · rw [getI_set (by simpa using hf), if_pos rfl]
  · rw [hd.has, decide_eq_false_iff_not] at h
    exact absurd (List.mem_map.2 ⟨q, hq, rfl⟩) h
  · rw [getI_set (by simpa using hf), if_neg h]
    unfold getI
    rw [List.getElem?_replicate, if_pos hj]
    rfl
theorem sameKey_nat {a b : Nat} (h : (Lit.int .i64 (a : Int)).sameKey (.int .i64 (b : Int)) = true) : a = b := by
  have := WideAt.sameKey_eq h
  injection this with _ e
  omega
theorem MotI.step (h : MotI S pv M d f D left xs) (hcnd : (colsP pv).Nodup) (hfo : f ∉ colsP pv) (hS : ∀ c ∈ colsP pv, c < S) {k : Nat} (hk : k < pv.length) :
    MotI S pv M d f D (fun z => left z && !z.sameKey (.int .i64 (pv[k].2 : Int))) (xs.set pv[k].2 (-sg d * M pv[k].1 f)) := by
  have hmem : pv[k].2 ∈ colsP pv := List.mem_map.2 ⟨_, List.getElem_mem hk, rfl⟩
  have hlt : pv[k].2 < xs.length := by rw [h.len]; exact hS _ hmem
  have hne : f ≠ pv[k].2 := fun e => hfo (e ▸ hmem)
  refine ⟨by rw [List.length_set]; exact h.len, ?_, fun q hq hl => ?_, fun j hj h1 h2 => ?_, fun z hz => ?_⟩
  · rw [getI_set hlt, if_neg hne]; exact h.top
  · rw [getI_set hlt]
    by_cases e : q.2 = pv[k].2
    · rw [if_pos e]
      obtain ⟨i, hi, rfl⟩ := List.getElem_of_mem hq
      have e2 : (colsP pv)[i]'(by rw [colsP_len]; exact hi) = (colsP pv)[k]'(by rw [colsP_len]; exact hk) := by rw [colsP_get, colsP_get]; exact e
      have : i = k := (List.getElem_inj hcnd).1 e2
      subst this
      rfl
    · rw [if_neg e]
      refine h.piv q hq ?_
      cases hl2 : left (.int .i64 (q.2 : Int))
      · rfl
      · rw [hl2, Bool.true_and] at hl
        simp only [Bool.not_eq_false'] at hl
        exact absurd (sameKey_nat hl) e
  · rw [getI_set hlt, if_neg (show ¬ j = pv[k].2 from fun e => h2 (by rw [e]; exact hmem))]
    exact h.oth j hj h1 h2
  · simp only [Bool.and_eq_true] at hz
    exact h.has z hz.1
theorem MotI.done (h : MotI S pv M d f D left xs) (hl : ∀ z, left z = false) : MotOf S pv M d f xs :=
  ⟨h.len, h.top, fun q hq => h.piv q hq (hl _), h.oth⟩
/-- The key that comes next is a pivot's column, and its number the row's. -/
theorem MotI.next (h : MotI S pv M d f D left xs) (hd : MapIs D (colsP pv)) (hcnd : (colsP pv).Nodup) {x c : Int} (hx : left (.int .i64 x) = true) (hat : ∀ zd, D.atKey (.int .i64 x) zd = .lit (.int .i64 c)) :
    ∃ k, ∃ hk : k < pv.length, x = (pv[k].2 : Int) ∧ c = (k : Int) := by
  obtain ⟨c', hc', e⟩ := hd.only hcnd (h.has _ hx)
  obtain ⟨k, hk, rfl⟩ := List.getElem_of_mem hc'
  injection e with _ e
  subst e
  have hk' : k < pv.length := by rwa [colsP_len] at hk
  refine ⟨k, hk', by rw [colsP_get], ?_⟩
  have h1 := hat (.lit (.int .i64 0))
  have h2 := hd.at_ k hk (.lit (.int .i64 0))
  rw [h2] at h1
  simpa using h1.symm
end

theorem MF.at_ {b w : World} {v : Value} {n m c : Nat} {g h : Nat → Nat} {L B : Nat → List Int} (hm : MF b w v n m c g h L B) {k : Nat} (hk : k < c) :
    ∃ gv cv, v = .slice (some ⟨gv, 0, none⟩) c cv ∧ (∀ w', Ext w w' → w'.cell? ⟨gv, k * 2, none⟩ = some (sl (g k) n)) ∧ (∀ w', Ext w w' → w'.cell? ⟨gv, k * 2 + 1, none⟩ = some (sl (h k) m)) ∧
      Ints w (some ⟨g k, 0, none⟩) (L k) ∧ Ints w (some ⟨h k, 0, none⟩) (B k) ∧ (L k).length = n ∧ (B k).length = m := by
  obtain ⟨gv, cv, rfl, _, _⟩ := hm.own.at_ (by omega)
  have hl := rowCells_len n m c g h
  have h2 : ∀ r ∈ (List.range c).map (fun k => [sl (g k) n, sl (h k) m]), r.length = 2 := by simp
  have c0 := hm.own.cell (j := k * 2) (by omega)
  have c1 := hm.own.cell (j := k * 2 + 1) (by omega)
  have e0 := flatten_get 2 _ h2 k 0 (by omega) (by simpa using hk)
  have e1 := flatten_get 2 _ h2 k 1 (by omega) (by simpa using hk)
  rw [Nat.add_zero] at e0
  have d0 : w.cell? ⟨gv, k * 2, none⟩ = some (sl (g k) n) := by
    rw [c0]; unfold rowCells; rw [e0]; simp
  have d1 : w.cell? ⟨gv, k * 2 + 1, none⟩ = some (sl (h k) m) := by
    rw [c1]; unfold rowCells; rw [e1]; simp
  exact ⟨gv, cv, rfl, Ext.cells d0, Ext.cells d1, (hm.gl k hk).1.ints, (hm.hb k hk).1.ints, (hm.gl k hk).2, (hm.hb k hk).2⟩

theorem lineOf_get {M : Nat → Nat → Int} {n x j : Nat} (h : j < n) : getI (lineOf M n x) j = M x j := by simp [lineOf, getI, h]
theorem byOf_get {M : Nat → Nat → Int} {n m x j : Nat} (h : j < m) : getI (byOf M n m x) j = M x (n + j) := by simp [byOf, getI, h]

theorem grown_setAt {w : World} {p : Addr} {v : Value} : w.grownBy (w.setCell p v) (some p.block) := by
  refine ⟨rfl, rfl, rfl, by simp [World.setCell], fun k hk hne => ?_⟩
  exact heap_other fun e => hne (by rw [e])
theorem NewInts.far {w w1 w2 : World} {g r : Nat} {xs : List Int} (h : NewInts w w1 g xs) (hg : w1.grownBy w2 (some r)) (hne : g ≠ r) (hr : w.heap.size ≤ r) : NewInts w w2 g xs :=
  ⟨h.1.grown hg (fun k hk => by injection hk with hk; omega), h.2.1, (hg.block g h.lt (fun e => hne (Option.some.inj e))).trans h.2.2⟩

/-- What 'motion' hands back. -/
def MotRes (w : World) (S : Nat) (pv : List (Nat × Nat)) (M : Nat → Nat → Int) (d : Int) (f : Nat) (e : Ending) (w' : World) : Prop := ∃ g xs, e = .returned (sl g S) ∧ NewInts w w' g xs ∧ MotOf S pv M d f xs

set_option maxRecDepth 100000 in
set_option maxHeartbeats 4000000 in
theorem motion_any {b w : World} {v ordv : Value} {mb S m f : Nat} {d : Int} {g h : Nat → Nat} {σ : Nat → Nat} {pv : List (Nat × Nat)} {M : Nat → Nat → Int} {D : DataW Unit}
    (hm : MF b w v S m m g h (fun k => lineOf M S (σ k)) (fun k => byOf M S m (σ k))) (hp : MapI w mb pv.length D) (hd : MapIs D (colsP pv)) (ho : ∃ Ao co, ordv = .slice Ao S co) (hle : pv.length ≤ m) (hcnd : (colsP pv).Nodup) (hcS : ∀ c ∈ colsP pv, c < S) (hrow : ∀ i (hi : i < pv.length), pv[i].1 = σ i)
    (hf : f < S) (hfo : f ∉ colsP pv) (h8 : S ≤ 8) (hbd : d.natAbs < 4611686018427387904) (hbM : ∀ q ∈ pv, (M q.1 f).natAbs < 4611686018427387904) :
    Calls Tryz.prog 51 #[.agg #[v, .map (some mb), ordv, .int .i64 d], .int .i64 f] w (MotRes w S pv M d f) := by
  obtain ⟨Ao, co, rfl⟩ := ho
  have hat := fun (k : Nat) (hk : k < pv.length) => hm.at_ (show k < m by omega)
  have hgl := fun (k : Nat) (hk : k < pv.length) (w' : World) (he : Ext w w') => at_any (some ⟨g k, 0, none⟩) S f (lineOf M S (σ k)) w' (((hm.gl k (by omega)).1.ints).ext he) (by rw [(hm.gl k (by omega)).2]; exact hf)
  have hval := fun (k : Nat) (hk : k < pv.length) => (show getI (lineOf M S (σ k)) f = M pv[k].1 f by rw [lineOf_get hf, hrow k hk])
  have hlen := fun (k : Nat) (hk : k < pv.length) => (hm.gl k (by omega)).2
  have hbk := fun (k : Nat) (hk : k < pv.length) => hbM _ (List.getElem_mem hk)
  have hnext := fun (left : Lit → Bool) (xs : List Int) (hI : MotI S pv M d f D left xs) (x c : Int) => hI.next hd hcnd (x := x) (c := c)
  have hstep := fun (left : Lit → Bool) (xs : List Int) (hI : MotI S pv M d f D left xs) (k : Nat) (hk : k < pv.length) => hI.step hcnd hfo hcS hk
  have hstart := MotI.start (S := S) (M := M) (d := d) (f := f) hd hf
  have hcol := fun (k : Nat) (hk : k < pv.length) => hcS _ (List.mem_map.2 ⟨_, List.getElem_mem hk, rfl⟩)
  obtain ⟨A, cv, rfl⟩ := hm.own.form
  have Hat := Lib.hid hat
  have Hgl := Lib.hid hgl
  have Hval := Lib.hid hval
  have Hlen := Lib.hid hlen
  have Hbk := Lib.hid hbk
  have Hnext := Lib.hid hnext
  have Hstep := Lib.hid hstep
  have Hstart := Lib.hid hstart
  have Hcol := Lib.hid hcol
  have Hp := Lib.hid hp
  have hlemm : pv.length ≤ m := hle
  clear hat hgl hval hlen hbk hnext hstep hstart hcol hm hd hcnd hcS hrow hfo hbM hp
  have hsg : (¬ d < 0 ∧ sg d = 1) ∨ (d < 0 ∧ sg d = -1) := by unfold sg; split <;> omega
  have hfi : (f : Int) < (S : Int) := by omega
  have K := Maps.int_keyed (P := Tryz.prog) Tryz.underlying3
  rcases hsg with ⟨hdn, hs⟩ | ⟨hdn, hs⟩
  · have hm1 : IntKind.i64.wrap (sg d * d) = sg d * d := by rw [hs, IntKind.wrap_i64]; omega
    rw [hs] at hm1
    have Hs := Lib.hid hs
    clear hs
    go_enter Tryz.func51, Tryz.ntmps51
    have hexb : Ext w (w.alloc (.cells #[.slice A m cv, .map (some mb), .slice Ao S co, .int .i64 d] 122)) := by simp
    have p0 : ∀ w', Ext (w.alloc (.cells #[.slice A m cv, .map (some mb), .slice Ao S co, .int .i64 d] 122)) w' → w'.cell? ⟨w.heap.size, 0, none⟩ = some (.slice A m cv) := fun w' he => cells_one rfl w' he
    have p1 : ∀ w', Ext (w.alloc (.cells #[.slice A m cv, .map (some mb), .slice Ao S co, .int .i64 d] 122)) w' → w'.cell? ⟨w.heap.size, 1, none⟩ = some (.map (some mb)) := fun w' he => cells_one rfl w' he
    have p2 : ∀ w', Ext (w.alloc (.cells #[.slice A m cv, .map (some mb), .slice Ao S co, .int .i64 d] 122)) w' → w'.cell? ⟨w.heap.size, 2, none⟩ = some (.slice Ao S co) := fun w' he => cells_one rfl w' he
    have p3 : ∀ w', Ext (w.alloc (.cells #[.slice A m cv, .map (some mb), .slice Ao S co, .int .i64 d] 122)) w' → w'.cell? ⟨w.heap.size, 3, none⟩ = some (.int .i64 d) := fun w' he => cells_one rfl w' he
    have hsz : (w.alloc (.cells #[.slice A m cv, .map (some mb), .slice Ao S co, .int .i64 d] 122)).heap.size = w.heap.size + 1 := by
      simp only [World.alloc, Array.size_push]
    have Hsz := Lib.hid hsz
    clear hsz
    have Hpb := Lib.hid (MapI.later Hp.out hexb)
    go_wp2_with (first
      | (refine own_make (w1 := w) int_elem rfl _ _ rfl Tryz.underlying26 _ S rfl rfl (by omega) (by unfold maxLen; omega) hexb ?_; intro w2 hown hx2; rw [made_ints] at hown; have hnew := NewInts.of_own hown; rw [Hsz.out] at hnew; have hco := hnew.cell (k := f) (by rw [List.length_replicate]; exact hf); have hfr := hnew.frz f; have hxs := fun v => Ext.setCell (p := ⟨w.heap.size + 1, f, none⟩) hx2 (Nat.le_of_eq Hsz.out) v)
      | (at_range; go_loud (refine wpList_range_own _ rfl _ 120 rfl 3 3 K Tryz.underlying120 (plainElem Tryz.prog 3) mb pv.length D rfl (MapI.later Hpb.out (hxs _)) ?_); intro w3 hrg hg3 hs3))
    (first | go_frame | skip)
    have ev : sg d * d = d := by rw [Hs.out]; omega
    have hout := (hnew.put f d).later ((Ext.refl _).grown hg3 (fun k hk => by cases hk))
    have hx3 : Ext (w.alloc (.cells #[.slice A m cv, .map (some mb), .slice Ao S co, .int .i64 d] 122)) w3 := (hxs _).grown hg3 (fun k hk => by cases hk)
    have hlt0 : w.heap.size + 1 < w2.heap.size := hnew.lt
    have hsz2 : (w2.setCell ⟨w.heap.size + 1, f, none⟩ (.int .i64 d)).heap.size = w2.heap.size := by simp only [World.setCell, Array.size_modify]
    rw [hsz2] at hrg
    clear hsz2
    have hI0 := Hstart.out
    rw [ev] at hI0
    have hstart : ∃ (left : Lit → Bool) (cnt : Nat) (xs : List Int), w3.ranges Tryz.prog 3 (plainElem Tryz.prog 3) mb w2.heap.size pv.length D left cnt ∧ NewInts w w3 (w.heap.size + 1) xs ∧ MotI S pv M d f D left xs ∧ Ext (w.alloc (.cells #[.slice A m cv, .map (some mb), .slice Ao S co, .int .i64 d] 122)) w3 := ⟨_, _, _, hrg, hout, hI0, hx3⟩
    have Hst := Lib.hid hstart
    have P0 := Lib.hid p0
    have Hlt0 := Lib.hid hlt0
    clear hstart hI0 hx3 hout hrg hg3 hs3 hxs hnew hco hfr hx2 hown p0 p1 p2 p3 ev hlt0 hm1
    have hwx := hexb
    generalize w.alloc (.cells #[.slice A m cv, .map (some mb), .slice Ao S co, .int .i64 d] 122) = wb at *
    (first | go_simp | skip)
    generalize w2.heap.size = r at *
    generalize w.heap.size + 1 = g0 at *
    go_loopw [] (fun wr => ∃ (left : Lit → Bool) (cnt : Nat) (xs : List Int), wr.ranges Tryz.prog 3 (plainElem Tryz.prog 3) mb r pv.length D left cnt ∧ NewInts w wr g0 xs ∧ MotI S pv M d f D left xs ∧ Ext wb wr) (fun wr => wr.rangeLeft mb r)
    case atStart => exact Hst.out
    case round =>
      clear Hst
      obtain ⟨left, cnt, xs, hrg, hout, hI, hex⟩ := hrel
      go_wp2_with (first
        | (at_next; refine wpList_next_ranges_ii _ rfl _ rfl 3 3 .i64 .i64 K Tryz.underlying3 Tryz.underlying3 mb r pv.length _ _ _ rfl hrg ?_ ?_))
      · intro hc0 hl0
        go_wp2
        go_ret
        exact ⟨g0, xs, rfl, hout, hI.done hl0⟩
      · intro x c w4 cnt1 hwx1 hwc hlx hat hrg1 hlt hg1 hs1 hen
        obtain ⟨k, hk, rfl, rfl⟩ := Hnext.out left xs hI x c hlx hat
        obtain ⟨gv, cv', ev, c0, _⟩ := Hat.out k hk
        simp only [Value.slice.injEq, true_and] at ev
        obtain ⟨rfl, rfl⟩ := ev
        have hbr : wb.heap.size ≤ r := by have := Hsz.out; have := Hlt0.out; omega
        have hgr : g0 ≠ r := by have := Hlt0.out; omega
        have hex4 : Ext wb w4 := hex.grown hg1 (fun j hj => by injection hj with hj; omega)
        have hout4 := hout.far hg1 hgr (Nat.le_trans hwx.le hbr)
        have hstep := Hstep.out left xs hI k hk
        have hcal := Hgl.out k hk
        rw [Hlen.out k hk, Hval.out k hk] at hcal
        have hby := Hbk.out k hk
        have hcl := Hcol.out k hk
        have hcell := hout4.cell (k := pv[k].2) (by rw [hI.len]; exact hcl)
        have hfrz := hout4.frz pv[k].2
        have h0 := P0.out w4 hex4
        have hrow := c0 w4 (hwx.trans hex4)
        have hkm : (k : Int) < (m : Int) := by omega
        have hmbg : some mb ≠ some g0 := fun e => by
          have h1 := Hp.out.lt
          have h2 := Option.some.inj e
          have h3 := hwx.le
          have h4 := Hsz.out
          omega
        have hrg0 : some r ≠ some g0 := fun e => hgr (Option.some.inj e).symm
        have Hstp := Lib.hid hstep
        have Hcal := Lib.hid (fun w' he => hcal w' he)
        have Ho4 := Lib.hid hout4
        have He4 := Lib.hid hex4
        have Hrg := Lib.hid hrg
        have Hrg1 := Lib.hid hrg1
        have Hmbg := Lib.hid hmbg
        have Hrg0 := Lib.hid hrg0
        have Hhl := Lib.hid hlt
        have hci : ((pv[k].2 : Nat) : Int) < (S : Int) := by omega
        have hw4 := hwx.trans hex4
        clear hstep hcal hout4 hex4 hrg hrg1 hmbg hrg0 hlt hout hI hex c0 hg1 hs1 hat hlx hwc hwx1 Hat Hgl Hval Hlen Hbk Hnext Hstep Hcol hcl
        obtain ⟨z, hz⟩ : ∃ z, z = -sg d * M pv[k].1 f := ⟨_, rfl⟩
        rw [← hz] at Hstp
        rw [Hs.out] at hz
        generalize M pv[k].1 f = y at *
        generalize pv[k].2 = cc at *
        have hA : IntKind.i64.wrap (-1 * y) = z := by rw [IntKind.wrap_i64]; omega
        have hB : IntKind.i64.wrap (-y) = z := by rw [IntKind.wrap_i64]; omega
        clear hz hby
        go_wp2_with (first
          | (go_at_call 53; refine (Hcal.out _ hw4).mono ?_; rintro e w5 ⟨rfl, rfl⟩))
        have hnew := Ho4.out.put cc z
        have hrg5 := Hrg1.out.kept (grown_setAt (p := ⟨g0, cc, none⟩) (v := .int .i64 z)) Hmbg.out Hrg0.out
        have hex5 := He4.out.setCell (p := ⟨g0, cc, none⟩) (by have := Hsz.out; exact Nat.le_of_eq this) (.int .i64 z)
        go_roundw
        case rel => exact ⟨_, cnt1, _, hrg5, hnew, Hstp.out, hex5⟩
        case measure => rw [hrg5.left_eq, Hrg.out.left_eq]; exact Hhl.out
  · have hm1 : IntKind.i64.wrap (sg d * d) = sg d * d := by rw [hs, IntKind.wrap_i64]; omega
    rw [hs] at hm1
    have Hs := Lib.hid hs
    clear hs
    go_enter Tryz.func51, Tryz.ntmps51
    have hexb : Ext w (w.alloc (.cells #[.slice A m cv, .map (some mb), .slice Ao S co, .int .i64 d] 122)) := by simp
    have p0 : ∀ w', Ext (w.alloc (.cells #[.slice A m cv, .map (some mb), .slice Ao S co, .int .i64 d] 122)) w' → w'.cell? ⟨w.heap.size, 0, none⟩ = some (.slice A m cv) := fun w' he => cells_one rfl w' he
    have p1 : ∀ w', Ext (w.alloc (.cells #[.slice A m cv, .map (some mb), .slice Ao S co, .int .i64 d] 122)) w' → w'.cell? ⟨w.heap.size, 1, none⟩ = some (.map (some mb)) := fun w' he => cells_one rfl w' he
    have p2 : ∀ w', Ext (w.alloc (.cells #[.slice A m cv, .map (some mb), .slice Ao S co, .int .i64 d] 122)) w' → w'.cell? ⟨w.heap.size, 2, none⟩ = some (.slice Ao S co) := fun w' he => cells_one rfl w' he
    have p3 : ∀ w', Ext (w.alloc (.cells #[.slice A m cv, .map (some mb), .slice Ao S co, .int .i64 d] 122)) w' → w'.cell? ⟨w.heap.size, 3, none⟩ = some (.int .i64 d) := fun w' he => cells_one rfl w' he
    have hsz : (w.alloc (.cells #[.slice A m cv, .map (some mb), .slice Ao S co, .int .i64 d] 122)).heap.size = w.heap.size + 1 := by
      simp only [World.alloc, Array.size_push]
    have Hsz := Lib.hid hsz
    clear hsz
    have Hpb := Lib.hid (MapI.later Hp.out hexb)
    go_wp2_with (first
      | (refine own_make (w1 := w) int_elem rfl _ _ rfl Tryz.underlying26 _ S rfl rfl (by omega) (by unfold maxLen; omega) hexb ?_; intro w2 hown hx2; rw [made_ints] at hown; have hnew := NewInts.of_own hown; rw [Hsz.out] at hnew; have hco := hnew.cell (k := f) (by rw [List.length_replicate]; exact hf); have hfr := hnew.frz f; have hxs := fun v => Ext.setCell (p := ⟨w.heap.size + 1, f, none⟩) hx2 (Nat.le_of_eq Hsz.out) v)
      | (at_range; go_loud (refine wpList_range_own _ rfl _ 120 rfl 3 3 K Tryz.underlying120 (plainElem Tryz.prog 3) mb pv.length D rfl (MapI.later Hpb.out (hxs _)) ?_); intro w3 hrg hg3 hs3))
    (first | go_frame | skip)
    have ev : sg d * d = (-d) := by rw [Hs.out]; omega
    have hout := (hnew.put f (-d)).later ((Ext.refl _).grown hg3 (fun k hk => by cases hk))
    have hx3 : Ext (w.alloc (.cells #[.slice A m cv, .map (some mb), .slice Ao S co, .int .i64 d] 122)) w3 := (hxs _).grown hg3 (fun k hk => by cases hk)
    have hlt0 : w.heap.size + 1 < w2.heap.size := hnew.lt
    have hsz2 : (w2.setCell ⟨w.heap.size + 1, f, none⟩ (.int .i64 (-d))).heap.size = w2.heap.size := by simp only [World.setCell, Array.size_modify]
    rw [hsz2] at hrg
    clear hsz2
    have hI0 := Hstart.out
    rw [ev] at hI0
    have hstart : ∃ (left : Lit → Bool) (cnt : Nat) (xs : List Int), w3.ranges Tryz.prog 3 (plainElem Tryz.prog 3) mb w2.heap.size pv.length D left cnt ∧ NewInts w w3 (w.heap.size + 1) xs ∧ MotI S pv M d f D left xs ∧ Ext (w.alloc (.cells #[.slice A m cv, .map (some mb), .slice Ao S co, .int .i64 d] 122)) w3 := ⟨_, _, _, hrg, hout, hI0, hx3⟩
    have Hst := Lib.hid hstart
    have P0 := Lib.hid p0
    have Hlt0 := Lib.hid hlt0
    clear hstart hI0 hx3 hout hrg hg3 hs3 hxs hnew hco hfr hx2 hown p0 p1 p2 p3 ev hlt0 hm1
    have hwx := hexb
    generalize w.alloc (.cells #[.slice A m cv, .map (some mb), .slice Ao S co, .int .i64 d] 122) = wb at *
    (first | go_simp | skip)
    generalize w2.heap.size = r at *
    generalize w.heap.size + 1 = g0 at *
    go_loopw [] (fun wr => ∃ (left : Lit → Bool) (cnt : Nat) (xs : List Int), wr.ranges Tryz.prog 3 (plainElem Tryz.prog 3) mb r pv.length D left cnt ∧ NewInts w wr g0 xs ∧ MotI S pv M d f D left xs ∧ Ext wb wr) (fun wr => wr.rangeLeft mb r)
    case atStart => exact Hst.out
    case round =>
      clear Hst
      obtain ⟨left, cnt, xs, hrg, hout, hI, hex⟩ := hrel
      go_wp2_with (first
        | (at_next; refine wpList_next_ranges_ii _ rfl _ rfl 3 3 .i64 .i64 K Tryz.underlying3 Tryz.underlying3 mb r pv.length _ _ _ rfl hrg ?_ ?_))
      · intro hc0 hl0
        go_wp2
        go_ret
        exact ⟨g0, xs, rfl, hout, hI.done hl0⟩
      · intro x c w4 cnt1 hwx1 hwc hlx hat hrg1 hlt hg1 hs1 hen
        obtain ⟨k, hk, rfl, rfl⟩ := Hnext.out left xs hI x c hlx hat
        obtain ⟨gv, cv', ev, c0, _⟩ := Hat.out k hk
        simp only [Value.slice.injEq, true_and] at ev
        obtain ⟨rfl, rfl⟩ := ev
        have hbr : wb.heap.size ≤ r := by have := Hsz.out; have := Hlt0.out; omega
        have hgr : g0 ≠ r := by have := Hlt0.out; omega
        have hex4 : Ext wb w4 := hex.grown hg1 (fun j hj => by injection hj with hj; omega)
        have hout4 := hout.far hg1 hgr (Nat.le_trans hwx.le hbr)
        have hstep := Hstep.out left xs hI k hk
        have hcal := Hgl.out k hk
        rw [Hlen.out k hk, Hval.out k hk] at hcal
        have hby := Hbk.out k hk
        have hcl := Hcol.out k hk
        have hcell := hout4.cell (k := pv[k].2) (by rw [hI.len]; exact hcl)
        have hfrz := hout4.frz pv[k].2
        have h0 := P0.out w4 hex4
        have hrow := c0 w4 (hwx.trans hex4)
        have hkm : (k : Int) < (m : Int) := by omega
        have hmbg : some mb ≠ some g0 := fun e => by
          have h1 := Hp.out.lt
          have h2 := Option.some.inj e
          have h3 := hwx.le
          have h4 := Hsz.out
          omega
        have hrg0 : some r ≠ some g0 := fun e => hgr (Option.some.inj e).symm
        have Hstp := Lib.hid hstep
        have Hcal := Lib.hid (fun w' he => hcal w' he)
        have Ho4 := Lib.hid hout4
        have He4 := Lib.hid hex4
        have Hrg := Lib.hid hrg
        have Hrg1 := Lib.hid hrg1
        have Hmbg := Lib.hid hmbg
        have Hrg0 := Lib.hid hrg0
        have Hhl := Lib.hid hlt
        have hci : ((pv[k].2 : Nat) : Int) < (S : Int) := by omega
        have hw4 := hwx.trans hex4
        clear hstep hcal hout4 hex4 hrg hrg1 hmbg hrg0 hlt hout hI hex c0 hg1 hs1 hat hlx hwc hwx1 Hat Hgl Hval Hlen Hbk Hnext Hstep Hcol hcl
        obtain ⟨z, hz⟩ : ∃ z, z = -sg d * M pv[k].1 f := ⟨_, rfl⟩
        rw [← hz] at Hstp
        rw [Hs.out] at hz
        generalize M pv[k].1 f = y at *
        generalize pv[k].2 = cc at *
        have hA : IntKind.i64.wrap (1 * y) = z := by rw [IntKind.wrap_i64]; omega
        have hB : IntKind.i64.wrap (y) = z := by rw [IntKind.wrap_i64]; omega
        clear hz hby
        go_wp2_with (first
          | (go_at_call 53; refine (Hcal.out _ hw4).mono ?_; rintro e w5 ⟨rfl, rfl⟩))
        have hnew := Ho4.out.put cc z
        have hrg5 := Hrg1.out.kept (grown_setAt (p := ⟨g0, cc, none⟩) (v := .int .i64 z)) Hmbg.out Hrg0.out
        have hex5 := He4.out.setCell (p := ⟨g0, cc, none⟩) (by have := Hsz.out; exact Nat.le_of_eq this) (.int .i64 z)
        go_roundw
        case rel => exact ⟨_, cnt1, _, hrg5, hnew, Hstp.out, hex5⟩
        case measure => rw [hrg5.left_eq, Hrg.out.left_eq]; exact Hhl.out
end Go.Proofs.YtebkhdhhajjhfaaGreat.Gr

/- The order of shafts with two at the end: what becomes of the literal that names them; the equations, when another block turns. -/
namespace Go.Proofs.YtebkhdhhajjhfaaGreat.Gr
open Go.RowKit

/-- The order, in new memory; no block turns but the literal's. -/
def OrdPair (w : World) (gl : Nat) (l : List Int) (e : Ending) (w' : World) : Prop := ∃ A c, e = .returned (.slice A l.length c) ∧ Ints w' A l ∧ w.grownBy w' (some gl)

theorem OrdPair.ext {w w' : World} {gl : Nat} {b : World} (hg : w.grownBy w' (some gl)) (he : Ext b w) (hl : b.heap.size ≤ gl) : Ext b w' := he.grown hg fun j e => by have := Option.some.inj e; omega

/-- The first blocks of a world. -/
def cutAt (w : World) (k : Nat) : World := { w with heap := w.heap.extract 0 k }
theorem cut_size {w : World} {k : Nat} (h : k ≤ w.heap.size) : (cutAt w k).heap.size = k := by simp [cutAt]; omega
theorem cut_ext {w : World} {k : Nat} : Ext (cutAt w k) w := ⟨rfl, rfl, rfl, by simp only [cutAt, Array.size_extract]; omega, fun j hj => by
  have h2 : j < (w.heap.extract 0 k).size := hj
  simp only [Array.size_extract] at h2
  simp only [cutAt, Array.getElem?_extract]
  rw [if_pos (by omega), Nat.zero_add]⟩

theorem _root_.Go.Proofs.YtebkhdhhajjhfaaGreat.Own.far_put {w w2 : World} {v : Value} {n : Nat} {xs : List Value} {gl : Nat} (h : Own w w2 3 1 v n xs) (hl : gl < w.heap.size) (u : Value) :
    Own (cutAt w gl) (w2.setCell ⟨gl, 1, none⟩ u) 3 1 v n xs :=
  (h.since cut_ext).other (p := ⟨gl, 1, none⟩) (by rw [cut_size (by omega)]; exact Nat.le_refl _) (fun e => by have := (h.2.lt gl e).1; omega) u

theorem pair_grown {w w1 w' : World} {v : Value} {gl : Nat} {u : Value} (h : w.grownBy w1 (some gl)) (hv : ∀ j, v.ownBlock = some j → w.heap.size ≤ j) (hg : (w1.setCell ⟨gl, 1, none⟩ u).grownBy w' v.ownBlock) : w.grownBy w' (some gl) := by
  have h1 : w.grownBy (w1.setCell ⟨gl, 1, none⟩ u) (some gl) := h.trans (grown_setAt (p := ⟨gl, 1, none⟩))
  refine ⟨hg.os.trans h1.os, hg.tape.trans h1.tape, hg.output.trans h1.output, Nat.le_trans h1.size hg.size, fun k hk hne => ?_⟩
  rw [hg.block k (Nat.lt_of_lt_of_le hk h1.size) (fun e => by have := hv k e.symm; omega)]
  exact h1.block k hk hne

set_option maxRecDepth 100000 in
set_option maxHeartbeats 4000000 in
theorem order_pair (S : Nat) (ms : Value) (w : World) (hS : S ≤ 8) (gl : Nat) (x y : Int) (h0 : w.cell? ⟨gl, 0, none⟩ = some (vint x)) (h1 : w.cell? ⟨gl, 1, none⟩ = some (vint y)) (hf : w.frozen? ⟨gl, 1, none⟩ = false) :
    Calls Tryz.prog 49 #[.agg #[.int .i64 S, ms], .slice (some ⟨gl, 0, none⟩) 2 2] w (OrdPair w gl (ordS S [x, y])) := by
  have hcon := fun (s : Nat) (w' : World) (he : Ext w w') => contains_any (some ⟨gl, 0, none⟩) 2 [x, y] s w' (ints_two (he.cell h0) (he.cell h1)) (by simp)
  simp only [List.length_nil, List.length_cons, Nat.zero_add, Nat.reduceAdd] at hcon
  have Hcon := Lib.hid hcon
  clear hcon
  have hsk := fun (k : Nat) (h : memB [x, y] (k : Int) = true) => ordP_skip (xs := [x, y]) h
  have htk := fun (k : Nat) (h : memB [x, y] (k : Int) = false) => ordP_take (xs := [x, y]) h
  have hle := fun (k : Nat) => ordP_le [x, y] k
  have Hsk := Lib.hid hsk
  have Htk := Lib.hid htk
  have Hle := Lib.hid hle
  clear hsk htk hle
  go_enter Tryz.func49, Tryz.ntmps49
  go_wp2
  go_loopw [9, 5] (fun i o wr => ∃ k : Nat, k ≤ S ∧ i = .int .i64 k ∧ Own w wr 3 1 o (ordP [x, y] k).length ((ordP [x, y] k).map vint)) (fun i _ _ => S - (intOf i).toNat)
  case atStart => exact ⟨0, by omega, rfl, Own.nil' (by simp) _ _⟩
  case round =>
    obtain ⟨k, hk, rfl, hown⟩ := hrel
    obtain ⟨Av, cv, hv⟩ := hown.form
    subst hv
    have hex := hown.ext
    have hlk := Hle.out k
    by_cases hlt : k < S
    · cases hm : memB [x, y] (k : Int)
      · have htk := Htk.out k hm
        have hc := Hcon.out k
        rw [hm] at hc
        have Hc := Lib.hid hc
        have Hk := Lib.hid htk
        clear hc htk hm
        generalize ordP [x, y] k = l at *
        go_wp2_with (first
          | (go_at_call 86; refine (Hc.out _ hex).mono ?_; rintro e w' ⟨rfl, rfl⟩)
          | (refine own_append_int (w1 := w) rfl _ _ rfl _ l.length (l.map vint) rfl hown k rfl (by omega) ?_; intro v' w' ho))
        go_roundw
        case rel =>
          refine ⟨k + 1, by omega, by go_num, ?_⟩
          rw [Hk.out, List.length_append, List.map_append]
          exact ho
        case measure => simp [intOf]; omega
      · have htk := Hsk.out k hm
        have hc := Hcon.out k
        rw [hm] at hc
        have Hc := Lib.hid hc
        have Hk := Lib.hid htk
        clear hc htk hm
        go_wp2_with (go_at_call 86; refine (Hc.out _ hex).mono ?_; rintro e w' ⟨rfl, rfl⟩)
        go_roundw
        case rel => exact ⟨k + 1, by omega, by go_num, by rw [Hk.out]; exact hown⟩
        case measure => simp [intOf]; omega
    · obtain rfl : k = S := by omega
      have hcap : (ordP [x, y] k).length ≤ cv := hown.cap
      have hown' := Lib.hid hown
      have hlw : gl < w.heap.size := World.block_lt_of_cell? _ _ h0
      have hc := compact_two gl x y wr (he_ hown.ext h0) (he_ hown.ext h1) ((hown.ext.frozen hlw).trans hf)
      have Hc2 := Lib.hid hc
      clear hc
      generalize hl : ordP [x, y] k = l at *
      clear hown
      by_cases exy : x = y
      · have Exy := Lib.hid exy
        go_wp2_with (first
          | (go_at_call 87; refine Hc2.out.mono ?_; rintro e w2 (⟨hne, _⟩ | ⟨_, rfl, w1, hx1, rfl⟩); exact absurd Exy.out hne; have hoc := (hown'.out.later hx1); have hob := hoc.far_put hlw (vint 0); have hr : Row (w1.setCell ⟨gl, 1, none⟩ (vint 0)) (some ⟨gl, 0, none⟩) [vint x] := ints_one (by rw [World.cell?_setCell_other _ _ _ _ (by simp)]; exact hx1.cell (he_ hown'.out.ext h0)))
          | (refine own_append_src (w1 := cutAt w gl) int_elem rfl _ _ 26 rfl Tryz.underlying26 _ l.length (l.map vint) rfl hob _ 1 2 [vint x] rfl rfl hr (by intro u hu; simp at hu; subst hu; rfl) (by omega) (by unfold maxLen; omega) ?_; intro v' w' ho hgr; obtain ⟨A', c', rfl⟩ := ho.form))
        go_ret
        have e : ordS k [x, y] = l ++ [x] := by
          show ordP [x, y] k ++ (if x = y then [x] else [x, y]) = _
          rw [hl, if_pos Exy.out]
        rw [e]
        refine ⟨A', c', by simp, ?_, ?_⟩
        · have := Own.row ho
          simpa [Ints] using this
        · exact pair_grown (hoc.ext.grownBy _) (fun j hj => (hoc.2.lt j hj).1) hgr
      · have Exy := Lib.hid exy
        go_wp2_with (first
          | (go_at_call 87; refine Hc2.out.mono ?_; rintro e w2 (⟨_, rfl, hx2⟩ | ⟨he, _⟩); rotate_left; exact absurd he Exy.out; have hob := hown'.out.later hx2; have hr : Row w2 (some ⟨gl, 0, none⟩) [vint x, vint y] := ints_two (hx2.cell (he_ hown'.out.ext h0)) (hx2.cell (he_ hown'.out.ext h1)))
          | (refine own_append_src (w1 := w) int_elem rfl _ _ 26 rfl Tryz.underlying26 _ l.length (l.map vint) rfl hob _ 2 2 [vint x, vint y] rfl rfl hr (by intro u hu; simp at hu; rcases hu with rfl | rfl <;> rfl) (by omega) (by unfold maxLen; omega) ?_; intro v' w' ho _; obtain ⟨A', c', rfl⟩ := ho.form))
        go_ret
        have e : ordS k [x, y] = l ++ [x, y] := by
          show ordP [x, y] k ++ (if x = y then [x] else [x, y]) = _
          rw [hl, if_neg Exy.out]
        rw [e]
        refine ⟨A', c', by simp, ?_, ho.ext.grownBy _⟩
        have := Own.row ho
        simpa [Ints] using this
/-- The equations, when a block turns that was there before them. -/
theorem isRows.grown {b0 b w w' : World} {ms : List Msh} {S gl : Nat} {v : Value} (h : isRows b ms S v w) (he : Ext b0 b) (hg : w.grownBy w' (some gl)) (h1 : b0.heap.size ≤ gl) (h2 : gl < b.heap.size) : isRows b0 ms S v w' := by
  obtain ⟨rs, hm, hr⟩ := h
  have hx : Ext b0 w' := OrdPair.ext hg (he.trans hm.own.ext) h1
  have old : ∀ {j : Nat} {xs : List Int}, NewInts b w j xs → NewInts b0 w' j xs := fun {j xs} hj => ⟨hx, Nat.le_trans he.le hj.2.1, (hg.block j hj.lt (fun e => by have := Option.some.inj e; have := hj.2.1; omega)).trans hj.2.2⟩
  refine ⟨rs, ⟨⟨hx, (hm.own.since he).2.kept hg (.inr fun e => by have := (hm.own.2.lt gl e).1; omega)⟩, fun r hr => ?_, hm.nd⟩, hr⟩
  have := hm.rows r hr
  exact ⟨old this.gl, old this.hb, this.ln, this.bn⟩
end Go.Proofs.YtebkhdhhajjhfaaGreat.Gr

/- The sum of equations, by the reference. -/
namespace Go.Proofs.YtebkhdhhajjhfaaGreat.Gr
open Go.RowKit

end Go.Proofs.YtebkhdhhajjhfaaGreat.Gr

/- Whether a list's numbers fit, and whether it is a motion: by the reference. -/
namespace Go.Proofs.YtebkhdhhajjhfaaGreat.Gr
open Go.RowKit

end Go.Proofs.YtebkhdhhajjhfaaGreat.Gr

/- Pistons, fifth text: the reference's Places; the greatest common divisor; slices of pistons. -/
namespace Go.Proofs.YtebkhdhhajjhfaaGreat.Gr
open Go.RowKit

/-! ### The greatest common divisor -/

def dvS (a b : Int) : Int := (if b < 0 then -1 else 1) * (Int.gcd a b : Int)

theorem gcd_tmod (x y : Int) : Int.gcd y (x.tmod y) = Int.gcd x y := by
  show Nat.gcd y.natAbs (x.tmod y).natAbs = Nat.gcd x.natAbs y.natAbs
  rw [Int.natAbs_tmod, Nat.gcd_comm x.natAbs y.natAbs, Nat.gcd_comm, ← Nat.gcd_rec]

set_option maxHeartbeats 400000 in
theorem divisor_any (a b : Int) (w : World) (hb1 : -9223372036854775807 ≤ b) (hb2 : b ≤ 9223372036854775807) (ha : b = 0 → -9223372036854775807 ≤ a ∧ a ≤ 9223372036854775807) :
    Calls Tryz.prog 52 #[.int .i64 a, .int .i64 b] w fun e w' => e = .returned (.int .i64 (dvS a b)) ∧ Ext w w' := by
  have hfin : ∀ x s : Int, (Int.gcd x 0 = Int.gcd a b) → s = (if b < 0 then -1 else 1) → s * max x (-x) = dvS a b := fun x s h1 h2 => by
    unfold dvS
    rw [← h1, h2]
    congr 1
    simp [Int.gcd]
    omega
  have Hfin := Lib.hid hfin
  clear hfin
  have a1 : b = 0 → -9223372036854775807 ≤ a := fun h => (ha h).1
  have a2 : b = 0 → a ≤ 9223372036854775807 := fun h => (ha h).2
  have A1 := Lib.hid a1
  have A2 := Lib.hid a2
  clear ha a1 a2
  go_enter Tryz.func52, Tryz.ntmps52
  go_wp2
  all_goals
    go_loopw [0, 1] (fun u v wr => ∃ x y : Int, u = .int .i64 x ∧ v = .int .i64 y ∧ Ext w wr ∧ Int.gcd x y = Int.gcd a b ∧ -9223372036854775807 ≤ y ∧ y ≤ 9223372036854775807 ∧ (y = 0 → -9223372036854775807 ≤ x) ∧ (y = 0 → x ≤ 9223372036854775807)) (fun _ v _ => (intOf v).natAbs)
    case atStart => exact ⟨a, b, rfl, rfl, Ext.refl _, rfl, hb1, hb2, A1.out, A2.out⟩
    case round =>
      obtain ⟨x, y, rfl, rfl, hex, hg, h1, h2, h3, h4⟩ := hrel
      have Hg := Lib.hid hg
      have H3 := Lib.hid h3
      have H4 := Lib.hid h4
      clear hg h3 h4
      by_cases hy : y = 0
      · subst hy
        have h3 := H3.out rfl
        have h4 := H4.out rfl
        go_wp2
        all_goals go_ret
        all_goals refine ⟨ret_i ?_, hex⟩
        all_goals first
          | (rw [← Hfin.out x 1 Hg.out (by rw [if_neg (by omega)])]; omega)
          | (rw [← Hfin.out x (-1) Hg.out (by rw [if_pos (by omega)])]; omega)
      · have hy' : (y == 0) = false := beq_eq_false_iff_ne.2 hy
        have hy2 : (y != 0) = true := by rw [bne_iff_ne]; exact hy
        have hab : (x.tmod y).natAbs < y.natAbs := by rw [Int.natAbs_tmod]; exact Nat.mod_lt _ (by omega)
        have hg2 := gcd_tmod x y
        have Hg2 := Lib.hid hg2
        clear hg2
        go_wp2
        go_quiet (fail)
        go_wp2
        go_roundw
        case rel => exact ⟨y, x.tmod y, rfl, rfl, hex.trans (by simp), Hg2.out.trans Hg.out, by omega, by omega, fun _ => by omega, fun _ => by omega⟩
        case measure => simp [intOf]; exact Nat.mod_lt _ (by omega)
end Go.Proofs.YtebkhdhhajjhfaaGreat.Gr

/- Which shafts a line names; lowest terms. -/
namespace Go.Proofs.YtebkhdhhajjhfaaGreat.Gr
open Go.RowKit

def onlyP (l all : List Int) : Prop := ∀ k, k < l.length → getI l k ≠ 0 → memB all (k : Int) = true
instance (l all : List Int) : Decidable (onlyP l all) := by unfold onlyP; infer_instance

set_option maxRecDepth 100000 in
set_option maxHeartbeats 1000000 in
theorem only_any (A : Option Addr) (c : Nat) (l : List Int) (B : Option Addr) (d : Nat) (all : List Int) (w : World) (hA : Ints w A l) (hB : Ints w B all) (hl : l.length ≤ 1000000) (hl2 : all.length ≤ 1000000) :
    Calls Tryz.prog 120 #[.slice A l.length c, .slice B all.length d] w fun e w' => e = .returned (.bool (decide (onlyP l all))) ∧ w = w' := by
  have ha := fun (i : Nat) (hi : i < l.length) => hA.some_ (by omega)
  have hcon := fun (k : Nat) => contains_any B d all (k : Int) w hB hl2
  have hgood : onlyP l all → true = decide (onlyP l all) := fun h => (decide_eq_true h).symm
  have hgood : (∀ k, k < l.length → getI l k ≠ 0 → memB all (k : Int) = true) → true = decide (onlyP l all) := hgood
  have hbad : ∀ k : Nat, k < l.length → getI l k ≠ 0 → memB all (k : Int) = false → false = decide (onlyP l all) := fun k hk h1 h2 => (decide_eq_false fun h => by rw [h k hk h1] at h2; cases h2).symm
  have Ha := Lib.hid ha
  have Hcon := Lib.hid hcon
  have Hgood := Lib.hid hgood
  have Hbad := Lib.hid hbad
  clear ha hcon hgood hbad hA hB
  generalize decide (onlyP l all) = res at *
  generalize l.length = q at *
  generalize all.length = q2 at *
  go_enter Tryz.func120, Tryz.ntmps120
  go_wp2
  go_loop [9] (fun i => ∃ k : Nat, k ≤ q ∧ i = .int .i64 k ∧ ∀ j, j < k → getI l j ≠ 0 → memB all (j : Int) = true) (fun i => q - (intOf i).toNat)
  case atStart => exact ⟨0, by omega, rfl, fun j hj => by omega⟩
  case round =>
    obtain ⟨k, hk, rfl, hall⟩ := hrel
    have Hall := Lib.hid hall
    clear hall
    by_cases hlt : k < q
    · obtain ⟨bd, rfl, hc0⟩ := Ha.out k hlt
      have hc := hc0 k hlt w (Ext.refl w)
      clear hc0
      have hbad := Hbad.out k hlt
      have hst : (getI l k ≠ 0 → memB all (k : Int) = true) → ∀ j, j < k + 1 → getI l j ≠ 0 → memB all (j : Int) = true := fun h j hj => by
        by_cases e : j = k
        · subst e; exact h
        · exact Hall.out j (by omega)
      have hcon := Hcon.out k
      have Hst := Lib.hid hst
      have Hbad' := Lib.hid hbad
      have Hc := Lib.hid hcon
      clear hst hbad hcon Ha Hgood Hbad Hcon
      generalize getI l k = y at *
      generalize memB all (k : Int) = b at *
      have hki : (k : Int) < (q : Int) := by omega
      by_cases hy : y = 0
      · subst hy
        go_wp2
        go_round
        case rel => exact ⟨k + 1, by omega, by go_num, Hst.out (fun h => absurd rfl h)⟩
        case measure => simp [intOf]; omega
      · cases b
        · go_wp2_with (first
            | (go_at_call 86; (with_reducible refine Hc.out.mono ?_); rintro e w1 ⟨rfl, rfl⟩))
          go_ret
          exact ⟨ret_b (Hbad'.out hy (by trivial)), rfl⟩
        · go_wp2_with (first
            | (go_at_call 86; (with_reducible refine Hc.out.mono ?_); rintro e w1 ⟨rfl, rfl⟩))
          go_round
          case rel => exact ⟨k + 1, by omega, by go_num, Hst.out (fun _ => by trivial)⟩
          case measure => simp [intOf]; omega
    · obtain rfl : k = q := by omega
      have Hg := Lib.hid (Hgood.out Hall.out)
      clear Ha
      go_wp2
      go_ret
      exact ⟨ret_b Hg.out, rfl⟩

end Go.Proofs.YtebkhdhhajjhfaaGreat.Gr

/- What proves a jam: by both sides. -/
namespace Go.Proofs.YtebkhdhhajjhfaaGreat.Gr
open Go.RowKit

end Go.Proofs.YtebkhdhhajjhfaaGreat.Gr

/- What proves a shaft loose: by the reference. -/
namespace Go.Proofs.YtebkhdhhajjhfaaGreat.Gr
open Go.RowKit

end Go.Proofs.YtebkhdhhajjhfaaGreat.Gr

/- What proves a ratio: by the reference. -/
namespace Go.Proofs.YtebkhdhhajjhfaaGreat.Gr
open Go.RowKit

section
variable {L : Nat → Nat → Int} {m n i o : Nat} {num den : Int} {F M T : List Int}
theorem rat_no1 (h : ¬ sizedP F m) : decide (ratPr L m n i o num den F M T) = false := decide_eq_false fun h' => h h'.1
theorem rat_no2 (h : ¬ T.length = 0) : decide (ratPr L m n i o num den F M T) = false := decide_eq_false fun h' => h h'.2.1
theorem rat_no3 (h : ¬ movesP L m n M) : decide (ratPr L m n i o num den F M T) = false := decide_eq_false fun h' => h h'.2.2.1
theorem rat_no4 (h : ¬ 0 < getI M i) : decide (ratPr L m n i o num den F M T) = false := decide_eq_false fun h' => h h'.2.2.2.1
theorem rat_no5 (h : ¬ 1 ≤ den) : decide (ratPr L m n i o num den F M T) = false := decide_eq_false fun h' => h h'.2.2.2.2.1
theorem rat_no6 (h : ¬ num.gcd den = 1) : decide (ratPr L m n i o num den F M T) = false := decide_eq_false fun h' => h h'.2.2.2.2.2.1
/-- What is asked of the two shafts. -/
def ratEnd (u v : Int) (num den : Int) : Prop := v.tmod den = 0 ∧ 1 ≤ v.tdiv den ∧ u.tmod (v.tdiv den) = 0 ∧ -u.tdiv (v.tdiv den) = num
end

end Go.Proofs.YtebkhdhhajjhfaaGreat.Gr

/- What proves a ratio: by the reference, where all but the sum is right. -/
namespace Go.Proofs.YtebkhdhhajjhfaaGreat.Gr
open Go.RowKit

/-- A number of the sum, divided. -/
theorem wrap_fit {u : Int} (h : u.natAbs < 9223372036854775807) : IntKind.i64.wrap u = u := by rw [IntKind.wrap_i64]; omega
theorem tdiv_fit {u s : Int} (h : u.natAbs < 9223372036854775807) : (u.tdiv s).natAbs < 9223372036854775807 := by
  rw [Int.natAbs_tdiv]
  exact Nat.lt_of_le_of_lt (Nat.div_le_self _ _) h

end Go.Proofs.YtebkhdhhajjhfaaGreat.Gr

/- Proofs checked, by the reference. -/
namespace Go.Proofs.YtebkhdhhajjhfaaGreat.Gr
open Go.RowKit

def ratE (s : Int) (ms : List Msh) (i o num den : Int) (F M T : List Int) : Int := if askE s ms [i, o] = 0 then (if decide (ratPr (gearL ms s.toNat) ms.length s.toNat i.toNat o.toNat num den F M T) = true then 0 else 31) else askE s ms [i, o]

theorem ask_two {s : Int} {ms : List Msh} {i o : Int} (h : askE s ms [i, o] = 0) : ∃ S I O : Nat, s = S ∧ i = I ∧ o = O ∧ I < S ∧ O < S ∧ trainP S ms := by
  obtain ⟨hT, hin⟩ := askE_zero h
  have ht : trainP s ms := of_decide_eq_true hT
  obtain ⟨S, rfl⟩ : ∃ S : Nat, s = S := ⟨s.toNat, by have := ht.1; omega⟩
  have hi := hin i (by simp)
  have ho := hin o (by simp)
  obtain ⟨I, rfl⟩ : ∃ I : Nat, i = I := ⟨i.toNat, by omega⟩
  obtain ⟨O, rfl⟩ : ∃ O : Nat, o = O := ⟨o.toNat, by omega⟩
  exact ⟨S, I, O, rfl, rfl, rfl, by omega, by omega, ht⟩

end Go.Proofs.YtebkhdhhajjhfaaGreat.Gr

/- A jam's proof checked, by the code. -/
namespace Go.Proofs.YtebkhdhhajjhfaaGreat.Gr
open Go.RowKit

theorem verdict_code (b : Bool) (w : World) : Calls Tryz.prog 80 #[.bool b] w fun e w' => e = .returned (.int .i64 (if b = true then 0 else 31)) ∧ w = w' := by
  cases b
  all_goals
    go_enter Tryz.func80, Tryz.ntmps80
    go_wp2
    go_ret
    exact ⟨rfl, rfl⟩

/-- The fourth of the new blocks. -/
theorem cells_last {w : World} {cs : Array Value} {t : TypeId} {j : Nat} {v : Value} {g : Nat} (hg : w.heap.size = g) (hv : cs[j]? = some v) : (w.alloc (.cells cs t)).cell? ⟨g, j, none⟩ = some v := by
  subst hg
  rw [cell_heap (heap_alloc_new w _), hv]

end Go.Proofs.YtebkhdhhajjhfaaGreat.Gr

/- A loose shaft's proof checked, by the code. -/
namespace Go.Proofs.YtebkhdhhajjhfaaGreat.Gr
open Go.RowKit

end Go.Proofs.YtebkhdhhajjhfaaGreat.Gr

/- What proves a ratio: by the code, where it is refused before the sum. -/
namespace Go.Proofs.YtebkhdhhajjhfaaGreat.Gr
open Go.RowKit

set_option maxRecDepth 100000 in
set_option maxHeartbeats 4000000 in
theorem provesRatioG_bad (A : Option Addr) (c S i o : Nat) (num den : Int) (ms : List Msh) (A1 A2 A3 : Option Addr) (c1 c2 c3 : Nat) (F M T : List Int) (w : World) (hA : MRow w A ms) (ht : trainP S ms) (hi : i < S) (_ho : o < S) (h1 : Ints w A1 F) (h2 : Ints w A2 M) (hl1 : F.length ≤ 1000000) (hl2 : M.length ≤ 1000000) (hden : den ≤ 9223372036854775807) (hbad : ¬ (sizedP F ms.length ∧ T.length = 0 ∧ movesP (gearL ms S) ms.length S M ∧ 0 < getI M i ∧ 1 ≤ den ∧ num.gcd den = 1)) :
    Calls Tryz.prog 81 #[.agg #[.int .i64 S, .slice A ms.length c], .int .i64 i, .int .i64 o, .int .i64 num, .int .i64 den, .agg #[.slice A1 F.length c1, .slice A2 M.length c2, .slice A3 T.length c3]] w fun e w' => e = .returned (.bool (decide (ratPr (gearL ms S) ms.length S i o num den F M T))) ∧ Ext w w' := by
  have cs := fun (w' : World) (he : Ext w w') => sized_any A1 c1 F ms.length w' (h1.ext he) hl1
  have cm := fun (w' : World) (he : Ext w w') => moves_any A c S ms A2 c2 M w' (hA.ext he) ht (h2.ext he) hl2
  have hx : Ext w ((w.alloc (.cells #[.int .i64 S, .slice A ms.length c] 46)).alloc (.cells #[.slice A1 F.length c1, .slice A2 M.length c2, .slice A3 T.length c3] 53)) := ((Ext.refl w).alloc _).alloc _
  have a0 : ∀ w', Ext ((w.alloc (.cells #[.int .i64 S, .slice A ms.length c] 46)).alloc (.cells #[.slice A1 F.length c1, .slice A2 M.length c2, .slice A3 T.length c3] 53)) w' → w'.cell? ⟨w.heap.size, 0, none⟩ = some (.int .i64 S) := fun w' he => cells_one rfl w' (Ext.trans ((Ext.refl _).alloc _) he)
  have a1 : ∀ w', Ext ((w.alloc (.cells #[.int .i64 S, .slice A ms.length c] 46)).alloc (.cells #[.slice A1 F.length c1, .slice A2 M.length c2, .slice A3 T.length c3] 53)) w' → w'.cell? ⟨w.heap.size, 1, none⟩ = some (.slice A ms.length c) := fun w' he => cells_one rfl w' (Ext.trans ((Ext.refl _).alloc _) he)
  have b0 : ∀ w', Ext ((w.alloc (.cells #[.int .i64 S, .slice A ms.length c] 46)).alloc (.cells #[.slice A1 F.length c1, .slice A2 M.length c2, .slice A3 T.length c3] 53)) w' → w'.cell? ⟨w.heap.size + 1, 0, none⟩ = some (.slice A1 F.length c1) := fun w' he => cells_two rfl w' he
  have b1 : ∀ w', Ext ((w.alloc (.cells #[.int .i64 S, .slice A ms.length c] 46)).alloc (.cells #[.slice A1 F.length c1, .slice A2 M.length c2, .slice A3 T.length c3] 53)) w' → w'.cell? ⟨w.heap.size + 1, 1, none⟩ = some (.slice A2 M.length c2) := fun w' he => cells_two rfl w' he
  have b2 : ∀ w', Ext ((w.alloc (.cells #[.int .i64 S, .slice A ms.length c] 46)).alloc (.cells #[.slice A1 F.length c1, .slice A2 M.length c2, .slice A3 T.length c3] 53)) w' → w'.cell? ⟨w.heap.size + 1, 2, none⟩ = some (.slice A3 T.length c3) := fun w' he => cells_two rfl w' he
  by_cases g1 : sizedP F ms.length
  · rw [decide_eq_true g1] at cs
    by_cases g2 : T.length = 0
    · by_cases g3 : movesP (gearL ms S) ms.length S M
      · rw [decide_eq_true g3] at cm
        have hM : M.length = S := g3.1.1
        obtain ⟨d2, rfl, e2⟩ := h2.some_ (by omega)
        have m1 : ∀ w', Ext w w' → w'.cell? (d2.add i) = some (vint (getI M i)) := fun w' he => e2 i (by omega) w' he
        have hii : (i : Int) < (S : Int) := by omega
        have Cs := Lib.hid cs
        have Cm := Lib.hid cm
        have M1 := Lib.hid m1
        rw [hM] at Cm hx a0 a1 b0 b1 b2 ⊢
        by_cases g4 : 0 < getI M i
        · by_cases g5 : 1 ≤ den
          · have g6 : ¬ num.gcd den = 1 := fun h => hbad ⟨g1, g2, g3, g4, g5, h⟩
            have cl := fun (w' : World) => divisor_any num den w' (by omega) hden (by omega)
            have hdv : ¬ dvS num den = 1 := by unfold dvS; rw [if_neg (by omega)]; omega
            have hdv2 : (dvS num den == 1) = false := beq_eq_false_iff_ne.2 hdv
            have hdv3 : (dvS num den != 1) = true := by rw [bne_iff_ne]; exact hdv
            have Cl := Lib.hid cl
            rw [rat_no6 g6]
            clear cl cs cm m1 hbad g1 g3 g6 hA ht h1 h2 hM e2 hl1 hl2
            generalize getI M i = y1 at *
            generalize F.length = q1 at *
            generalize T.length = q3 at *
            generalize ms.length = m at *
            subst g2
            (first | generalize dvS num den = dv at * | skip)
            have g4y : ¬ y1 < 1 := by omega
            go_enter Tryz.func81, Tryz.ntmps81
            go_wp2_with (first
              | (go_at_call 117; (with_reducible refine (Cs.out _ hx).mono ?_); rintro e w1 ⟨rfl, rfl⟩)
              | (go_at_call 118; (with_reducible refine (Cm.out _ hx).mono ?_); rintro e w2 ⟨rfl, hx2⟩; have hxw2 := hx.trans hx2; have k1 := M1.out w2 hxw2)
              | (go_at_call 52; (with_reducible refine (Cl.out _).mono ?_); rintro e w3 ⟨rfl, hx3⟩; have hxw3 := hxw2.trans hx3))
            go_ret
            exact ⟨rfl, hxw3⟩
          · rw [rat_no5 g5]
            have g5' : den < 1 := by omega
            clear cs cm m1 hbad g1 g3 hA ht h1 h2 hM e2 hl1 hl2
            generalize getI M i = y1 at *
            generalize F.length = q1 at *
            generalize T.length = q3 at *
            generalize ms.length = m at *
            subst g2
            (first | generalize dvS num den = dv at * | skip)
            have g4y : ¬ y1 < 1 := by omega
            go_enter Tryz.func81, Tryz.ntmps81
            go_wp2_with (first
              | (go_at_call 117; (with_reducible refine (Cs.out _ hx).mono ?_); rintro e w1 ⟨rfl, rfl⟩)
              | (go_at_call 118; (with_reducible refine (Cm.out _ hx).mono ?_); rintro e w2 ⟨rfl, hx2⟩; have hxw2 := hx.trans hx2; have k1 := M1.out w2 hxw2))
            go_ret
            exact ⟨rfl, hxw2⟩
        · rw [rat_no4 g4]
          have g4' : getI M i < 1 := by omega
          clear cs cm m1 hbad g1 g3 hA ht h1 h2 hM e2 hl1 hl2
          generalize getI M i = y1 at *
          generalize F.length = q1 at *
          generalize T.length = q3 at *
          generalize ms.length = m at *
          subst g2
          go_enter Tryz.func81, Tryz.ntmps81
          go_wp2_with (first
            | (go_at_call 117; (with_reducible refine (Cs.out _ hx).mono ?_); rintro e w1 ⟨rfl, rfl⟩)
            | (go_at_call 118; (with_reducible refine (Cm.out _ hx).mono ?_); rintro e w2 ⟨rfl, hx2⟩; have hxw2 := hx.trans hx2; have k1 := M1.out w2 hxw2))
          go_ret
          exact ⟨rfl, hxw2⟩
      · rw [rat_no3 g3]
        rw [decide_eq_false g3] at cm
        have Cs := Lib.hid cs
        have Cm := Lib.hid cm
        clear cs cm hbad g1 g3 hA ht h1 h2 hl1 hl2
        generalize F.length = q1 at *
        generalize M.length = q2 at *
        generalize T.length = q3 at *
        generalize ms.length = m at *
        subst g2
        go_enter Tryz.func81, Tryz.ntmps81
        go_wp2_with (first
          | (go_at_call 117; (with_reducible refine (Cs.out _ hx).mono ?_); rintro e w1 ⟨rfl, rfl⟩)
          | (go_at_call 118; (with_reducible refine (Cm.out _ hx).mono ?_); rintro e w2 ⟨rfl, hx2⟩; have hxw2 := hx.trans hx2; skip))
        go_ret
        exact ⟨rfl, hxw2⟩
    · rw [rat_no2 g2]
      have Cs := Lib.hid cs
      have g4 : (0 : Int) < (T.length : Int) := by omega
      clear cs cm hbad g1 g2 hA ht h1 h2 hl1 hl2
      generalize F.length = q1 at *
      generalize M.length = q2 at *
      generalize T.length = q3 at *
      generalize ms.length = m at *
      go_enter Tryz.func81, Tryz.ntmps81
      go_wp2_with (first
        | (go_at_call 117; (with_reducible refine (Cs.out _ hx).mono ?_); rintro e w1 ⟨rfl, rfl⟩))
      go_ret
      exact ⟨rfl, hx⟩
  · rw [rat_no1 g1]
    rw [decide_eq_false g1] at cs
    have Cs := Lib.hid cs
    clear cs cm hbad g1 hA ht h1 h2 hl1 hl2
    generalize F.length = q1 at *
    generalize M.length = q2 at *
    generalize T.length = q3 at *
    generalize ms.length = m at *
    go_enter Tryz.func81, Tryz.ntmps81
    go_wp2_with (first
      | (go_at_call 117; (with_reducible refine (Cs.out _ hx).mono ?_); rintro e w1 ⟨rfl, rfl⟩))
    go_ret
    exact ⟨rfl, hx⟩
end Go.Proofs.YtebkhdhhajjhfaaGreat.Gr
