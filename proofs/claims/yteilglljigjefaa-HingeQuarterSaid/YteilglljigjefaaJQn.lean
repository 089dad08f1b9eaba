/- A quarter turn by the law's own function; stores of places into a linkage that is the call's own. -/
import Derived.Test.YteilglljigjefaaJQe
import Derived.Test.YteilglljigjefaaJQp
import Derived.Test.YteilglljigjefaaJQh
namespace Go.Proofs.Yteilglljigjefaa
open Go.RowKit
set_option maxRecDepth 100000 in
theorem quarter_any (s : Sp) (hs : spotB s) (w : World) : Calls Try.prog 50 #[s.val] w fun e w' => e = .returned (qtr s).val ∧ Ext w w' := by
  obtain ⟨x, y⟩ := s
  obtain ⟨⟨h1, h2⟩, h3, h4⟩ := hs
  simp only at h1 h2 h3 h4
  have hw : IntKind.i64.wrap (-y) = -y := by rw [IntKind.wrap_i64]; omega
  have hw2 : IntKind.i64.wrap (0 - y) = -y := by rw [IntKind.wrap_i64]; omega
  go_enter Try.func50, Try.ntmps50
  go_wp2
  exact bodyPost_ret (v := (qtr ⟨x, y⟩).val) (by simp [results, Try.results50, go_sem, qtr]) rfl ⟨rfl, by simp (maxDischargeDepth := 8)⟩
theorem spot_set : ∀ (l : List Sp) (j : Nat) (s : Sp), j < l.length → ((l.map Sp.cells).flatten.set (j * 2) (vint s.x)).set (j * 2 + 1) (vint s.y) = ((l.set j s).map Sp.cells).flatten
  | [], j, s, h => by simp at h
  | q :: t, 0, s, _ => by simp [Sp.cells]
  | q :: t, j + 1, s, h => by
    have ih := spot_set t j s (by simpa using h)
    have e1 : (j + 1) * 2 = j * 2 + 2 := by omega
    simp only [List.map_cons, List.flatten_cons, List.set_cons_succ, Sp.cells] at ih ⊢
    rw [e1, ← ih]
    rfl
section
variable {w1 w : World} {A B : Option Addr} {c d : Nat} {vs : List Value} {ps : List (List Sp)} {hs : List Hg}
theorem pnA_set {ps : List (List Sp)} {i : Nat} (hi : i < ps.length) (l : List Sp) : pnA (ps.set i l) i = l := by simp [pnA, List.getD, hi]
theorem pnA_set_ne {ps : List (List Sp)} {i k : Nat} (h : k ≠ i) (l : List Sp) : pnA (ps.set i l) k = pnA ps k := by simp [pnA, List.getD, Ne.symm h]
/-- A place of a panel, exchanged. -/
theorem TwinOk.spot (h : TwinOk w1 w A c B d vs ps hs) {i j : Nat} (hi : i < ps.length) (hj : j < (pnA ps i).length) : ∃ gP gS cap, A = some ⟨gP, 0, none⟩ ∧ w.cell? ⟨gP, i, none⟩ = some (.slice (some ⟨gS, 0, none⟩) (pnA ps i).length cap) ∧ w1.heap.size ≤ gS ∧ gS < w.heap.size ∧ w1.heap.size ≤ gP ∧ gP < w.heap.size ∧ gS ≠ gP ∧
    w.cell? ⟨gS, j * 2, none⟩ = some (vint (ptA (pnA ps i) j).x) ∧ w.cell? ⟨gS, j * 2 + 1, none⟩ = some (vint (ptA (pnA ps i) j).y) ∧ (∀ k, w.frozen? ⟨gS, k, none⟩ = false) ∧ (∀ g cs, Whole w g cs 25 → g ≠ gS) ∧
    ∀ s : Sp, TwinOk w1 ((w.setCell ⟨gS, j * 2, none⟩ (vint s.x)).setCell ⟨gS, j * 2 + 1, none⟩ (vint s.y)) A c B d vs (ps.set i ((pnA ps i).set j s)) hs := by
  obtain ⟨gP, gS, cap, e1, k1, k2, k3, k4, _, k6, _, k8⟩ := h.panel hi (by omega)
  obtain ⟨hp, hq, ho⟩ := h
  have hpi := hp.own i hi
  obtain ⟨gS', cap', e2, h3, h4⟩ := hpi.at_ (by omega)
  have hv : vs[i]? = some (.slice (some ⟨gS', 0, none⟩) (pnA ps i).length cap') := by
    have hl := hp.len
    rw [← e2, List.getD, List.getElem?_eq_getElem (show i < vs.length by omega)]
    rfl
  have e3 : gS' = gS := by
    subst e1
    have h5 := hq.cell (j := i) (by have := hp.len; omega)
    rw [hv, k6] at h5
    have h6 := Option.some.inj h5
    injection h6 with h7
    injection h7 with h8
    injection h8 with h9
    exact h9.symm
  subst e3
  obtain ⟨_, ee, s0, s1⟩ := SRow.at_ k8 hj
  cases ee
  have c0 := s0 w (Ext.refl _)
  have c1 := s1 w (Ext.refl _)
  simp only [add_zero'] at c0 c1
  rw [e2] at hpi
  refine ⟨gP, gS', cap, e1, k6, h3, h4, k1, k2, k4, c0, c1, fun k => hpi.free k, fun g cs hW e => hpi.ne_whole hW (by decide) (by rw [e]; rfl), fun s => ?_⟩
  have hne1 : ∀ k, k < ps.length → k ≠ i → (vs.getD k undef).ownBlock ≠ some gS' := fun k hk hki e => by
    have ei : (vs.getD i undef).ownBlock = some gS' := by rw [e2]; rfl
    rcases Nat.lt_or_gt_of_ne hki with h | h
    · exact hp.apart k i h hi gS' e ei
    · exact hp.apart i k h hk gS' ei e
  refine ⟨⟨by rw [List.length_set]; exact hp.len, fun k hk => ?_, fun a b hab hb g ha => ?_⟩, ?_, ?_⟩
  · rw [List.length_set] at hk
    by_cases hki : k = i
    · subst hki
      rw [pnA_set hk, List.length_set, ← spot_set _ j s hj, e2]
      exact (hpi.store (j * 2) (vint s.x)).store (j * 2 + 1) (vint s.y)
    · rw [pnA_set_ne hki]
      exact ((hp.own k hk).other (p := ⟨gS', j * 2, none⟩) h3 (hne1 k hk hki) _).other (p := ⟨gS', j * 2 + 1, none⟩) h3 (hne1 k hk hki) _
  · rw [List.length_set] at hb
    exact hp.apart a b hab hb g ha
  · rw [List.length_set]
    have hn := hq.ne_own hpi (by decide) rfl
    exact (hq.other (p := ⟨gS', j * 2, none⟩) h3 hn _).other (p := ⟨gS', j * 2 + 1, none⟩) h3 hn _
  · have hn := ho.ne_own hpi (by decide) rfl
    exact (ho.other (p := ⟨gS', j * 2, none⟩) h3 hn _).other (p := ⟨gS', j * 2 + 1, none⟩) h3 hn _
/-- The same, behind whatever is new. -/
theorem TwinOk.spot2 (h : TwinOk w1 w A c B d vs ps hs) {i j : Nat} (hi : i < ps.length) (hj : j < (pnA ps i).length) : ∃ gP gS cap, A = some ⟨gP, 0, none⟩ ∧ w.cell? ⟨gP, i, none⟩ = some (.slice (some ⟨gS, 0, none⟩) (pnA ps i).length cap) ∧ w1.heap.size ≤ gS ∧ gS < w.heap.size ∧
    w.cell? ⟨gS, j * 2, none⟩ = some (vint (ptA (pnA ps i) j).x) ∧ w.cell? ⟨gS, j * 2 + 1, none⟩ = some (vint (ptA (pnA ps i) j).y) ∧ (∀ k, w.frozen? ⟨gS, k, none⟩ = false) ∧ (∀ g cs, Whole w g cs 25 → g ≠ gS) ∧
    ∀ w2, Ext w w2 → ∀ s : Sp, TwinOk w1 ((w2.setCell ⟨gS, j * 2, none⟩ (vint s.x)).setCell ⟨gS, j * 2 + 1, none⟩ (vint s.y)) A c B d vs (ps.set i ((pnA ps i).set j s)) hs := by
  obtain ⟨gP, gS, cap, e1, k6, h3, h4, _, _, _, c0, c1, hf, hw, _⟩ := h.spot hi hj
  refine ⟨gP, gS, cap, e1, k6, h3, h4, c0, c1, hf, hw, fun w2 he s => ?_⟩
  obtain ⟨gP', gS', cap', e1', k6', _, _, _, _, _, _, _, _, _, hset⟩ := (h.later he).spot hi hj
  rw [e1] at e1'
  cases e1'
  have h5 := he.cell k6
  rw [k6'] at h5
  have h6 := Option.some.inj h5
  injection h6 with h7
  injection h7 with h8
  injection h8 with h9
  subst h9
  exact hset s
theorem hinge_set4 : ∀ (l : List Hg) (k : Nat) (s t : Sp), k < l.length → ((((l.map Hg.cells).flatten.set (k * 5) (vint s.x)).set (k * 5 + 1) (vint s.y)).set (k * 5 + 2) (vint t.x)).set (k * 5 + 3) (vint t.y) = ((l.set k ⟨s, t, (hgA l k).ang⟩).map Hg.cells).flatten
  | [], k, s, t, h => by simp at h
  | q :: r, 0, s, t, _ => by simp [Hg.cells, hgA]
  | q :: r, k + 1, s, t, h => by
    have ih := hinge_set4 r k s t (by simpa using h)
    have e1 : (k + 1) * 5 = k * 5 + 5 := by omega
    have e2 : hgA (q :: r) (k + 1) = hgA r k := by simp [hgA]
    simp only [List.map_cons, List.flatten_cons, List.set_cons_succ, Hg.cells] at ih ⊢
    rw [e1, e2, ← ih]
    rfl
/-- Both places of a hinge, exchanged. -/
theorem TwinOk.hinge4 (h : TwinOk w1 w A c B d vs ps hs) {k : Nat} (hk : k < hs.length) : ∃ g, B = some ⟨g, 0, none⟩ ∧ w1.heap.size ≤ g ∧ g < w.heap.size ∧ w.cell? ⟨g, k * 5, none⟩ = some (vint (hgA hs k).a.x) ∧ w.cell? ⟨g, k * 5 + 1, none⟩ = some (vint (hgA hs k).a.y) ∧ w.cell? ⟨g, k * 5 + 2, none⟩ = some (vint (hgA hs k).b.x) ∧ w.cell? ⟨g, k * 5 + 3, none⟩ = some (vint (hgA hs k).b.y) ∧ (∀ j, w.frozen? ⟨g, j, none⟩ = false) ∧
    ∀ w2, Ext w w2 → ∀ s t : Sp, TwinOk w1 ((((w2.setCell ⟨g, k * 5, none⟩ (vint s.x)).setCell ⟨g, k * 5 + 1, none⟩ (vint s.y)).setCell ⟨g, k * 5 + 2, none⟩ (vint t.x)).setCell ⟨g, k * 5 + 3, none⟩ (vint t.y)) A c B d vs ps (hs.set k ⟨s, t, (hgA hs k).ang⟩) := by
  obtain ⟨hp, hq, ho⟩ := h
  obtain ⟨g, c', ev, h1, h2⟩ := ho.at_ (by omega)
  cases ev
  obtain ⟨_, ee, r0, r1, r2, r3, _⟩ := (OwnH.row ho).at_ hk
  cases ee
  have q0 := r0 w (Ext.refl _)
  have q1 := r1 w (Ext.refl _)
  have q2 := r2 w (Ext.refl _)
  have q3 := r3 w (Ext.refl _)
  simp only [add_zero'] at q0 q1 q2 q3
  refine ⟨g, rfl, h1, h2, q0, q1, q2, q3, fun j => ho.free j, fun w2 he s t => ?_⟩
  have hp2 := hp.later he
  have hq2 := hq.later he
  have ho2 := ho.later he
  have hnp : ∀ i, i < ps.length → (vs.getD i undef).ownBlock ≠ some g := fun i hi => (hp2.own i hi).ne_own ho2 (by decide) rfl
  have hnq : (Value.slice A ps.length c).ownBlock ≠ some g := hq2.ne_own ho2 (by decide) rfl
  refine ⟨(((hp2.other (p := ⟨g, k * 5, none⟩) h1 hnp _).other (p := ⟨g, k * 5 + 1, none⟩) h1 hnp _).other (p := ⟨g, k * 5 + 2, none⟩) h1 hnp _).other (p := ⟨g, k * 5 + 3, none⟩) h1 hnp _, (((hq2.other (p := ⟨g, k * 5, none⟩) h1 hnq _).other (p := ⟨g, k * 5 + 1, none⟩) h1 hnq _).other (p := ⟨g, k * 5 + 2, none⟩) h1 hnq _).other (p := ⟨g, k * 5 + 3, none⟩) h1 hnq _, ?_⟩
  rw [List.length_set, ← hinge_set4 hs k s t hk]
  exact (((ho2.store (k * 5) (vint s.x)).store (k * 5 + 1) (vint s.y)).store (k * 5 + 2) (vint t.x)).store (k * 5 + 3) (vint t.y)
end
/-! ### Turned in part -/
theorem set_mid {α : Type} : ∀ (u v : List α) (x y : α), (u ++ y :: v).set u.length x = u ++ x :: v
  | [], v, x, y => rfl
  | a :: u, v, x, y => by simp [set_mid u v x y]
theorem map_step {α : Type} (f : α → α) (l : List α) (j : Nat) (h : j < l.length) : ((l.take j).map f ++ l.drop j).set j (f l[j]) = (l.take (j + 1)).map f ++ l.drop (j + 1) := by
  have hl : ((l.take j).map f).length = j := by simp; omega
  have e := set_mid ((l.take j).map f) (l.drop (j + 1)) (f l[j]) l[j]
  rw [hl] at e
  rw [List.drop_eq_getElem_cons h, e, List.take_succ_eq_append_getElem h, List.map_append, List.append_assoc]
  rfl
def tq (l : List Sp) (j : Nat) : List Sp := (l.take j).map qtr ++ l.drop j
theorem tq_zero (l : List Sp) : tq l 0 = l := by simp [tq]
theorem tq_all (l : List Sp) : tq l l.length = l.map qtr := by simp [tq]
theorem tq_len {l : List Sp} {j : Nat} (h : j ≤ l.length) : (tq l j).length = l.length := by simp [tq]; omega
theorem tq_at {l : List Sp} {j : Nat} (h : j < l.length) : ptA (tq l j) j = ptA l j := by
  unfold ptA tq
  simp only [List.getD]
  rw [List.getElem?_append_right (by simp; omega), List.getElem?_drop]
  congr 2
  simp
  omega
theorem tq_step {l : List Sp} {j : Nat} (h : j < l.length) : (tq l j).set j (qtr (ptA l j)) = tq l (j + 1) := by
  rw [ptA_at h]
  exact map_step qtr l j h
def qP (ps : List (List Sp)) (i : Nat) : List (List Sp) := (ps.take i).map (List.map qtr) ++ ps.drop i
theorem qP_zero (ps : List (List Sp)) : qP ps 0 = ps := by simp [qP]
theorem qP_all (ps : List (List Sp)) : qP ps ps.length = qtrPs ps := by simp [qP]
theorem qP_len {ps : List (List Sp)} {i : Nat} (h : i ≤ ps.length) : (qP ps i).length = ps.length := by simp [qP]; omega
theorem qP_at {ps : List (List Sp)} {i : Nat} (h : i < ps.length) : pnA (qP ps i) i = pnA ps i := by
  unfold pnA qP
  simp only [List.getD]
  rw [List.getElem?_append_right (by simp; omega), List.getElem?_drop]
  congr 2
  simp
  omega
theorem qP_self {ps : List (List Sp)} {i : Nat} (h : i < ps.length) : (qP ps i).set i (pnA ps i) = qP ps i := by
  have e : pnA ps i = (qP ps i)[i]'(by rw [qP_len (by omega)]; exact h) := by rw [← pnA_at, qP_at h]
  rw [e]
  exact List.set_getElem_self _
theorem qP_step {ps : List (List Sp)} {i : Nat} (h : i < ps.length) : (qP ps i).set i ((pnA ps i).map qtr) = qP ps (i + 1) := by
  rw [pnA_at h]
  exact map_step (List.map qtr) ps i h
def qH (hs : List Hg) (k : Nat) : List Hg := (hs.take k).map qtrH ++ hs.drop k
theorem qH_zero (hs : List Hg) : qH hs 0 = hs := by simp [qH]
theorem qH_all (hs : List Hg) : qH hs hs.length = qtrHs hs := by simp [qH]
theorem qH_len {hs : List Hg} {k : Nat} (h : k ≤ hs.length) : (qH hs k).length = hs.length := by simp [qH]; omega
theorem qH_at {hs : List Hg} {k : Nat} (h : k < hs.length) : hgA (qH hs k) k = hgA hs k := by
  unfold hgA qH
  simp only [List.getD]
  rw [List.getElem?_append_right (by simp; omega), List.getElem?_drop]
  congr 2
  simp
  omega
theorem qH_step {hs : List Hg} {k : Nat} (h : k < hs.length) : (qH hs k).set k ⟨qtr (hgA hs k).a, qtr (hgA hs k).b, (hgA hs k).ang⟩ = qH hs (k + 1) := by
  rw [hgA_at h]
  exact map_step qtrH hs k h
end Go.Proofs.Yteilglljigjefaa
