/- Linkages with other angles, one by one. -/
import Derived.Test.YteilglljigjefaaJQe
import Derived.Test.YteilglljigjefaaJ30
import Derived.Test.YteilglljigjefaaJ15
namespace Go.Proofs.Yteilglljigjefaa
open Go.RowKit
theorem bent_len : ∀ (hs : List Hg) (o : List Nat), (bent hs o).length = hs.length
  | [], _ => rfl
  | h :: t, [] => rfl
  | h :: t, n :: ns => by simp [bent, bent_len t ns]
theorem bent_nil : ∀ hs : List Hg, bent hs [] = hs
  | [] => rfl
  | _ :: _ => rfl
theorem bent_take : ∀ (hs : List Hg) (r : List Nat) (j : Nat) (_ : j < hs.length) (hr : j < r.length), setAng (bent hs (r.take j)) j (r[j] : Nat) = bent hs (r.take (j + 1))
  | h :: t, n :: ns, 0, _, _ => by simp [bent, setAng, hgA, bent_nil]
  | h :: t, n :: ns, j + 1, hj, hr => by
    have ih := bent_take t ns j (by simpa using hj) (by simpa using hr)
    simp only [List.take_succ_cons, bent, List.getElem_cons_succ]
    rw [← ih]
    simp [setAng, hgA]
  | [], _, _, hj, _ => by simp at hj
  | _ :: _, [], _, _, hr => by simp at hr
theorem hinge_bent : ∀ (hs : List Hg) (o : List Nat), (∀ h ∈ hs, hingeB h) → (∀ n ∈ o, n < 36) → ∀ h ∈ bent hs o, hingeB h
  | [], _, hh, _, h, hm => by simp [bent] at hm
  | q :: t, [], hh, _, h, hm => hh h hm
  | q :: t, n :: ns, hh, ho, h, hm => by
    rcases List.mem_cons.1 hm with rfl | hm
    · have hq := hh q (by simp)
      have hn := ho n (by simp)
      exact ⟨hq.1, hq.2.1, by show (0 : Int) ≤ n; omega, by show (n : Int) ≤ 35; omega⟩
    · exact hinge_bent t ns (fun x hx => hh x (by simp [hx])) (fun x hx => ho x (by simp [hx])) h hm
theorem linkP_bent {ps : List (List Sp)} {hs : List Hg} (h : linkP ps hs) {o : List Nat} (ho : ∀ n ∈ o, n < 36) : linkP ps (bent hs o) :=
  ⟨h.1, by rw [bent_len]; exact h.2.1, h.2.2.1, hinge_bent hs o h.2.2.2 ho⟩
/-- A linkage with its own angles. -/
theorem bent_own : ∀ (hs : List Hg), (∀ h ∈ hs, hingeB h) → bent hs (hs.map fun h => h.ang.toNat) = hs
  | [], _ => rfl
  | h :: t, hh => by
    have hq := hh h (by simp)
    have e : ((h.ang.toNat : Nat) : Int) = h.ang := by have := hq.2.2; omega
    simp only [List.map_cons, bent, e, bent_own t fun x hx => hh x (by simp [hx])]
theorem last_bent {hs : List Hg} {o : List Nat} (h : o.length = hs.length) : lastP (bent hs o) = endP pose0 hs o := by
  rw [endP_bent hs pose0 o h]
  exact posF_end _
theorem gap0_iff (p : Ps) (a b : Sp) : gap0 p a b = true ↔ ((gapS p a b).x = 0 ∧ (gapS p a b).y = 0) := by
  unfold gap0
  cases h : gapS p a b with
  | mk x y => simp [s0]
/-- The gap of a linkage with other angles. -/
def GapN (X Y : Int) (g : Bool) : Prop := (g = true → X = 0 ∧ Y = 0) ∧ (g = false → (X != 0) = true ∨ X = 0 ∧ (Y != 0) = true)
theorem gap_nums (p : Ps) (a b : Sp) : GapN (gapS p a b).x (gapS p a b).y (gap0 p a b) := by
  refine ⟨fun h => (gap0_iff p a b).1 h, fun h => ?_⟩
  by_cases h1 : (gapS p a b).x = 0
  · by_cases h2 : (gapS p a b).y = 0
    · rw [(gap0_iff p a b).2 ⟨h1, h2⟩] at h
      cases h
    · exact .inr ⟨h1, by simpa using h2⟩
  · exact .inl (by simpa using h1)
theorem gap_bent {ps : List (List Sp)} {hs : List Hg} {a b : Sp} (hl : linkP ps hs) (ha : spotB a) (hb : spotB b) (o : List Nat) (ho : o.length = hs.length) (h36 : ∀ n ∈ o, n < 36) {w1 w' : World} {A1 : Option Addr} {c1 : Nat} {B1 : Option Addr} {d1 : Nat} {vs : List Value} (h : TwinOk w1 w' A1 c1 B1 d1 vs ps (bent hs o)) (hnp : ps.length ≤ 1000) (hhp : ∀ k, k < ps.length → (pnA ps k).length ≤ 1000) :
    ∃ X Y D, GapN X Y (gap0 (endP pose0 hs o) a b) ∧ Calls Try.prog 35 #[.agg #[.slice A1 ps.length c1, .slice B1 hs.length d1], a.val, b.val] w' fun e w'' => e = .returned (.tuple #[.int .i64 X, .int .i64 Y, .int .i64 D, .int .i64 0]) ∧ Ext w' w'' := by
  have hlb := linkP_bent hl h36
  have hk : Lk w' A1 ps B1 (bent hs o) := ⟨h.pans.row h.pown, OwnH.row h.hown, hnp, by rw [bent_len]; have := hl.nh; omega, hhp⟩
  have hg := gap_all A1 c1 ps B1 d1 (bent hs o) a b w' hk
  have e : gapE ps (bent hs o) a b = .tuple #[.int .i64 (gapS (lastP (bent hs o)) a b).x, .int .i64 (gapS (lastP (bent hs o)) a b).y, .int .i64 (lastP (bent hs o)).d, .int .i64 0] := if_pos (ask_good hlb ⟨ha, hb⟩)
  rw [e, bent_len] at hg
  have hn := gap_nums (lastP (bent hs o)) a b
  rw [last_bent ho] at hn hg
  exact ⟨_, _, _, hn, hg⟩
/-- The hinges with the first so many angles of a list. -/
def HB (hs : List Hg) (xs : List Int) (j : Nat) : List Hg := bent hs ((xs.take j).map Int.toNat)
theorem HB_zero (hs : List Hg) (xs : List Int) : HB hs xs 0 = hs := by simp [HB, bent_nil]
theorem HB_step {ps : List (List Sp)} {hs : List Hg} {xs : List Int} {j : Nat} (hj : j < hs.length) (hjx : j < xs.length) (h0 : 0 ≤ getI xs j) {w1 w : World} {A B : Option Addr} {c d : Nat} {vs : List Value} (h : TwinOk w1 w A c B d vs ps (HB hs xs j)) :
    ∃ g, B = some ⟨g, 0, none⟩ ∧ w1.heap.size ≤ g ∧ g < w.heap.size ∧ (∃ u, w.cell? ⟨g, j * 5 + 4, none⟩ = some u) ∧ w.frozen? ⟨g, j * 5 + 4, none⟩ = false ∧ TwinOk w1 (w.setCell ⟨g, j * 5 + 4, none⟩ (vint (getI xs j))) A c (some ⟨g, 0, none⟩) d vs ps (HB hs xs (j + 1)) := by
  unfold HB at h ⊢
  obtain ⟨g, h1, h2, h3, h4, h5, h6⟩ := TwinOk.angle h (k := j) (by rw [bent_len]; exact hj)
  refine ⟨g, h1, h2, h3, ⟨_, h4⟩, h5, ?_⟩
  have h7 := h6 (getI xs j)
  have e := bent_take hs (xs.map Int.toNat) j hj (by simpa using hjx)
  have e2 : (((xs.map Int.toNat)[j]'(by simpa using hjx) : Nat) : Int) = getI xs j := by
    rw [List.getElem_map, ← getI_eq hjx]
    omega
  rw [e2] at e
  rw [List.map_take] at h7 ⊢
  rw [← e]
  exact h7
theorem HB_all {ps : List (List Sp)} {hs : List Hg} {a b : Sp} (hl : linkP ps hs) (ha : spotB a) (hb : spotB b) {xs : List Int} (hlen : xs.length = hs.length) (hx : ∀ j, j < xs.length → 0 ≤ getI xs j ∧ getI xs j < 36) {w1 w' : World} {A1 : Option Addr} {c1 : Nat} {B1 : Option Addr} {d1 : Nat} {vs : List Value} (h : TwinOk w1 w' A1 c1 B1 d1 vs ps (HB hs xs xs.length)) (hnp : ps.length ≤ 1000) (hhp : ∀ k, k < ps.length → (pnA ps k).length ≤ 1000) :
    ∃ X Y D, GapN X Y (gap0 (endP pose0 hs (xs.map Int.toNat)) a b) ∧ Calls Try.prog 35 #[.agg #[.slice A1 ps.length c1, .slice B1 hs.length d1], a.val, b.val] w' fun e w'' => e = .returned (.tuple #[.int .i64 X, .int .i64 Y, .int .i64 D, .int .i64 0]) ∧ Ext w' w'' := by
  unfold HB at h
  rw [List.take_length] at h
  exact gap_bent hl ha hb _ (by simpa using hlen) (fun n hn => by
    obtain ⟨x, hm, rfl⟩ := List.mem_map.1 hn
    obtain ⟨j, hj, rfl⟩ := List.mem_iff_getElem.1 hm
    have := hx j hj
    rw [getI_eq hj] at this
    omega) h hnp hhp
theorem HB_36 {xs : List Int} (hx : ∀ j, j < xs.length → 0 ≤ getI xs j ∧ getI xs j < 36) : ∀ n ∈ xs.map Int.toNat, n < 36 := fun n hn => by
  obtain ⟨x, hm, rfl⟩ := List.mem_map.1 hn
  obtain ⟨j, hj, rfl⟩ := List.mem_iff_getElem.1 hm
  have := hx j hj
  rw [getI_eq hj] at this
  omega
theorem lex_at : ∀ (o r : List Nat) (j : Nat) (h1 : j < o.length) (h2 : j < r.length), (∀ m (_ : m < j) (h3 : m < o.length) (h4 : m < r.length), o[m] = r[m]) → o[j] < r[j] → lexB o r = true
  | x :: u, y :: v, 0, _, _, _, hlt => by
    simp only [List.getElem_cons_zero] at hlt
    simp [lexB, show ¬ x = y by omega, hlt]
  | x :: u, y :: v, j + 1, h1, h2, he, hlt => by
    have e0 := he 0 (by omega) (by simp) (by simp)
    simp only [List.getElem_cons_zero] at e0
    simp only [lexB, e0, if_true]
    exact lex_at u v j (by simpa using h1) (by simpa using h2) (fun m hm h3 h4 => by
      have := he (m + 1) (by omega) (by simpa using h3) (by simpa using h4)
      simpa using this) (by simpa using hlt)
  | [], _, _, h1, _, _, _ => by simp at h1
  | _ :: _, [], _, _, h2, _, _ => by simp at h2
end Go.Proofs.Yteilglljigjefaa
