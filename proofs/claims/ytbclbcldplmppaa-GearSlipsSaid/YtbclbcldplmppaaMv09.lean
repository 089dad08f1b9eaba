/- A row's factors; the motion of a free shaft: by the code. -/
import Derived.Maps.RangeWalk
import Derived.Test.YtbclbcldplmppaaMv08
namespace Go.Proofs.Ytbclbcldplmppaa
open Go.RowKit

theorem nodup_le {α : Type} : ∀ {l m : List α}, l.Nodup → (∀ x ∈ l, x ∈ m) → l.length ≤ m.length
  | [], m, _, _ => Nat.zero_le _
  | x :: l, m, hn, hs => by
    obtain ⟨m1, m2, rfl⟩ := List.append_of_mem (hs x (by simp))
    rw [List.nodup_cons] at hn
    have := nodup_le (l := l) (m := m1 ++ m2) hn.2 fun y hy => by
      have h1 := hs y (List.mem_cons_of_mem _ hy)
      rcases List.mem_append.1 h1 with h | h
      · exact List.mem_append.2 (.inl h)
      · rcases List.mem_cons.1 h with h | h
        · subst h; exact absurd hy hn.1
        · exact List.mem_append.2 (.inr h)
    simp only [List.length_append, List.length_cons] at this ⊢
    omega

/-- The map has no keys but the pivots' columns. -/
theorem MapIs.only {D : DataW Unit} {cs : List Nat} (h : MapIs D cs) (hn : cs.Nodup) {z : Lit} (hz : Maps.has D z = true) : ∃ c ∈ cs, z = .int .i64 (c : Int) := by
  obtain ⟨es, rfl, hp⟩ := h.tidy
  have hin : ∀ z, Maps.has (DataW.map es) z = true → z ∈ es.map (·.1) := fun z hz => by
    rw [Maps.has_eq, List.any_eq_true] at hz
    obtain ⟨p, hp, hk⟩ := hz
    exact List.mem_map.2 ⟨p, hp, WideAt.sameKey_eq hk⟩
  refine Classical.byContradiction fun hno => ?_
  have h1 : (z :: cs.map fun (c : Nat) => Lit.int .i64 (c : Int)).Nodup := by
    rw [List.nodup_cons]
    refine ⟨fun hm => hno ?_, ?_⟩
    · obtain ⟨c, hc, e⟩ := List.mem_map.1 hm
      exact ⟨c, hc, e.symm⟩
    · refine List.pairwise_map.2 (List.Pairwise.imp ?_ hn)
      intro a b hab e
      injection e with _ e
      exact hab (by omega)
  have h2 := nodup_le h1 (m := es.map (·.1)) fun x hx => by
    rcases List.mem_cons.1 hx with rfl | hx
    · exact hin _ hz
    · obtain ⟨c, hc, rfl⟩ := List.mem_map.1 hx
      exact hin _ (by rw [h.has]; simpa using hc)
  have h3 := h.size
  rw [Maps.size_eq] at h3
  simp at h2
  omega

/-- The first k numbers with the other sign. -/
def negK (l : List Int) (n k : Nat) : List Int := outL n fun j => if j < k then -getI l j else getI l j
def negL (b : Bool) (l : List Int) (n : Nat) : List Int := outL n fun j => if b = true then -getI l j else getI l j
theorem negK_zero (l : List Int) (n : Nat) : negK l n 0 = outL n (getI l) := outL_congr fun j _ => if_neg (Nat.not_lt_zero j)
theorem negK_full (l : List Int) (n : Nat) : negK l n n = negL true l n := outL_congr fun j hj => by rw [if_pos hj, if_pos rfl]
theorem negL_no (l : List Int) (n : Nat) : negL false l n = outL n (getI l) := outL_congr fun j _ => by rw [if_neg (by decide)]
theorem outL_self {l : List Int} {n : Nat} (h : l.length = n) : outL n (getI l) = l := by
  apply List.ext_getElem?
  intro j
  unfold outL
  by_cases hj : j < n
  · rw [List.getElem?_map, List.getElem?_range hj, Option.map_some, getI_eq (by omega), List.getElem?_eq_getElem (by omega)]
  · rw [List.getElem?_eq_none (by simp; omega), List.getElem?_eq_none (by omega)]
theorem negK_step {l : List Int} {n k : Nat} : (negK l n k).set k (-getI l k) = negK l n (k + 1) := by
  unfold negK
  rw [outL_set]
  refine outL_congr fun j _ => ?_
  by_cases e : j = k
  · subst e; rw [if_pos rfl, if_pos (by omega)]
  · rw [if_neg e]
    have : j < k ↔ j < k + 1 := by omega
    simp only [this]
theorem negK_at {l : List Int} {n k : Nat} (h : k < n) : getI (negK l n k) k = getI l k := by
  unfold negK
  rw [outL_get h, if_neg (Nat.lt_irrefl k)]

set_option maxRecDepth 100000 in
set_option maxHeartbeats 2000000 in
theorem factors_row (A1 A2 : Option Addr) (c1 c2 n m : Nat) (l b : List Int) (i : Nat) (w : World) (h1 : Ints w A1 l) (h2 : Ints w A2 b) (hn : l.length = n) (hm : b.length = m) (hi : i < n) (hbd : ∀ y, y < m → (getI b y).natAbs < 4611686018427387904) (hmm : m ≤ 1000) :
    Calls Try.prog 76 #[.agg #[.slice A1 n c1, .slice A2 m c2], .int .i64 i] w (TwinRes w (negL (decide (getI l i < 0)) b m)) := by
  have hl := h1.at_ (k := i) (by omega)
  obtain ⟨ad, rfl, hc⟩ := hl
  clear hc
  have ct : ∀ (w' : World), Ext w w' → Calls Try.prog 94 #[.slice A2 m c2] w' fun e w'' => ∃ g, e = .returned (sl g m) ∧ NewInts w' w'' g b := fun w' he => by
    have h := twin_any A2 c2 b w' (h2.ext he) (by omega)
    rw [hm] at h
    refine h.mono fun e w'' h => ?_
    obtain ⟨g, e1, e2⟩ := h
    exact ⟨g, by rw [e1, hm], e2⟩
  have ca : ∀ (w' : World), Ext w w' → Calls Try.prog 78 #[.slice (some ad) n c1, .int .i64 i] w' fun e w'' => e = .returned (.int .i64 (getI l i)) ∧ w' = w'' := fun w' he => by
    have h := at_any (some ad) c1 i l w' (h1.ext he) (by omega)
    rwa [hn] at h
  have Ca := Lib.hid ca
  have hself := outL_self hm
  have Ct := Lib.hid ct
  have Hbd := Lib.hid hbd
  have Hself := Lib.hid hself
  have Hm := Lib.hid hm
  clear ca ct hbd hself h1 h2 hn hm
  generalize getI l i = y at *
  go_enter Try.func76, Try.ntmps76
  have hexb : Ext w (w.alloc (.cells #[.slice (some ad) n c1, .slice A2 m c2] 117)) := by simp
  have hp0 : ∀ w', Ext (w.alloc (.cells #[.slice (some ad) n c1, .slice A2 m c2] 117)) w' → w'.cell? ⟨w.heap.size, 0, none⟩ = some (.slice (some ad) n c1) := fun w' he => he.cell (by simp)
  have hp1 : ∀ w', Ext (w.alloc (.cells #[.slice (some ad) n c1, .slice A2 m c2] 117)) w' → w'.cell? ⟨w.heap.size, 1, none⟩ = some (.slice A2 m c2) := fun w' he => he.cell (by simp)
  cases hs : decide (y < 0)
  · have hy : ¬ y < 0 := by simpa using hs
    go_wp2_with (first
      | (go_at_call 94; refine (Ct.out _ (by simp)).mono ?_; rintro e w2 ⟨g, rfl, hn2⟩; have hx2 := hn2.ext)
      | (go_at_call 78; refine (Ca.out _ (hexb.trans hx2)).mono ?_; rintro e w3 ⟨rfl, rfl⟩))
    go_ret
    rw [negL_no, Hself.out]
    exact ⟨g, by rw [Hm.out]; rfl, hn2.since hexb⟩
  · have hy : y < 0 := by simpa using hs
    go_wp2_with (first
      | (go_at_call 94; refine (Ct.out _ (by simp)).mono ?_; rintro e w2 ⟨g, rfl, hn2⟩; have hx2 := hn2.ext)
      | (go_at_call 78; refine (Ca.out _ (hexb.trans hx2)).mono ?_; rintro e w3 ⟨rfl, rfl⟩))
    have hst := hn2.since hexb
    rw [← Hself.out, ← negK_zero] at hst
    have Hst := Lib.hid hst
    clear hst hn2 hx2 hp0 hp1 hexb
    go_loopw [17] (fun k wr => ∃ j : Nat, j ≤ m ∧ k = .int .i64 j ∧ NewInts w wr g (negK b m j)) (fun k _ => m - (intOf k).toNat)
    case atStart => exact ⟨0, by omega, rfl, Hst.out⟩
    case round =>
      clear Hst
      obtain ⟨k, hk, rfl, hacc⟩ := hrel
      by_cases hlt : k < m
      · have hca : wr.cell? ⟨g, k, none⟩ = some (vint (getI b k)) := by
          have := hacc.cell (k := k) (by unfold negK; rw [outL_len]; exact hlt)
          rwa [negK_at hlt] at this
        have hfa := hacc.frz k
        have hb := Hbd.out k hlt
        have en : IntKind.i64.wrap (-getI b k) = -getI b k := by rw [IntKind.wrap_i64]; omega
        have hstp := negK_step (l := b) (n := m) (k := k)
        have Hstp := Lib.hid hstp
        have Hac := Lib.hid hacc
        have hki : (k : Int) < (m : Int) := by omega
        clear hstp hacc hb
        generalize getI b k = z at *
        go_wp2
        go_roundw
        case rel => exact ⟨k + 1, by omega, by go_num, by rw [← Hstp.out]; exact Hac.out.put k _⟩
        case measure => simp [intOf]; omega
      · obtain rfl : k = m := by omega
        have Hac := Lib.hid hacc
        clear hacc
        go_wp2
        go_ret
        rw [← negK_full]
        have hl2 : (negK b k k).length = k := outL_len _ _
        exact ⟨g, by rw [hl2]; rfl, Hac.out⟩
end Go.Proofs.Ytbclbcldplmppaa

/- The code's search for clutches that slip: the closure, where no more are wanted. -/
namespace Go.Proofs.Ytbclbcldplmppaa
open Go.RowKit

theorem clone_nil (w : World) : Calls Try.prog 59 #[.slice none 0 0] w fun e w' => e = .returned (.slice none 0 0) ∧ w = w' := by
  go_enter Try.func59, Try.ntmps59
  have hnil := fun W => Lib.run_eql_slice_nil (P := Try.prog) W 22 3 none 0 0 0 0 Try.underlying22
  go_wp2
  go_ret
  exact ⟨rfl, rfl⟩

/-- A set of clutches, in a slice. -/
structure SetOK (F : Nat) (v : Value) (l : List Nat) (w : World) : Prop where
  row : RowI (natI l) v w
  far : v.ownBlock ≠ some F
  nil : l = [] → v = .slice none 0 0
theorem SetOK.later {F : Nat} {v : Value} {l : List Nat} {w w' : World} (h : SetOK F v l w) (he : Ext w w') : SetOK F v l w' := ⟨h.row.later he, h.far, h.nil⟩
theorem RowI.farther {F : Nat} {v : Value} {l : List Int} {w w' : World} (h : RowI l v w) (hf : v.ownBlock ≠ some F) (hg : w.grownBy w' (some F)) : RowI l v w' := by
  refine ⟨h.1, ?_⟩
  rcases h.2 with h1 | ⟨g, cap, cur, rfl, hb, hh, r⟩
  · exact .inl h1
  · exact .inr ⟨g, cap, cur, rfl, hb, (hg.block g (Array.getElem?_eq_some_iff.1 hh).1 hf).trans hh, r⟩
theorem SetOK.grown {F : Nat} {v : Value} {l : List Nat} {w w' : World} (h : SetOK F v l w) (hg : w.grownBy w' (some F)) : SetOK F v l w' := ⟨h.row.farther h.far hg, h.far, h.nil⟩
theorem SetOK.form {F : Nat} {v : Value} {l : List Nat} {w : World} (h : SetOK F v l w) : ∃ A c, v = .slice A (natI l).length c ∧ (A = none ∨ ∃ g, A = some ⟨g, 0, none⟩) ∧ (natI l).length ≤ c ∧ Ints w A (natI l) := by
  have hr : w.ownsRow 0 3 1 v (natI l).length ((natI l).map vint) := h.row
  rcases h.row.2 with ⟨rfl, e⟩ | ⟨g, cap, cur, rfl, _, _, hc, _⟩
  · exact ⟨none, 0, by rw [e], .inl rfl, by rw [e]; exact Nat.le_refl _, by rw [e] at hr; exact Row.of_own hr⟩
  · exact ⟨_, cap, rfl, .inr ⟨g, rfl⟩, hc, Row.of_own hr⟩

theorem clone_set {F : Nat} {v : Value} {l : List Nat} {w : World} (h : SetOK F v l w) (hF : F < w.heap.size) (hl : l.length ≤ 1000) :
    Calls Try.prog 59 #[v] w fun e w' => ∃ v', e = .returned v' ∧ Ext w w' ∧ RowI (natI l) v' w' ∧ v'.ownBlock ≠ some F := by
  cases l with
  | nil =>
    have hv := h.nil rfl
    subst hv
    refine (clone_nil w).mono fun e w' h => ?_
    obtain ⟨rfl, rfl⟩ := h
    exact ⟨_, rfl, Ext.refl _, RowI.nil _, by simp [Value.ownBlock]⟩
  | cons x l =>
    obtain ⟨A, c, rfl, _, _, hi⟩ := h.form
    refine (clone_ints A c _ w hi (by rw [natI_len]; omega) (by rw [natI_len]; simp)).mono fun e w' h => ?_
    obtain ⟨v', rfl, ho⟩ := h
    refine ⟨v', rfl, ho.ext, ownsRow_zero ho.2, fun e => ?_⟩
    have := (ho.2.lt F e).1
    omega

/-- The world in which the closure runs: the place for what was found at block F, the closure's own place behind it. -/
structure ChW (b w : World) (F : Nat) (clo : Value) : Prop where
  ext : Ext b w
  f : ∃ u, w.heap[F]? = some (.cells #[u] 22)
  g : w.heap[F + 1]? = some (.cells #[clo] 111)
theorem ChW.later {b w w' : World} {F : Nat} {clo : Value} (h : ChW b w F clo) (he : Ext w w') : ChW b w' F clo := by
  obtain ⟨u, hu⟩ := h.f
  exact ⟨h.ext.trans he, ⟨u, he.heap hu⟩, he.heap h.g⟩
theorem ChW.lt {b w : World} {F : Nat} {clo : Value} (h : ChW b w F clo) : F < w.heap.size := by
  obtain ⟨u, hu⟩ := h.f
  exact (Array.getElem?_eq_some_iff.1 hu).1
theorem ChW.grown {b w w' : World} {F : Nat} {clo u : Value} (h : ChW b w F clo) (hF : b.heap.size ≤ F) (hg : w.grownBy w' (some F)) (hu : w'.heap[F]? = some (.cells #[u] 22)) : ChW b w' F clo :=
  ⟨h.ext.grown hg (fun k hk => by injection hk with hk; omega), ⟨u, hu⟩, (hg.block (F + 1) (Array.getElem?_eq_some_iff.1 h.g).1 (by simp)).trans h.g⟩

/-- What the closure hands back. -/
def ChRes (w : World) (F : Nat) (r : Option (List Nat)) (e : Ending) (w' : World) : Prop :=
  e = .returned (.bool r.isSome) ∧ w.grownBy w' (some F) ∧ ∃ u, w'.heap[F]? = some (.cells #[u] 22) ∧ ∀ l, r = some l → RowI (natI l) u w'

theorem heap_setCell {w : World} {F : Nat} {u v : Value} {t : TypeId} (h : w.heap[F]? = some (.cells #[u] t)) : (w.setCell ⟨F, 0, none⟩ v).heap[F]? = some (.cells #[v] t) := by
  unfold World.setCell
  simp only [Array.getElem?_modify, if_true, h, Option.map_some]
  rfl
theorem grown_setCell {w : World} {F : Nat} {v : Value} : w.grownBy (w.setCell ⟨F, 0, none⟩ v) (some F) := by
  refine ⟨rfl, rfl, rfl, by simp [World.setCell], fun k hk hne => ?_⟩
  have : ¬ F = k := fun e => hne (by rw [e])
  unfold World.setCell
  simp only [Array.getElem?_modify, if_neg this]
end Go.Proofs.Ytbclbcldplmppaa

/- The closure, where no more clutches are wanted: whether a shaft is jammed without a set. -/
namespace Go.Proofs.Ytbclbcldplmppaa
open Go.RowKit

structure ChE (b : World) (bt bi ba : Nat) (A : Option Addr) (c S I : Nat) (ms : List Msh) (Aa : Option Addr) (ca F : Nat) : Prop where
  hA : MRow b A ms
  ht : trainP S ms
  hi : I < S
  t0 : ∀ w', Ext b w' → w'.cell? ⟨bt, 0, none⟩ = some (.int .i64 S)
  t1 : ∀ w', Ext b w' → w'.cell? ⟨bt, 1, none⟩ = some (.slice A ms.length c)
  i0 : ∀ w', Ext b w' → w'.cell? ⟨bi, 0, none⟩ = some (.int .i64 I)
  a0 : ∀ w', Ext b w' → w'.cell? ⟨ba, 0, none⟩ = some (.slice Aa (clF ms 0).length ca)
  al : Ints b Aa (natI (clF ms 0))
  fb : b.heap.size ≤ F
def pAt (g : Nat) : Value := .pointer (some ⟨g, 0, none⟩)
def clos (bt bi ba F : Nat) : Value := .func (.func 74) #[] #[.pointer (some ⟨bt, 0, none⟩), .pointer (some ⟨bi, 0, none⟩), .pointer (some ⟨F, 0, none⟩), .pointer (some ⟨ba, 0, none⟩), .pointer (some ⟨F + 1, 0, none⟩)]

set_option maxRecDepth 100000 in
set_option maxHeartbeats 4000000 in
theorem choose_zero {b : World} {bt bi ba : Nat} {A : Option Addr} {c S I : Nat} {ms : List Msh} {Aa : Option Addr} {ca F : Nat} (hE : ChE b bt bi ba A c S I ms Aa ca F) (fr : Int) (rest : List Nat) (v : Value) (set : List Nat) (w : World) (hW : ChW b w F (clos bt bi ba F)) (hs : SetOK F v set w) (hl : set.length ≤ 900) :
    Calls Try.prog 74 #[v, .int .i64 fr, .int .i64 0, .pointer (some ⟨bt, 0, none⟩), .pointer (some ⟨bi, 0, none⟩), .pointer (some ⟨F, 0, none⟩), .pointer (some ⟨ba, 0, none⟩), .pointer (some ⟨F + 1, 0, none⟩)] w (ChRes w F (chooseL (jamO ms S I) rest 0 set)) := by
  have ht := hE.ht
  have h8 : S ≤ 8 := by have := ht.2.1; omega
  have hi := hE.hi
  have ht' := offL_train ht set
  obtain ⟨B, d, rfl, hB⟩ : ∃ B d, v = .slice B (natI set).length d ∧ Ints w B (natI set) := by
    obtain ⟨B, d, e, _, _, h⟩ := hs.form
    exact ⟨B, d, e, h⟩
  have hl16 := ht.2.2.1
  have c1 := fun (w' : World) (he : Ext w w') => open_any A c S ms B d (natI set) w' (hE.hA.ext (hW.ext.trans he)) (hB.ext he) (by omega) (by rw [natI_len]; omega)
  have c2 := fun (w' : World) (he : Ext w w') => clone_set (hs.later he) (F := F) (Nat.lt_of_lt_of_le hW.lt he.le) (by omega)
  have eo : keepL (natI set) ms ms.length = offL ms set := rfl
  have ej : jamB (offL ms set).length S (gearL (offL ms set) S) I = jamO ms S I set := rfl
  rw [eo] at c1
  have C1 := Lib.hid c1
  have C2 := Lib.hid c2
  have Ej := Lib.hid ej
  have HT := Lib.hid ht'
  have t0 : ∀ w', Ext w w' → w'.cell? ⟨bt, 0, none⟩ = some (.int .i64 S) := fun w' he => hE.t0 w' (hW.ext.trans he)
  have t1 : ∀ w', Ext w w' → w'.cell? ⟨bt, 1, none⟩ = some (.slice A ms.length c) := fun w' he => hE.t1 w' (hW.ext.trans he)
  have i0 : ∀ w', Ext w w' → w'.cell? ⟨bi, 0, none⟩ = some (.int .i64 I) := fun w' he => hE.i0 w' (hW.ext.trans he)
  obtain ⟨u0, hu0⟩ := hW.f
  have hfc : ∀ w', Ext w w' → w'.cell? ⟨F, 0, none⟩ = some u0 := fun w' he => by rw [cell_heap (he.heap hu0)]; rfl
  have hff : ∀ w', Ext w w' → w'.frozen? ⟨F, 0, none⟩ = false := fun w' he => by simp [World.frozen?, he.heap hu0]
  have Hu0 := Lib.hid hu0
  rw [chooseL_zero]
  clear hE hW hs hB c1 c2 eo ej ht ht' hu0 hl
  generalize jamO ms S I set = bj at *
  generalize offL ms set = ns at *
  generalize (natI set).length = q at *
  obtain ⟨m, hm⟩ : ∃ m, m = ms.length := ⟨_, rfl⟩
  rw [← hm] at C1 t1 hl16
  clear hm
  obtain ⟨cols, hcols⟩ : ∃ cols, cols = ordN S [I] [I] := ⟨_, rfl⟩
  have hc1 : ∀ c ∈ cols, c < S := by rw [hcols]; exact ordN_lt (by simpa using hi)
  have hc2 : cols.length ≤ 1000 := by have := ordN_len (S := S) (ex := [I]) (tl := [I]) (by simp); rw [hcols]; omega
  have hc4 : ordS S [(I : Int)] = cols.map fun (k : Nat) => (k : Int) := by rw [hcols]; exact ordS_one S I
  have Hc := Lib.hid hcols
  have Hc1 := Lib.hid hc1
  have Hc4 := Lib.hid hc4
  clear hcols hc1 hc4
  cases bj
  all_goals
    go_enter Try.func74, Try.ntmps74
    go_wp2_with (first
      | (go_at_call 70; refine (C1.out _ (by simp)).mono ?_; rintro e w1 ⟨v, rfl, hown⟩; obtain ⟨Av, cv, rfl⟩ := hown.form; have hx1 := hown.ext))
    have hmr := hown.mrow
    have hx2 : Ext w (w1.alloc (.cells #[.int .i64 S, .slice Av ns.length cv] 41)) := hx1.trans (by simp)
    have hmr2 : MRow (w1.alloc (.cells #[.int .i64 S, .slice Av ns.length cv] 41)) Av ns := hmr.ext (by simp)
    have hp0 : ∀ w', Ext (w1.alloc (.cells #[.int .i64 S, .slice Av ns.length cv] 41)) w' → w'.cell? ⟨w1.heap.size, 0, none⟩ = some (.int .i64 S) := fun w' he => he.cell (by simp)
    have hp1 : ∀ w', Ext (w1.alloc (.cells #[.int .i64 S, .slice Av ns.length cv] 41)) w' → w'.cell? ⟨w1.heap.size, 1, none⟩ = some (.slice Av ns.length cv) := fun w' he => he.cell (by simp)
    clear hown hmr hx1
    generalize w1.alloc (.cells #[.int .i64 S, .slice Av ns.length cv] 41) = wl at *
    generalize w1.heap.size = bl at *
    have i0 : ∀ w', Ext wl w' → _ := fun w' he => i0 w' (hx2.trans he)
    have hfc : ∀ w', Ext wl w' → _ := fun w' he => hfc w' (hx2.trans he)
    have hff : ∀ w', Ext wl w' → _ := fun w' he => hff w' (hx2.trans he)
    have Hmr := Lib.hid hmr2
    clear hmr2 C1 t0 t1
    obtain ⟨k, hk⟩ : ∃ k, k = ns.length := ⟨_, rfl⟩
    rw [← hk] at hp1
    have Hk := Lib.hid hk
    clear hk
    refine Cf.wp_region_calm (p := Cf.extPre) (fr := fun _ => false) 15 (fun j _ v w => solS wl ns S cols 1 5 6 j v w) (fun _ _ _ _ _ he h => h.later he) (by kernel_rfl) (by kernel_rfl) ?_
    simp only [List.take_succ_cons, List.take_zero, List.drop_succ_cons, List.drop_zero]
    refine Cf.calm_quiet Cf.calm_mono_final wl (fun _ h => h) 1 (by kernel_rfl) ?_
    simp only [List.take_succ_cons, List.take_zero, List.drop_succ_cons, List.drop_zero]
    repeat (go_big_quiet_step (fail))
    refine wpQuiet_nil ?_
    refine Cf.calm_call Cf.calm_mono_final 66 #[.agg #[.int .i64 S, .slice Av k cv]] rfl (fun w => ?_) (fun w' he _ => ?_) ?_
    · go_simp
    · rw [Hk.out]
      refine (rows_is Av cv S ns w' (Hmr.out.ext he) HT.out).mono fun e w'' h => ?_
      obtain ⟨v, rfl, hx, rs, h1, h2⟩ := h
      exact ⟨_, rfl, hx, (show isRows wl ns S v w'' from ⟨rs, h1.since he, h2⟩), fun hf => by cases hf⟩
    intro v1 w3 _ _ _
    simp only [Act.put, List.setIfInBounds_toArray, List.set_cons_succ, List.set_cons_zero]
    refine Cf.calm_quiet Cf.calm_mono_final wl (fun _ h => h) 2 (by kernel_rfl) ?_
    simp only [List.take_succ_cons, List.take_zero, List.drop_succ_cons, List.drop_zero]
    repeat (go_big_quiet_step (fail))
    refine wpQuiet_nil ?_
    refine Cf.calm_value Cf.calm_mono_final (fun v w => ∃ g, v = .slice (some ⟨g, 0, none⟩) 1 1 ∧ w.cell? ⟨g, 0, none⟩ = some (vint I)) (fun _ w' w'' hR ⟨g, e, hh⟩ => ⟨g, e, (show Ext w' w'' from hR).cell hh⟩) rfl (fun w' hR _ => ⟨.slice (some ⟨w'.heap.size, 0, none⟩) 1 1, w'.alloc (.cells #[vint I] 3), by go_simp, (Ext.refl w').alloc _, ⟨_, rfl, by rw [World.cell?_alloc_at _ _ _ _ rfl]; rfl⟩, fun hf => by cases hf⟩) ?_
    rintro v4 _ _ ⟨g4, rfl, _⟩ _
    simp only [Act.put, List.setIfInBounds_toArray, List.set_cons_succ, List.set_cons_zero]
    refine Cf.calm_call Cf.calm_mono_final 67 #[.agg #[.int .i64 S, .slice Av k cv], .slice (some ⟨g4, 0, none⟩) 1 1] rfl (fun w => ?_) (fun w' he hf => ?_) ?_
    · go_simp
    · obtain ⟨g', e', hc'⟩ := (hf 4 (by kernel_rfl)).2 rfl
      simp only [Value.slice.injEq, Option.some.injEq, Addr.mk.injEq, and_true] at e'
      subst e'
      refine (order_one S (.slice Av k cv) w' w' (Ext.refl _) h8 g4 I hc').mono fun e w'' h => ?_
      obtain ⟨Ao, co, rfl, h1, h2⟩ := h
      rw [Hc4.out] at h1 ⊢
      exact ⟨_, rfl, h2, (show isNats cols _ w'' from ⟨Ao, co, rfl, h1⟩), fun hf => by cases hf⟩
    intro v5 w5 _ _ _
    simp only [Act.put, List.setIfInBounds_toArray, List.set_cons_succ, List.set_cons_zero]
    refine Cf.calm_call Cf.calm_mono_final 65 #[v1, v5] rfl (fun w => ?_) (fun w' he hf => ?_) ?_
    · go_simp
    · have f3 : isRows wl ns S v1 w' := (hf 1 (by kernel_rfl)).1.1.2 rfl
      have f5 : isNats cols v5 w' := (hf 5 (by kernel_rfl)).2 rfl
      refine (solve_is HT.out f3 f5 Hc1.out hc2).mono fun e w'' h => ?_
      obtain ⟨v, rfl, hx, h1⟩ := h
      exact ⟨_, rfl, hx, (show isSolved wl ns S cols v w'' from h1.since he), fun hf => by cases hf⟩
    intro v6 w6 _ hv6 _
    have hv6' : isSolved wl ns S cols v6 w6 := hv6
    obtain ⟨v, ordv, mb, _, _, _, _, _, d6, _, rfl, _⟩ := hv6'
    clear hv6
    simp only [Act.put, List.setIfInBounds_toArray, List.set_cons_succ, List.set_cons_zero]
    refine Cf.calm_value Cf.calm_mono_final (fun v _ => v = .map (some mb)) (fun _ _ _ _ h => h) rfl (fun w' he hf => ⟨.map (some mb), w', by have hfd := field_of v ordv (.int .i64 d6) mb w'; go_simp, Ext.refl _, rfl, fun hf => by cases hf⟩) ?_
    rintro v7 w7 _ rfl _
    simp only [Act.put, List.setIfInBounds_toArray, List.set_cons_succ, List.set_cons_zero]
    refine Cf.calm_quiet Cf.calm_mono_final wl (fun _ h => h) 1 (by kernel_rfl) ?_
    simp only [List.take_succ_cons, List.take_zero, List.drop_succ_cons, List.drop_zero]
    repeat (go_big_quiet_step (fail))
    refine wpQuiet_nil ?_
    refine Cf.calm_value Cf.calm_mono_final (fun v _ => ∃ c, v = .tuple #[.int .i64 c, .bool (jamB ns.length S (gearL ns S) I)]) (fun _ _ _ _ h => h) rfl (fun w' he hf => ?_) ?_
    · have f6 : isSolved wl ns S cols (.agg #[v, .map (some mb), ordv, .int .i64 d6]) w' := (hf 6 (by kernel_rfl)).1.2 rfl
      rw [Hc.out] at f6
      obtain ⟨cc, hlook⟩ := f6.lookJam hi h8
      exact ⟨_, w', by go_simp, Ext.refl _, ⟨cc, rfl⟩, fun hf => by cases hf⟩
    rintro v9 w9 _ ⟨cc, rfl⟩ _
    simp only [Ej.out]
    simp only [Act.put, List.setIfInBounds_toArray, List.set_cons_succ, List.set_cons_zero]
    refine Cf.calm_quiet Cf.calm_mono_final wl (fun _ h => h) 5 (by kernel_rfl) ?_
    simp only [List.take_succ_cons, List.take_zero, List.drop_succ_cons, List.drop_zero]
    repeat (go_big_quiet_step (fail))
    refine wpQuiet_nil ?_
    refine Cf.calm_nil fun w9 he9 hF => ?_
    clear hF
    have hx9 := hx2.trans he9
    have hfc9 := hfc w9 he9
    clear Hmr Hk HT
  · go_wp2_with (first
      | (go_at_call 59; refine (C2.out _ hx9).mono ?_; rintro e wc ⟨vc, rfl, hxc, hrc, hne⟩; obtain ⟨Ac, cc2, rfl, _⟩ := hrc.isInts; have hfc' := hfc wc (he9.trans hxc); have hff' := hff wc (he9.trans hxc)))
    go_ret
    have hx : Ext w wc := hx9.trans hxc
    refine ⟨rfl, (hx.grownBy _).trans grown_setCell, _, heap_setCell (hx.heap Hu0.out), fun l hl => ?_⟩
    injection hl with hl
    subst hl
    exact hrc.farther hne grown_setCell
  · go_wp2
    go_ret
    exact ⟨rfl, hx9.grownBy _, u0, hx9.heap Hu0.out, fun l hl => by cases hl⟩
end Go.Proofs.Ytbclbcldplmppaa

/- The closure: the search by recursion. -/
namespace Go.Proofs.Ytbclbcldplmppaa
open Go.RowKit

theorem getI_natI {l : List Nat} {k : Nat} (h : k < l.length) : getI (natI l) k = (l[k] : Int) := by
  rw [getI_eq (by rw [natI_len]; exact h)]; simp [natI]

set_option maxRecDepth 100000 in
set_option maxHeartbeats 4000000 in
theorem choose_step {b : World} {bt bi ba : Nat} {A : Option Addr} {c S I : Nat} {ms : List Msh} {Aa : Option Addr} {ca F : Nat} (hE : ChE b bt bi ba A c S I ms Aa ca F) (n fr : Nat) (v : Value) (set : List Nat) (w : World) (hW : ChW b w F (clos bt bi ba F)) (hs : SetOK F v set w) (hfr : fr ≤ (clF ms 0).length) (hl : set.length + n + 1 ≤ 900)
    (ih : ∀ (fr : Nat) (v : Value) (set : List Nat) (w : World), ChW b w F (clos bt bi ba F) → SetOK F v set w → fr ≤ (clF ms 0).length → set.length + n ≤ 900 →
      Calls Try.prog 74 #[v, .int .i64 fr, .int .i64 n, .pointer (some ⟨bt, 0, none⟩), .pointer (some ⟨bi, 0, none⟩), .pointer (some ⟨F, 0, none⟩), .pointer (some ⟨ba, 0, none⟩), .pointer (some ⟨F + 1, 0, none⟩)] w (ChRes w F (chooseL (jamO ms S I) ((clF ms 0).drop fr) n set))) :
    Calls Try.prog 74 #[v, .int .i64 fr, .int .i64 ((n : Int) + 1), .pointer (some ⟨bt, 0, none⟩), .pointer (some ⟨bi, 0, none⟩), .pointer (some ⟨F, 0, none⟩), .pointer (some ⟨ba, 0, none⟩), .pointer (some ⟨F + 1, 0, none⟩)] w (ChRes w F (chooseL (jamO ms S I) ((clF ms 0).drop fr) (n + 1) set)) := by
  have hl16 := hE.ht.2.2.1
  have hna : (clF ms 0).length ≤ 16 := Nat.le_trans (clF_len ms 0) (by omega)
  obtain ⟨B, d, rfl, hBA, hqd, hB⟩ := hs.form
  have hq9 : (natI set).length ≤ 900 := by rw [natI_len]; omega
  have hlow := hE.fb
  have hnb : n ≤ 900 := by omega
  have hal := fun (k : Nat) (hk : k < (clF ms 0).length) => (hE.al).some_ (by rw [natI_len]; omega)
  have hdrop := fun (k : Nat) (hk : k < (clF ms 0).length) => List.drop_eq_getElem_cons hk
  have hgk := fun (k : Nat) (hk : k < (clF ms 0).length) => getI_natI hk
  have hih := fun (k : Nat) (hk : k < (clF ms 0).length) (v' : Value) (w' : World) (h : ChW b w' F (clos bt bi ba F)) (hs : SetOK F v' (set ++ [(clF ms 0)[k]]) w') => ih (k + 1) v' (set ++ [(clF ms 0)[k]]) w' h hs hk (by rw [List.length_append, List.length_singleton]; omega)
  have hsl := fun (w' : World) => slice_full (q := (natI set).length) (d := d) w' hBA hqd
  rw [natI_len] at hal
  have Hal := Lib.hid hal
  have Hdrop := Lib.hid hdrop
  have Hgk := Lib.hid hgk
  have Hih := Lib.hid hih
  have Hsl := Lib.hid hsl
  have a0 := hE.a0
  have HW := Lib.hid hW
  have HS := Lib.hid hs
  have Ha0 := Lib.hid a0
  have Hlow := Lib.hid hlow
  clear hal hdrop hgk hih hsl ih hE hB hBA hW hs hl a0 hlow
  generalize jamO ms S I = J at *
  generalize clF ms 0 = all at *
  obtain ⟨na, hnae⟩ : ∃ na, na = all.length := ⟨_, rfl⟩
  rw [← hnae] at hfr hna Ha0
  have Hna := Lib.hid hnae
  clear hnae
  obtain ⟨q, hq⟩ : ∃ q, q = (natI set).length := ⟨_, rfl⟩
  rw [← hq] at hq9 hqd HS Hsl ⊢
  have Hq := Lib.hid hq
  clear hq
  have hn1 : ¬ ((n : Int) + 1 = 0) := by omega
  obtain ⟨n1, hn1e⟩ : ∃ n1 : Int, n1 = (n : Int) + 1 := ⟨_, rfl⟩
  rw [← hn1e] at hn1 ⊢
  have Hn1 := Lib.hid hn1e
  clear hn1e
  go_enter Try.func74, Try.ntmps74
  go_wp2
  go_loopw [15] (fun i wr => ∃ k : Nat, k ≤ na ∧ i = .int .i64 k ∧ w.grownBy wr (some F) ∧ (∃ u, wr.heap[F]? = some (.cells #[u] 22)) ∧ chooseL J (all.drop fr) (n + 1) set = chooseL J (all.drop k) (n + 1) set) (fun i _ => na - (intOf i).toNat)
  case atStart => exact ⟨fr, hfr, rfl, grownBy_refl _ _, HW.out.f, rfl⟩
  case round =>
    obtain ⟨k, hk, rfl, hgr, ⟨u, hu⟩, heq⟩ := hrel
    have hWr := HW.out.grown Hlow.out hgr hu
    have hSr := HS.out.grown hgr
    have Heq := Lib.hid heq
    have HWr := Lib.hid hWr
    have HSr := Lib.hid hSr
    have Hgr := Lib.hid hgr
    have Hu := Lib.hid hu
    have a0 : ∀ w', Ext wr w' → w'.cell? ⟨ba, 0, none⟩ = some (.slice Aa na ca) := fun w' he => Ha0.out w' (hWr.ext.trans he)
    clear heq hWr hSr hgr hu
    by_cases hlt : k < na
    · have hkp : k < all.length := by rw [← Hna.out]; exact hlt
      obtain ⟨ad, rfl, hcell⟩ := Hal.out k hkp
      have hbr := HWr.out.ext
      have hak : ∀ w', Ext wr w' → w'.cell? (ad.add k) = some (.int .i64 (getI (natI all) k)) := fun w' he => hcell k hkp w' (hbr.trans he)
      have hgk := Hgk.out k hkp
      have hih := Hih.out k hkp
      have hdr := Hdrop.out k hkp
      clear hcell
      generalize all[k] = y at *
      rw [hgk] at hak
      have Hih' := Lib.hid hih
      have Hdr := Lib.hid hdr
      clear hih hdr hgk Hal Hih
      have hclo : ∀ w', Ext wr w' → w'.cell? ⟨F + 1, 0, none⟩ = some (.func (.func 74) #[] #[.pointer (some ⟨bt, 0, none⟩), .pointer (some ⟨bi, 0, none⟩), .pointer (some ⟨F, 0, none⟩), .pointer (some ⟨ba, 0, none⟩), .pointer (some ⟨F + 1, 0, none⟩)]) := fun w' he => by rw [cell_heap (he.heap HWr.out.g)]; rfl
      have hki : (k : Int) < (na : Int) := by omega
      have e1 : IntKind.i64.wrap ((k : Int) + 1) = ((k + 1 : Nat) : Int) := by rw [IntKind.wrap_i64]; omega
      have en : IntKind.i64.wrap (n1 - 1) = (n : Int) := by rw [Hn1.out, IntKind.wrap_i64]; omega
      go_wp2
      refine Cf.wp_region_calm (p := Cf.extPre) (fr := fun _ => false) 17 (fun _ _ _ _ => True) (fun _ _ _ _ _ _ h => h) (by kernel_rfl) (by kernel_rfl) ?_
      simp only [List.take_succ_cons, List.take_zero, List.drop_succ_cons, List.drop_zero]
      refine Cf.calm_quiet Cf.calm_mono_final wr (fun _ h => h) 3 (by kernel_rfl) ?_
      simp only [List.take_succ_cons, List.take_zero, List.drop_succ_cons, List.drop_zero]
      repeat (go_big_quiet_step (fail))
      refine wpQuiet_nil ?_
      refine Cf.calm_value Cf.calm_mono_final (fun v _ => v = .int .i64 q) (fun _ _ _ _ h => h) rfl (fun w' he hf => ⟨_, w', by go_simp, Ext.refl _, rfl, fun hf => by cases hf⟩) ?_
      rintro v3 _ _ rfl _
      simp only [Act.put, List.setIfInBounds_toArray, List.set_cons_succ, List.set_cons_zero]
      refine Cf.calm_quiet Cf.calm_mono_final wr (fun _ h => h) 1 (by kernel_rfl) ?_
      simp only [List.take_succ_cons, List.take_zero, List.drop_succ_cons, List.drop_zero]
      repeat (go_big_quiet_step (fail))
      refine wpQuiet_nil ?_
      refine Cf.calm_value Cf.calm_mono_final (fun v _ => v = .int .i64 q) (fun _ _ _ _ h => h) rfl (fun w' he hf => ⟨_, w', by go_simp, Ext.refl _, rfl, fun hf => by cases hf⟩) ?_
      rintro v5 _ _ rfl _
      simp only [Act.put, List.setIfInBounds_toArray, List.set_cons_succ, List.set_cons_zero]
      refine Cf.calm_value Cf.calm_mono_final (fun v _ => v = .slice B q q) (fun _ _ _ _ h => h) rfl (fun w' he hf => ⟨_, w', by have hsl := Hsl.out w'; go_simp, Ext.refl _, rfl, fun hf => by cases hf⟩) ?_
      rintro v6 _ _ rfl _
      simp only [Act.put, List.setIfInBounds_toArray, List.set_cons_succ, List.set_cons_zero]
      refine Cf.calm_quiet Cf.calm_mono_final wr (fun _ h => h) 4 (by kernel_rfl) ?_
      simp only [List.take_succ_cons, List.take_zero, List.drop_succ_cons, List.drop_zero]
      repeat (go_big_quiet_step (fail))
      refine wpQuiet_nil ?_
      refine Cf.calm_value Cf.calm_mono_final (fun v w => ∃ g, v = .slice (some ⟨g, 0, none⟩) 1 1 ∧ w.cell? ⟨g, 0, none⟩ = some (vint y)) (fun _ w' w'' hR ⟨g, e, hh⟩ => ⟨g, e, (show Ext w' w'' from hR).cell hh⟩) rfl (fun w' hR _ => ⟨.slice (some ⟨w'.heap.size, 0, none⟩) 1 1, w'.alloc (.cells #[vint y] 3), by go_simp, (Ext.refl w').alloc _, ⟨_, rfl, by rw [World.cell?_alloc_at _ _ _ _ rfl]; rfl⟩, fun hf => by cases hf⟩) ?_
      rintro v11 _ _ ⟨g11, rfl, _⟩ _
      simp only [Act.put, List.setIfInBounds_toArray, List.set_cons_succ, List.set_cons_zero]
      refine Cf.calm_value Cf.calm_mono_final (fun v w => ∃ g cap, v = .slice (some ⟨g, 0, none⟩) (q + 1) cap ∧ wr.heap.size ≤ g ∧ RowI (natI (set ++ [y])) v w) (fun _ w' w'' hR ⟨g, cap, e, h1, h2⟩ => ⟨g, cap, e, h1, h2.later hR⟩) rfl (fun w' hR hf => ?_) ?_
      · have hR : Ext wr w' := hR
        obtain ⟨g', e', hc'⟩ := (hf 11 (by kernel_rfl)).2 rfl
        simp only [Value.slice.injEq, Option.some.injEq, Addr.mk.injEq, and_true] at e'
        subst e'
        have hBw : Ints w' B (natI set) := (show RowI (natI set) (.slice B q d) w' from HSr.out.row.later hR) |> fun h => by
          have h : w'.ownsRow 0 3 1 (.slice B q d) (natI set).length ((natI set).map vint) := h
          rw [← Hq.out] at h
          exact Row.of_own h
        obtain ⟨g, cap, w'', hr, hx, hg, ho⟩ := app_new (m := 1) (ys := [(y : Int)]) (.slice (some ⟨g11, 0, none⟩) 1 1) 22 hBw Hq.out.symm ((ints_one hc').src 1) (by omega) (by omega)
        refine ⟨_, w'', exec_append _ _ 22 rfl rfl rfl hr, hx, ⟨g, cap, rfl, by rw [← hg]; exact hR.le, ?_⟩, fun hf => by cases hf⟩
        rw [natI_snoc]
        exact ownsRow_zero ho.2
      rintro v12 _ _ ⟨g12, c12, rfl, hg12, _⟩ _
      simp only [Act.put, List.setIfInBounds_toArray, List.set_cons_succ, List.set_cons_zero]
      refine Cf.calm_quiet Cf.calm_mono_final wr (fun _ h => h) 4 (by kernel_rfl) ?_
      simp only [List.take_succ_cons, List.take_zero, List.drop_succ_cons, List.drop_zero]
      repeat (go_big_quiet_step (fail))
      refine wpQuiet_nil ?_
      refine Cf.calm_nil fun w3 hx3 hF => ?_
      obtain ⟨_, _, e12, _, hrow⟩ := (hF.1 12).2 rfl
      clear hF e12
      have hW3 := HWr.out.later hx3
      have hSet : SetOK F (.slice (some ⟨g12, 0, none⟩) (q + 1) c12) (set ++ [y]) w3 := ⟨hrow, fun e => by
        have e : g12 = F := Option.some.inj e
        have := HWr.out.lt
        omega, fun e => by simp at e⟩
      have hih3 := Hih'.out _ w3 hW3 hSet
      have ec : ((k + 1 : Nat) : Int) = (k : Int) + 1 := rfl
      obtain ⟨r, hr⟩ : ∃ r, r = chooseL J (all.drop (k + 1)) n (set ++ [y]) := ⟨_, rfl⟩
      rw [← hr, ec] at hih3
      have Hr := Lib.hid hr
      have Hc := Lib.hid hih3
      clear hr hih3 hSet hW3 hrow ec Hih' a0 hclo hak
      have hgr3 : w.grownBy w3 (some F) := Hgr.out.trans (Ext.grownBy hx3 _)
      have Hgr3 := Lib.hid hgr3
      clear hgr3
      cases r with
      | none =>
        go_wp2_with (first
          | (go_at_call 74; refine Hc.out.mono ?_; rintro e w4 ⟨rfl, hg4, u4, hu4, _⟩; simp only [Option.isSome_none]))
        go_roundw
        case rel => exact ⟨k + 1, by omega, by go_num, Hgr3.out.trans hg4, ⟨u4, hu4⟩, by rw [Heq.out, Hdr.out, chooseL_none Hr.out.symm]⟩
        case measure => simp [intOf]; omega
      | some l =>
        go_wp2_with (first
          | (go_at_call 74; refine Hc.out.mono ?_; rintro e w4 ⟨rfl, hg4, u4, hu4, hv4⟩; simp only [Option.isSome_some]))
        go_ret
        refine ⟨by rw [Heq.out, Hdr.out, chooseL_some Hr.out.symm]; rfl, Hgr3.out.trans hg4, u4, hu4, fun l' hl' => ?_⟩
        rw [Heq.out, Hdr.out, chooseL_some Hr.out.symm] at hl'
        exact hv4 l' hl'
    · obtain rfl : k = na := by omega
      have Hend := Lib.hid (show chooseL J (all.drop fr) (n + 1) set = none by rw [Heq.out, Hna.out, List.drop_length]; rfl)
      clear Hih Hal
      have a1 := a0 wr (Ext.refl _)
      go_wp2
      go_ret
      refine ⟨by rw [Hend.out]; rfl, Hgr.out, u, Hu.out, fun l hl => ?_⟩
      rw [Hend.out] at hl
      cases hl

theorem choose_any {b : World} {bt bi ba : Nat} {A : Option Addr} {c S I : Nat} {ms : List Msh} {Aa : Option Addr} {ca F : Nat} (hE : ChE b bt bi ba A c S I ms Aa ca F) : ∀ (n fr : Nat) (v : Value) (set : List Nat) (w : World), ChW b w F (clos bt bi ba F) → SetOK F v set w → fr ≤ (clF ms 0).length → set.length + n ≤ 900 →
    Calls Try.prog 74 #[v, .int .i64 fr, .int .i64 n, .pointer (some ⟨bt, 0, none⟩), .pointer (some ⟨bi, 0, none⟩), .pointer (some ⟨F, 0, none⟩), .pointer (some ⟨ba, 0, none⟩), .pointer (some ⟨F + 1, 0, none⟩)] w (ChRes w F (chooseL (jamO ms S I) ((clF ms 0).drop fr) n set))
  | 0, fr, v, set, w, hW, hs, hfr, hl => choose_zero hE fr _ v set w hW hs (by omega)
  | n + 1, fr, v, set, w, hW, hs, hfr, hl => choose_step hE n fr v set w hW hs hfr (by omega) fun fr' v' set' w' hW' hs' hfr' hl' => choose_any hE n fr' v' set' w' hW' hs' hfr' hl'
end Go.Proofs.Ytbclbcldplmppaa

/- The reference's slipping: a search by recursion. -/
namespace Go.Proofs.Ytbclbcldplmppaa
open Go.RowKit

/-- What a search hands back. -/
def SlipRes (w : World) (r : Option (List Nat)) (e : Ending) (w' : World) : Prop :=
  ∃ v, e = .returned (.tuple #[v, .bool r.isSome]) ∧ Ext w w' ∧ ∀ l, r = some l → RowI (natI l) v w'

theorem chooseL_pre {J : List Nat → Bool} : ∀ (l : List Nat) (n : Nat) (set r : List Nat), chooseL J l n set = some r → ∃ more, r = set ++ more
  | l, 0, set, r, h => by
    rw [chooseL_zero] at h
    split at h
    · cases h
    · injection h with h
      exact ⟨[], by simp [h]⟩
  | [], n + 1, set, r, h => by cases h
  | c :: cs, n + 1, set, r, h => by
    cases h1 : chooseL J cs n (set ++ [c]) with
    | some r' =>
      rw [chooseL_some h1] at h
      injection h with h
      subst h
      obtain ⟨more, e⟩ := chooseL_pre cs n _ _ h1
      exact ⟨c :: more, by rw [e]; simp⟩
    | none =>
      rw [chooseL_none h1] at h
      exact chooseL_pre cs (n + 1) _ _ h
/-- The value of a search's call, in a region. -/
def slipV (r : Option (List Nat)) (v : Value) (w : World) : Prop := ∃ v', v = .tuple #[v', .bool r.isSome] ∧ ∀ l, r = some l → RowI (natI l) v' w
theorem slipV.keep {base q k n : Nat} {w w' : World} {J : List Nat → Bool} {cs set : List Nat} {v : Value} (h : slipV (chooseL J cs n (set ++ [k])) v w) (hR : KeepR base q k w w') (hq : q = set.length) : slipV (chooseL J cs n (set ++ [k])) v w' := by
  obtain ⟨v', e, h⟩ := h
  refine ⟨v', e, fun l hl => (h l hl).keep hR fun y hy => ?_⟩
  obtain ⟨more, rfl⟩ := chooseL_pre _ _ _ _ hl
  subst hq
  simp [natI] at hy
  exact hy.symm

theorem own_of_row {b w : World} {v : Value} {n : Nat} {xs : List Int} (hx : Ext b w) (h : w.ownsRow b.heap.size 3 1 v n (xs.map vint)) : OwnI b w v xs := by
  have : n = xs.length := by have := h.1; simp at this; omega
  subst this
  exact ⟨hx, h⟩

set_option maxRecDepth 100000 in
set_option maxHeartbeats 4000000 in
theorem slipping_zero (A : Option Addr) (c S i : Nat) (ms : List Msh) (fr : Int) (set : List Nat) (B : Option Addr) (d : Nat) (w : World) (hA : MRow w A ms) (hB : RowI (natI set) (.slice B (natI set).length d) w) (ht : trainP S ms) (hi : i < S) (hl2 : set.length ≤ 1000) :
    Calls Try.prog 75 #[.agg #[.int .i64 S, .slice A ms.length c], .int .i64 i, .int .i64 0, .int .i64 fr, .slice B (natI set).length d] w (SlipRes w (chooseL (jamO ms S i) (clF ms 0) 0 set)) := by
  have hl3 : (natI set).length ≤ 1000 := by rw [natI_len]; exact hl2
  have hl16 := ht.2.2.1
  have hB0 : Ints w B (natI set) := Row.of_own hB
  have c1 := fun (w' : World) (he : Ext w w') => without_any A c S ms B d (natI set) w' (hA.ext he) (hB0.ext he) (by omega) (by omega)
  have c2 := fun (Av : Option Addr) (cv : Nat) (w' : World) (h : MRow w' Av (offL ms set)) => jammed_ref Av cv S i (offL ms set) w' h (offL_train ht set) hi
  have hj : jamB (offL ms set).length S (gearL (offL ms set) S) i = jamO ms S i set := rfl
  have hB' := fun (w' : World) (he : Ext w w') => hB.later he
  rw [chooseL_zero]
  rw [hj] at c2
  have C1 := Lib.hid c1
  have C2 := Lib.hid c2
  have HB := Lib.hid hB'
  clear c1 c2 hj hA hB hB' hB0 ht
  have e1 : keepL (natI set) ms ms.length = offL ms set := rfl
  rw [e1] at C1
  clear e1
  generalize jamO ms S i set = bj at *
  obtain ⟨q, hq⟩ : ∃ q, q = (natI set).length := ⟨_, rfl⟩
  rw [← hq] at C1 ⊢
  have Hq := Lib.hid hq
  clear hq hl3 hl2
  generalize ms.length = m at *
  go_enter Try.func75, Try.ntmps75
  have hexb : Ext w (w.alloc (.cells #[.int .i64 S, .slice A m c] 41)) := by simp
  go_wp2_with (first
    | (go_at_call 72; refine (C1.out _ (by simp)).mono ?_; rintro e w1 ⟨v, rfl, hown⟩; obtain ⟨Av, cv, rfl⟩ := hown.form; have hx1 := hown.ext)
    | (go_at_call 79; refine (C2.out Av cv _ hown.mrow).mono ?_; rintro e w2 ⟨rfl, hx2⟩))
  all_goals
    have hx : Ext w w2 := (hexb.trans hx1).trans hx2
    have hh : RowI (natI set) (.slice B q d) w2 := by rw [Hq.out]; exact HB.out w2 hx
    go_ret2
    refine ⟨.slice B q d, rfl, hx, fun l hl => ?_⟩
    first
      | (cases hl; done)
      | (injection hl with hl; subst hl; exact hh)

set_option maxRecDepth 100000 in
set_option maxHeartbeats 4000000 in
theorem slipping_step (A : Option Addr) (c S i n : Nat) (ms : List Msh) (fr : Nat) (set : List Nat) (B : Option Addr) (d : Nat) (w : World) (hA : MRow w A ms) (hB : RowI (natI set) (.slice B (natI set).length d) w) (ht : trainP S ms) (hfr : fr ≤ ms.length) (hl2 : set.length + n + 1 ≤ 900)
    (ih : ∀ (fr : Nat) (set : List Nat) (B : Option Addr) (d : Nat) (w : World), MRow w A ms → RowI (natI set) (.slice B (natI set).length d) w → fr ≤ ms.length → set.length + n ≤ 900 →
      Calls Try.prog 75 #[.agg #[.int .i64 S, .slice A ms.length c], .int .i64 i, .int .i64 n, .int .i64 fr, .slice B (natI set).length d] w (SlipRes w (chooseL (jamO ms S i) (clF ms fr) n set))) :
    Calls Try.prog 75 #[.agg #[.int .i64 S, .slice A ms.length c], .int .i64 i, .int .i64 ((n : Int) + 1), .int .i64 fr, .slice B (natI set).length d] w (SlipRes w (chooseL (jamO ms S i) (clF ms fr) (n + 1) set)) := by
  have hl3 : (natI set).length ≤ 900 := by rw [natI_len]; omega
  have hl16 := ht.2.2.1
  have ha := fun k (hk : k < ms.length) => hA.at_ hk
  have hih := fun (k : Nat) (hk : k < ms.length) (B' : Option Addr) (d' : Nat) (w' : World) (he : Ext w w') (h : RowI (natI (set ++ [k])) (.slice B' (natI (set ++ [k])).length d') w') => ih (k + 1) (set ++ [k]) B' d' w' (hA.ext he) h hk (by rw [List.length_append, List.length_singleton]; omega)
  simp only [natI_snoc, List.length_append, List.length_singleton] at hih
  have htk := fun (k : Nat) (hk : k < ms.length) (h7 : ms[k].kind = 7) => clF_take hk h7
  have hsk := fun (k : Nat) (hk : k < ms.length) (h7 : ¬ ms[k].kind = 7) => clF_skip hk h7
  have hend : chooseL (jamO ms S i) (clF ms ms.length) (n + 1) set = none := by rw [clF_end (Nat.le_refl _)]; rfl
  have hB' := fun (w' : World) (he : Ext w w') => hB.later he
  have Ha := Lib.hid ha
  have Hih := Lib.hid hih
  have Htk := Lib.hid htk
  have Hsk := Lib.hid hsk
  have Hend := Lib.hid hend
  have HB := Lib.hid hB'
  clear ha hih htk hsk hend hB' hA hB ht ih
  generalize jamO ms S i = J at *
  obtain ⟨q, hq⟩ : ∃ q, q = (natI set).length := ⟨_, rfl⟩
  rw [← hq] at hl3 ⊢
  have Hq := Lib.hid hq
  have hn2 : IntKind.i64.wrap ((n : Int) + 1 - 1) = (n : Int) := by rw [IntKind.wrap_i64]; omega
  have Hn2 := Lib.hid hn2
  clear hq hl2 hn2
  obtain ⟨m, hm⟩ : ∃ m, m = ms.length := ⟨_, rfl⟩
  rw [← hm] at hfr hl16 ⊢
  have Hm := Lib.hid hm
  clear hm
  have hn1 : ¬ ((n : Int) + 1 = 0) := by omega
  obtain ⟨n1, hn1e⟩ : ∃ n1 : Int, n1 = (n : Int) + 1 := ⟨_, rfl⟩
  rw [← hn1e] at hn1 Hn2 ⊢
  clear hn1e
  go_enter Try.func75, Try.ntmps75
  go_wp2
  have hexb : Ext w (w.alloc (.cells #[.int .i64 S, .slice A m c] 41)) := by simp
  have hp0 : ∀ w', Ext (w.alloc (.cells #[.int .i64 S, .slice A m c] 41)) w' → w'.cell? ⟨w.heap.size, 0, none⟩ = some (.int .i64 S) := fun w' he => he.cell (by simp)
  have hp1 : ∀ w', Ext (w.alloc (.cells #[.int .i64 S, .slice A m c] 41)) w' → w'.cell? ⟨w.heap.size, 1, none⟩ = some (.slice A m c) := fun w' he => he.cell (by simp)
  generalize w.alloc (.cells #[.int .i64 S, .slice A m c] 41) = wb at *
  generalize w.heap.size = bx at *
  have Hexb := Lib.hid hexb
  have Hp0 := Lib.hid hp0
  have Hp1 := Lib.hid hp1
  clear hexb hp0 hp1
  go_loopw [12] (fun i wr => ∃ k : Nat, k ≤ m ∧ i = .int .i64 k ∧ Ext wb wr ∧ chooseL J (clF ms fr) (n + 1) set = chooseL J (clF ms k) (n + 1) set) (fun i _ => m - (intOf i).toNat)
  case atStart => exact ⟨fr, hfr, rfl, Ext.refl _, rfl⟩
  case round =>
    obtain ⟨k, hk, rfl, hex, heq⟩ := hrel
    have Heq := Lib.hid heq
    clear heq
    have hexw := Hexb.out.trans hex
    have hp0 : ∀ w', Ext wr w' → w'.cell? ⟨bx, 0, none⟩ = some (.int .i64 S) := fun w' he => Hp0.out w' (hex.trans he)
    have hp1 : ∀ w', Ext wr w' → w'.cell? ⟨bx, 1, none⟩ = some (.slice A m c) := fun w' he => Hp1.out w' (hex.trans he)
    by_cases hlt : k < m
    · have hkp : k < ms.length := by rw [← Hm.out]; exact hlt
      obtain ⟨ad, rfl, q0, _⟩ := Ha.out k hkp
      have q0 : ∀ w', Ext wr w' → _ := fun w' he => q0 w' (hexw.trans he)
      have htk := Htk.out k hkp
      have hsk := Hsk.out k hkp
      have hih := Hih.out k hkp
      have Hih' := Lib.hid hih
      have Htk' := Lib.hid htk
      have Hsk' := Lib.hid hsk
      clear htk hsk hih Ha
      generalize ms[k].kind = kind at *
      have hki : (k : Int) < (m : Int) := by omega
      have e1 : IntKind.i64.wrap ((k : Int) + 1) = ((k + 1 : Nat) : Int) := by rw [IntKind.wrap_i64]; omega
      cases h7 : (kind != 7)
      · have h7' : kind = 7 := by simpa using h7
        have Htk2 := Lib.hid (Htk'.out h7')
        clear Htk' Hsk' h7'
        go_wp2
        have Hn2' := Hn2.out
        have hone : ∀ y, ((natI set).map vint)[q]? = some y → y = vint k := fun y hy => by rw [List.getElem?_eq_none (by rw [List.length_map, Hq.out]; exact Nat.le_refl _)] at hy; cases hy
        have htwo : ∀ y, ((natI set).map vint ++ [vint k])[q]? = some y → y = vint k := fun y hy => by
          rw [List.getElem?_append_right (by rw [List.length_map, Hq.out]; exact Nat.le_refl _), List.length_map, ← Hq.out, Nat.sub_self] at hy
          simpa using hy.symm
        have Hone := Lib.hid hone
        have Htwo := Lib.hid htwo
        clear hone htwo
        have hbR : ∀ w', KeepR wr.heap.size q k wr w' → Ext wr w' := fun w' h => h.ext
        have hqs : q = set.length := by rw [Hq.out, natI_len]
        obtain ⟨r, hr⟩ : ∃ r, r = chooseL J (clF ms (k + 1)) n (set ++ [k]) := ⟨_, rfl⟩
        have hstab : Cf.StableS (keepPre wr.heap.size q k) (fun j _ v w => bif j == 12 then slipV r v w else True) := fun j _ v w' w'' hR h => by
          have hR' : KeepR wr.heap.size q k w' w'' := hR
          cases h1 : (j == 12)
          · show (bif j == 12 then _ else True)
            rw [h1]
            trivial
          · have h : (bif j == 12 then slipV r v w' else True) := h
            rw [h1] at h
            have h : slipV r v w' := h
            show (bif j == 12 then slipV r v w'' else True)
            rw [h1]
            show slipV r v w''
            rw [hr] at h ⊢
            exact h.keep hR' hqs
        have Hr := Lib.hid hr
        clear hr hqs
        refine Cf.wp_region_calm (p := keepPre wr.heap.size q k) (fr := fun _ => false) 18 _ hstab (by kernel_rfl) (by kernel_rfl) ?_
        simp only [List.take_succ_cons, List.take_zero, List.drop_succ_cons, List.drop_zero]
        refine Cf.calm_quiet Cf.calm_mono_final wr hbR 6 (by kernel_rfl) ?_
        simp only [List.take_succ_cons, List.take_zero, List.drop_succ_cons, List.drop_zero]
        repeat (go_big_quiet_step (fail))
        refine wpQuiet_nil ?_
        refine Cf.calm_value Cf.calm_mono_final (fun v w => ∃ b, v = .slice (some ⟨b, 0, none⟩) 0 0 ∧ wr.heap.size ≤ b ∧ w.heap[b]? = some (Obj.cells #[] 3)) (fun _ w' w'' hR ⟨b, e, hb, hh⟩ => ⟨b, e, hb, KeepR.lit0 hR hh⟩) rfl (fun w' hR _ => ⟨.slice (some ⟨w'.heap.size, 0, none⟩) 0 0, w'.alloc (.cells #[] 3), by go_simp, KeepR.of_ext ((Ext.refl w').alloc _) hR.below.size, ⟨_, rfl, hR.below.size, heap_alloc_new _ _⟩, fun hf => by cases hf⟩) ?_
        rintro v6 _ _ ⟨b6, rfl, hb6, _⟩ _
        simp only [Act.put, List.setIfInBounds_toArray, List.set_cons_succ, List.set_cons_zero]
        refine Cf.calm_quiet Cf.calm_mono_final wr hbR 1 (by kernel_rfl) ?_
        simp only [List.take_succ_cons, List.take_zero, List.drop_succ_cons, List.drop_zero]
        repeat (go_big_quiet_step (fail))
        refine wpQuiet_nil ?_
        refine Cf.calm_value Cf.calm_mono_final (fun v w => w.ownsRow wr.heap.size 3 1 v q ((natI set).map vint)) (fun _ w' w'' hR h => (show KeepR wr.heap.size q k w' w'' from hR).row h Hone.out) rfl (fun w' hR hf => ?_) ?_
        · obtain ⟨b', eb, hb1, hb2⟩ := (hf 6 (by kernel_rfl)).2 rfl
          simp only [Value.slice.injEq, Option.some.injEq, Addr.mk.injEq, and_true] at eb
          subst eb
          obtain ⟨v', w'', hr, hx, ho⟩ := app_empty (c := d) 22 hb2 hb1 (show Ints w' B (natI set) from Row.of_own (HB.out w' (hexw.trans hR.ext))) (by rw [← Hq.out]; omega)
          rw [← Hq.out] at hr ho
          exact ⟨v', w'', exec_append _ _ 22 rfl rfl rfl hr, KeepR.of_ext hx hR.below.size, ho, fun hf => by cases hf⟩
        intro v8 _ _ _ _
        simp only [Act.put, List.setIfInBounds_toArray, List.set_cons_succ, List.set_cons_zero]
        refine Cf.calm_quiet Cf.calm_mono_final wr hbR 1 (by kernel_rfl) ?_
        simp only [List.take_succ_cons, List.take_zero, List.drop_succ_cons, List.drop_zero]
        repeat (go_big_quiet_step (fail))
        refine wpQuiet_nil ?_
        refine Cf.calm_value Cf.calm_mono_final (fun v w => ∃ b, v = .slice (some ⟨b, 0, none⟩) 1 1 ∧ wr.heap.size ≤ b ∧ w.heap[b]? = some (Obj.cells #[vint k] 3)) (fun _ w' w'' hR ⟨b, e, hb, hh⟩ => ⟨b, e, hb, KeepR.lit1 hR hh⟩) rfl (fun w' hR _ => ⟨.slice (some ⟨w'.heap.size, 0, none⟩) 1 1, w'.alloc (.cells #[vint k] 3), by go_simp, KeepR.of_ext ((Ext.refl w').alloc _) hR.below.size, ⟨_, rfl, hR.below.size, heap_alloc_new _ _⟩, fun hf => by cases hf⟩) ?_
        rintro v10 _ _ ⟨b10, rfl, hb10, _⟩ _
        simp only [Act.put, List.setIfInBounds_toArray, List.set_cons_succ, List.set_cons_zero]
        refine Cf.calm_value Cf.calm_mono_final (fun v w => w.ownsRow wr.heap.size 3 1 v (q + 1) ((natI set).map vint ++ [vint k])) (fun _ w' w'' hR h => (show KeepR wr.heap.size q k w' w'' from hR).row h Htwo.out) rfl (fun w' hR hf => ?_) ?_
        · obtain ⟨b', eb, hb1, hb2⟩ := (hf 10 (by kernel_rfl)).2 rfl
          simp only [Value.slice.injEq, Option.some.injEq, Addr.mk.injEq, and_true] at eb
          subst eb
          have h8 : w'.ownsRow wr.heap.size 3 1 v8 q ((natI set).map vint) := (hf 8 (by kernel_rfl)).1.2 rfl
          obtain ⟨v', w'', hr, ho, hg, hk⟩ := app_keep (c := 1) 22 h8 hb2 (by omega) hR.below.size
          exact ⟨v', w'', exec_append _ _ 22 rfl rfl rfl hr, ⟨Below.grown (Below.refl _ _) hg hR.below.size (fun k hk => (h8.lt k hk).1), hk⟩, ho, fun hf => by cases hf⟩
        intro v11 w11 _ h11 _
        have hf11 : ∃ g cap, v11 = .slice (some ⟨g, 0, none⟩) (q + 1) cap := by
          rcases h11.2 with ⟨_, e⟩ | ⟨g, cap, _, e, _⟩
          · omega
          · exact ⟨g, cap, e⟩
        obtain ⟨g11, c11, rfl⟩ := hf11
        clear h11
        simp only [Act.put, List.setIfInBounds_toArray, List.set_cons_succ, List.set_cons_zero]
        refine Cf.calm_call Cf.calm_mono_final 75 #[.agg #[.int .i64 S, .slice (some ad) m c], .int .i64 i, .int .i64 n, .int .i64 ((k : Int) + 1), .slice (some ⟨g11, 0, none⟩) (q + 1) c11] rfl (fun w => ?_) (fun w' hR hf => ?_) ?_
        · go_simp
        · have h11 : w'.ownsRow wr.heap.size 3 1 (.slice (some ⟨g11, 0, none⟩) (q + 1) c11) (q + 1) ((natI set).map vint ++ [vint k]) := (hf 11 (by kernel_rfl)).2 rfl
          have hi3 : RowI (natI set ++ [(k : Int)]) (.slice (some ⟨g11, 0, none⟩) ((natI set).length + 1) c11) w' := by
            unfold RowI
            rw [List.map_append, List.length_append, ← Hq.out]
            exact ownsRow_zero h11
          have hih3 := Hih'.out (some ⟨g11, 0, none⟩) c11 w' (hexw.trans hR.ext) hi3
          have ec : ((k + 1 : Nat) : Int) = (k : Int) + 1 := rfl
          rw [← Hq.out, ← Hm.out, ← Hr.out, ec] at hih3
          refine hih3.mono fun e w'' h => ?_
          obtain ⟨v, rfl, hx, hv⟩ := h
          exact ⟨_, rfl, KeepR.of_ext hx hR.below.size, (show slipV r _ w'' from ⟨v, rfl, hv⟩), fun hf => by cases hf⟩
        intro v12 w12 _ hv12 _
        have hv12' : slipV r v12 w12 := hv12
        obtain ⟨v', rfl, _⟩ := hv12'
        clear hv12
        simp only [Act.put, List.setIfInBounds_toArray, List.set_cons_succ, List.set_cons_zero]
        refine Cf.calm_quiet Cf.calm_mono_final wr hbR 5 (by kernel_rfl) ?_
        simp only [List.take_succ_cons, List.take_zero, List.drop_succ_cons, List.drop_zero]
        repeat (go_big_quiet_step (fail))
        refine wpQuiet_nil ?_
        refine Cf.calm_nil fun w3 hR3 hF => ?_
        have hV : slipV r (.tuple #[v', .bool r.isSome]) w3 := (hF.1 12).2 rfl
        obtain ⟨v2, e2, hv3⟩ := hV
        simp only [Value.tuple.injEq, Array.mk.injEq, List.cons.injEq, and_true] at e2
        subst e2
        clear hF Hih Hih'
        have hx3 : Ext wr w3 := hR3.ext
        clear hR3
        cases r with
        | none =>
          simp only [Option.isSome_none]
          go_wp2
          go_roundw
          case rel => exact ⟨k + 1, by omega, by go_num, hex.trans hx3, by rw [Heq.out, Htk2.out, chooseL_none Hr.out.symm]⟩
          case measure => simp [intOf]; omega
        | some l =>
          simp only [Option.isSome_some]
          go_wp2
          go_ret2
          refine ⟨v', ?_, hexw.trans hx3, fun l' hl' => ?_⟩
          · rw [Heq.out, Htk2.out, chooseL_some Hr.out.symm]; rfl
          · rw [Heq.out, Htk2.out, chooseL_some Hr.out.symm] at hl'
            exact hv3 l' hl'
      · have h7' : ¬ kind = 7 := by simpa using h7
        have Hsk2 := Lib.hid (Hsk'.out h7')
        clear Htk' Hsk' Hih Hih'
        go_wp2
        go_roundw
        case rel => exact ⟨k + 1, by omega, by go_num, hex, by rw [Heq.out, Hsk2.out]⟩
        case measure => simp [intOf]; omega
    · obtain rfl : k = m := by omega
      have Hr0 := Lib.hid (show chooseL J (clF ms fr) (n + 1) set = none by rw [Heq.out, Hm.out]; exact Hend.out)
      clear Hih Ha
      go_wp2
      go_ret2
      refine ⟨.slice none 0 0, ?_, hexw, fun l hl => ?_⟩
      · rw [Hr0.out]; rfl
      · rw [Hr0.out] at hl
        cases hl

theorem slipping_ref (A : Option Addr) (c S i : Nat) (ms : List Msh) (ht : trainP S ms) (hi : i < S) : ∀ (n fr : Nat) (set : List Nat) (B : Option Addr) (d : Nat) (w : World), MRow w A ms → RowI (natI set) (.slice B (natI set).length d) w → fr ≤ ms.length → set.length + n ≤ 900 →
    Calls Try.prog 75 #[.agg #[.int .i64 S, .slice A ms.length c], .int .i64 i, .int .i64 n, .int .i64 fr, .slice B (natI set).length d] w (SlipRes w (chooseL (jamO ms S i) (clF ms fr) n set))
  | 0, fr, set, B, d, w, hA, hB, hfr, hl => by
    have := slipping_zero A c S i ms fr set B d w hA hB ht hi (by omega)
    rw [chooseL_zero] at this ⊢
    exact this
  | n + 1, fr, set, B, d, w, hA, hB, hfr, hl => slipping_step A c S i n ms fr set B d w hA hB ht hfr (by omega) fun fr' set' B' d' w' hA' hB' hfr' hl' => slipping_ref A c S i ms ht hi n fr' set' B' d' w' hA' hB' hfr' (by omega)
end Go.Proofs.Ytbclbcldplmppaa

/- The reference's Slips. -/
namespace Go.Proofs.Ytbclbcldplmppaa
open Go.RowKit

theorem askE_twice (s : Int) (ms : List Msh) (i : Int) : askE s ms [i, i] = askE s ms [i] := by unfold askE; simp
theorem askE_zero {s : Int} {ms : List Msh} {l : List Int} (h : askE s ms l = 0) : trainB s ms = true ∧ ∀ x ∈ l, 0 ≤ x ∧ x < s := by
  unfold askE at h
  split at h
  · rename_i ht
    split at h
    · rename_i hl; exact ⟨ht, hl⟩
    · cases h
  · cases h
theorem askE_range (s : Int) (ms : List Msh) (l : List Int) : askE s ms l = 0 ∨ askE s ms l = 2 ∨ askE s ms l = 40 := by
  unfold askE
  split
  · split
    · exact .inl rfl
    · exact .inr (.inl rfl)
  · exact .inr (.inr rfl)
theorem slipX_bad {s : Int} {ms : List Msh} {i : Int} (h : ¬ askE s ms [i] = 0) : slipX s ms i = askE s ms [i] ∧ slipL s ms i = [] := ⟨if_neg h, if_neg h⟩
theorem slipX_some {s : Int} {ms : List Msh} {i : Int} {l : List Nat} (h : askE s ms [i] = 0) (hl : slipO ms s.toNat i.toNat = some l) : slipX s ms i = 0 ∧ slipL s ms i = natI l := by
  unfold slipX slipL
  rw [if_pos h, if_pos h, hl]
  exact ⟨rfl, rfl⟩
theorem slipX_none {s : Int} {ms : List Msh} {i : Int} (h : askE s ms [i] = 0) (hl : slipO ms s.toNat i.toNat = none) : slipX s ms i = 6 ∧ slipL s ms i = [] := by
  unfold slipX slipL
  rw [if_pos h, if_pos h, hl]
  exact ⟨rfl, rfl⟩

set_option maxRecDepth 100000 in
set_option maxHeartbeats 4000000 in
theorem slips_ref (A : Option Addr) (c : Nat) (s : Int) (ms : List Msh) (i : Int) (w : World) (hA : MRow w A ms) (hl : ms.length ≤ 1000000) :
    Calls Try.prog 32 #[.agg #[.int .i64 s, .slice A ms.length c], .int .i64 i] w (IntsRes w (slipL s ms i) (slipX s ms i)) := by
  have c0 := fun (w' : World) (he : Ext w w') => asked_ref A c s ms i i w' (hA.ext he) hl
  simp only [askE_twice] at c0
  have C0 := Lib.hid c0
  clear c0
  by_cases hz : askE s ms [i] = 0
  · obtain ⟨hT, hin⟩ := askE_zero hz
    have ht : trainP s ms := of_decide_eq_true hT
    obtain ⟨S, rfl⟩ : ∃ S : Nat, s = S := ⟨s.toNat, by have := ht.1; omega⟩
    have hi0 := hin i (by simp)
    obtain ⟨I, rfl⟩ : ∃ I : Nat, i = I := ⟨i.toNat, by omega⟩
    have hI : I < S := by omega
    have c1 := fun (w' : World) (he : Ext w w') (n : Nat) (hn : n ≤ 800) => slipping_ref A c S I ms ht hI n 0 [] none 0 w' (hA.ext he) (RowI.nil w') (by omega) (by simp; omega)
    have hsome := fun (l : List Nat) (h : slipO ms S I = some l) => slipX_some (s := (S : Int)) (i := (I : Int)) hz h
    have hnone := fun (h : slipO ms S I = none) => slipX_none (s := (S : Int)) (i := (I : Int)) hz h
    have hs1 := fun (n : Nat) (l : List Nat) (hn : n ≤ ms.length) => slipO_some (S := S) (i := I) (r := l) hn
    have hs2 := slipO_none (ms := ms) (S := S) (i := I)
    have hl16 := ht.2.2.1
    rw [hz] at C0
    have C1 := Lib.hid c1
    have Hsome := Lib.hid hsome
    have Hnone := Lib.hid hnone
    have Hs1 := Lib.hid hs1
    have Hs2 := Lib.hid hs2
    clear c1 hsome hnone hs1 hs2 hA ht hT hin hz hl hi0
    change Hid (∀ (w' : World) (he : Ext w w') (n : Nat) (hn : n ≤ 800), Calls Try.prog 75 #[.agg #[.int .i64 S, .slice A ms.length c], .int .i64 I, .int .i64 n, .int .i64 0, .slice none 0 0] w' (SlipRes w' (slipN ms S I n))) at C1
    generalize slipN ms S I = N at *
    generalize slipO ms S I = O at *
    generalize slipX (S : Int) ms (I : Int) = X at *
    generalize slipL (S : Int) ms (I : Int) = L at *
    generalize ms.length = m at *
    go_enter Try.func32, Try.ntmps32
    have hexb : Ext w (w.alloc (.cells #[.int .i64 S, .slice A m c] 41)) := by simp
    have hp0 : ∀ w', Ext (w.alloc (.cells #[.int .i64 S, .slice A m c] 41)) w' → w'.cell? ⟨w.heap.size, 0, none⟩ = some (.int .i64 S) := fun w' he => he.cell (by simp)
    have hp1 : ∀ w', Ext (w.alloc (.cells #[.int .i64 S, .slice A m c] 41)) w' → w'.cell? ⟨w.heap.size, 1, none⟩ = some (.slice A m c) := fun w' he => he.cell (by simp)
    go_wp2_with (first
      | (go_at_call 35; refine (C0.out _ (by simp)).mono ?_; rintro e wb ⟨rfl, hx1⟩))
    generalize w.alloc (.cells #[.int .i64 S, .slice A m c] 41) = wb0 at *
    generalize w.heap.size = bx at *
    have hexb : Ext w wb := hexb.trans hx1
    have hp0 : ∀ w', Ext wb w' → _ := fun w' he => hp0 w' (hx1.trans he)
    have hp1 : ∀ w', Ext wb w' → _ := fun w' he => hp1 w' (hx1.trans he)
    have Hexb := Lib.hid hexb
    have Hp0 := Lib.hid hp0
    have Hp1 := Lib.hid hp1
    clear hexb hp0 hp1 hx1 C0
    go_loopw [7] (fun i wr => ∃ k : Nat, k ≤ m + 1 ∧ i = .int .i64 k ∧ Ext wb wr ∧ ∀ j, j < k → N j = none) (fun i _ => m + 1 - (intOf i).toNat)
    case atStart => exact ⟨0, by omega, rfl, Ext.refl _, fun j hj => by omega⟩
    case round =>
      obtain ⟨k, hk, rfl, hex, hall⟩ := hrel
      have Hall := Lib.hid hall
      clear hall
      have hexw := Hexb.out.trans hex
      have hp0 : ∀ w', Ext wr w' → w'.cell? ⟨bx, 0, none⟩ = some (.int .i64 S) := fun w' he => Hp0.out w' (hex.trans he)
      have hp1 : ∀ w', Ext wr w' → w'.cell? ⟨bx, 1, none⟩ = some (.slice A m c) := fun w' he => Hp1.out w' (hex.trans he)
      by_cases hlt : k ≤ m
      · have c1 := C1.out wr hexw k (by omega)
        obtain ⟨r, hr⟩ : ∃ r, r = N k := ⟨_, rfl⟩
        rw [← hr] at c1
        have Hr := Lib.hid hr
        have Hc1 := Lib.hid c1
        clear hr c1
        cases r with
        | none =>
          go_wp2_with (first
            | (go_at_call 75; refine Hc1.out.mono ?_; rintro e w4 ⟨v, rfl, hx4, _⟩; simp only [Option.isSome_none]))
          go_roundw
          case rel => exact ⟨k + 1, by omega, by go_num, hex.trans hx4, fun j hj => by
            by_cases e : j = k
            · subst e; exact Hr.out.symm
            · exact Hall.out j (by omega)⟩
          case measure => simp [intOf]; omega
        | some l =>
          go_wp2_with (first
            | (go_at_call 75; refine Hc1.out.mono ?_; rintro e w4 ⟨v, rfl, hx4, hv4⟩; simp only [Option.isSome_some]))
          go_ret2
          obtain ⟨e1, e2⟩ := Hsome.out l (Hs1.out k l hlt Hall.out Hr.out.symm)
          obtain ⟨A2, c2, ev, hi⟩ := (hv4 l rfl).isInts
          subst ev
          rw [← e2] at hi ⊢
          exact ⟨A2, c2, by rw [e1]; rfl, hi, hexw.trans hx4⟩
      · obtain rfl : k = m + 1 := by omega
        obtain ⟨e1, e2⟩ := Hnone.out (Hs2.out fun j hj => Hall.out j (by omega))
        have E1 := Lib.hid e1
        have E2 := Lib.hid e2
        clear e1 e2
        go_wp2
        go_ret2
        exact intsRes_nil E2.out.symm E1.out.symm hexw
  · obtain ⟨e1, e2⟩ := slipX_bad hz
    rw [e1, e2]
    clear e1 e2
    generalize askE s ms [i] = X at *
    generalize ms.length = m at *
    go_enter Try.func32, Try.ntmps32
    go_wp2_with (first
      | (go_at_call 35; refine (C0.out _ (by simp)).mono ?_; rintro e wb ⟨rfl, hx1⟩))
    go_ret2
    exact intsRes_nil rfl rfl (Ext.trans (by simp) hx1)
end Go.Proofs.Ytbclbcldplmppaa

/- The code's Slips. -/
namespace Go.Proofs.Ytbclbcldplmppaa
open Go.RowKit

/-- A slice variable in a block of its own, and its numbers. -/
structure AllB (wb w : World) (ba : Nat) (v : Value) (n : Nat) (xs : List Value) : Prop where
  own : Own wb w 3 1 v n xs
  ne : v.ownBlock ≠ some ba
  ge : wb.heap.size ≤ ba
  c : w.heap[ba]? = some (.cells #[v] 22)
section
variable {wb w : World} {ba : Nat} {v : Value} {n : Nat} {xs : List Value}
theorem AllB.later {w' : World} (h : AllB wb w ba v n xs) (he : Ext w w') : AllB wb w' ba v n xs := ⟨h.own.later he, h.ne, h.ge, he.heap h.c⟩
theorem AllB.start (wb : World) : AllB wb (wb.alloc (.cells #[.slice none 0 0] 22)) wb.heap.size (.slice none 0 0) 0 [] := ⟨Own.nil' (by simp) _ _, by simp [Value.ownBlock], Nat.le_refl _, heap_alloc_new _ _⟩
theorem AllB.cell (h : AllB wb w ba v n xs) : ∀ w', Ext w w' → w'.cell? ⟨ba, 0, none⟩ = some v := fun w' he => by rw [cell_heap (he.heap h.c)]; rfl
theorem AllB.free (h : AllB wb w ba v n xs) : w.frozen? ⟨ba, 0, none⟩ = false := by simp [World.frozen?, h.c]
structure AllC (wb w : World) (ba : Nat) (v v' : Value) (n : Nat) (xs : List Value) : Prop where
  own : Own wb w 3 1 v' n xs
  ne : v'.ownBlock ≠ some ba
  ge : wb.heap.size ≤ ba
  c : w.heap[ba]? = some (.cells #[v] 22)
theorem AllB.appended {w' : World} {v' : Value} {n' : Nat} {ys : List Value} (h : AllB wb w ba v n xs) (ho : Own wb w' 3 1 v' n' ys) (hg : w.grownBy w' v.ownBlock) (hb : v'.ownBlock = v.ownBlock ∨ v'.ownBlock = some w.heap.size) : AllC wb w' ba v v' n' ys := by
  have hl := (Array.getElem?_eq_some_iff.1 h.c).1
  refine ⟨ho, ?_, h.ge, (hg.block ba hl (fun e => h.ne e.symm)).trans h.c⟩
  rcases hb with e | e
  · rw [e]; exact h.ne
  · rw [e]; intro e'; injection e' with e'; omega
theorem AllC.stored {v' : Value} (h : AllC wb w ba v v' n xs) : AllB wb (w.setCell ⟨ba, 0, none⟩ v') ba v' n xs :=
  ⟨h.own.other h.ge h.ne v', h.ne, h.ge, heap_setCell h.c⟩
theorem AllC.cell {v' : Value} (h : AllC wb w ba v v' n xs) : w.cell? ⟨ba, 0, none⟩ = some v := by rw [cell_heap h.c]; rfl
theorem AllC.free {v' : Value} (h : AllC wb w ba v v' n xs) : w.frozen? ⟨ba, 0, none⟩ = false := by simp [World.frozen?, h.c]
end

theorem cells_one {w : World} {cs : Array Value} {t : TypeId} {j : Nat} {v : Value} (hv : cs[j]? = some v) : ∀ w', Ext (w.alloc (.cells cs t)) w' → w'.cell? ⟨w.heap.size, j, none⟩ = some v := fun w' he => by
  rw [cell_heap (he.heap (heap_alloc_new w _)), hv]
theorem cells_two {w : World} {o : Obj} {cs : Array Value} {t : TypeId} {j : Nat} {v : Value} (hv : cs[j]? = some v) : ∀ w', Ext ((w.alloc o).alloc (.cells cs t)) w' → w'.cell? ⟨w.heap.size + 1, j, none⟩ = some v := fun w' he => by
  have h : (w.alloc o).heap.size = w.heap.size + 1 := by simp only [World.alloc, Array.size_push]
  rw [← h, cell_heap (he.heap (heap_alloc_new (w.alloc o) _)), hv]
theorem cells_three {w : World} {o o' : Obj} {cs : Array Value} {t : TypeId} {j : Nat} {v : Value} (hv : cs[j]? = some v) : ∀ w', Ext (((w.alloc o).alloc o').alloc (.cells cs t)) w' → w'.cell? ⟨w.heap.size + 1 + 1, j, none⟩ = some v := fun w' he => by
  have h : ((w.alloc o).alloc o').heap.size = w.heap.size + 1 + 1 := by simp only [World.alloc, Array.size_push]
  rw [← h, cell_heap (he.heap (heap_alloc_new ((w.alloc o).alloc o') _)), hv]

set_option maxRecDepth 100000 in
set_option maxHeartbeats 4000000 in
theorem slips_any (A : Option Addr) (c : Nat) (s : Int) (ms : List Msh) (i : Int) (w : World) (hA : MRow w A ms) (hl : ms.length ≤ 1000000) :
    Calls Try.prog 31 #[.agg #[.int .i64 s, .slice A ms.length c], .int .i64 i] w (IntsRes w (slipL s ms i) (slipX s ms i)) := by
  have c0 : ∀ (g : Nat) (w' : World) (_ : Ext w w') (_ : w'.cell? ⟨g, 0, none⟩ = some (vint i)), Calls Try.prog 73 #[.agg #[.int .i64 s, .slice A ms.length c], .slice (some ⟨g, 0, none⟩) 1 1] w' fun e w'' => e = .returned (.int .i64 (askE s ms [i])) ∧ Ext w' w'' :=
    fun g w' he hc => asked_any A c s ms (some ⟨g, 0, none⟩) 1 [i] w' (hA.ext he) hl (ints_one hc) (by simp)
  have C0 := Lib.hid c0
  clear c0
  by_cases hz : askE s ms [i] = 0
  · obtain ⟨hT, hin⟩ := askE_zero hz
    have ht : trainP s ms := of_decide_eq_true hT
    obtain ⟨S, rfl⟩ : ∃ S : Nat, s = S := ⟨s.toNat, by have := ht.1; omega⟩
    have hi0 := hin i (by simp)
    obtain ⟨I, rfl⟩ : ∃ I : Nat, i = I := ⟨i.toNat, by omega⟩
    have hI : I < S := by omega
    have hl16 := ht.2.2.1
    have hna : (clF ms 0).length ≤ ms.length := Nat.le_trans (clF_len ms 0) (by omega)
    have hch : ∀ (b : World) (bt bi ba ca F : Nat) (Aa : Option Addr), ChE b bt bi ba A c S I ms Aa ca F → ∀ (n : Nat) (w' : World), n ≤ 800 → ChW b w' F (clos bt bi ba F) →
      Calls Try.prog 74 #[.slice none 0 0, .int .i64 0, .int .i64 n, .pointer (some ⟨bt, 0, none⟩), .pointer (some ⟨bi, 0, none⟩), .pointer (some ⟨F, 0, none⟩), .pointer (some ⟨ba, 0, none⟩), .pointer (some ⟨F + 1, 0, none⟩)] w' (ChRes w' F (slipN ms S I n)) := fun b bt bi ba ca F Aa hE n w' hn hW =>
        choose_any hE n 0 (.slice none 0 0) [] w' hW ⟨RowI.nil w', by simp [Value.ownBlock], fun _ => rfl⟩ (Nat.zero_le _) (by simp; omega)
    have hmk : ∀ (b : World) (bt bi ba ca F : Nat) (Aa : Option Addr), Ext w b → (∀ w', Ext b w' → w'.cell? ⟨bt, 0, none⟩ = some (.int .i64 S)) → (∀ w', Ext b w' → w'.cell? ⟨bt, 1, none⟩ = some (.slice A ms.length c)) → (∀ w', Ext b w' → w'.cell? ⟨bi, 0, none⟩ = some (.int .i64 I)) →
      (∀ w', Ext b w' → w'.cell? ⟨ba, 0, none⟩ = some (.slice Aa (clF ms 0).length ca)) → Ints b Aa (natI (clF ms 0)) → b.heap.size ≤ F → ChE b bt bi ba A c S I ms Aa ca F := fun b bt bi ba ca F Aa he h1 h2 h3 h4 h5 h6 => ⟨hA.ext he, ht, hI, h1, h2, h3, h4, h5, h6⟩
    have ha := fun k (hk : k < ms.length) => hA.at_ hk
    have htk := fun (k : Nat) (hk : k < ms.length) (h7 : ms[k].kind = 7) => clP_take hk h7
    have hsk := fun (k : Nat) (hk : k < ms.length) (h7 : ¬ ms[k].kind = 7) => clP_skip hk h7
    have hpall := clP_all ms
    have hp0 : clP ms 0 = [] := rfl
    have hple : ∀ k, (clP ms k).length ≤ k := fun k => by
      unfold clP
      have := List.length_filter_le (isCl ms) (List.range k)
      rwa [List.length_range] at this
    have hsome := fun (l : List Nat) (h : slipO ms S I = some l) => slipX_some (s := (S : Int)) (i := (I : Int)) hz h
    have hnone := fun (h : slipO ms S I = none) => slipX_none (s := (S : Int)) (i := (I : Int)) hz h
    have hs1 := fun (n : Nat) (l : List Nat) (hn : n ≤ ms.length) => slipO_some (S := S) (i := I) (r := l) hn
    have hs2 := slipO_none' (ms := ms) (S := S) (i := I)
    rw [hz] at C0
    have Hch := Lib.hid hch
    have Hmk := Lib.hid hmk
    have Ha := Lib.hid ha
    have Htk := Lib.hid htk
    have Hsk := Lib.hid hsk
    have Hpall := Lib.hid hpall
    have Hp0 := Lib.hid hp0
    have Hple := Lib.hid hple
    have Hsome := Lib.hid hsome
    have Hnone := Lib.hid hnone
    have Hs1 := Lib.hid hs1
    have Hs2 := Lib.hid hs2
    clear hch hmk ha htk hsk hpall hp0 hple hsome hnone hs1 hs2 hA ht hT hin hz hl hi0
    generalize slipN ms S I = N at *
    generalize slipO ms S I = O at *
    generalize slipX (S : Int) ms (I : Int) = X at *
    generalize slipL (S : Int) ms (I : Int) = L at *
    generalize clF ms 0 = all at *
    generalize clP ms = P at *
    obtain ⟨m, hm⟩ : ∃ m, m = ms.length := ⟨_, rfl⟩
    rw [← hm] at hl16 hna C0 Hmk Hpall Hs1
    rw [← hm]
    have Hm := Lib.hid hm
    clear hm
    have C1 := Lib.hid (C0.out (w.heap.size + 1 + 1) (((w.alloc (.cells #[.int .i64 S, .slice A m c] 41)).alloc (.cells #[.int .i64 I] 3)).alloc (.cells #[.int .i64 I] 3)) ((((Ext.refl w).alloc _).alloc _).alloc _) (cells_three rfl _ (Ext.refl _)))
    clear C0
    have hq0 : ∀ w', Ext (((w.alloc (.cells #[.int .i64 S, .slice A m c] 41)).alloc (.cells #[.int .i64 I] 3)).alloc (.cells #[.int .i64 I] 3)) w' → w'.cell? ⟨w.heap.size, 0, none⟩ = some (.int .i64 S) := fun w' he => cells_one rfl w' (Ext.trans (((Ext.refl _).alloc _).alloc _) he)
    have hq1 : ∀ w', Ext (((w.alloc (.cells #[.int .i64 S, .slice A m c] 41)).alloc (.cells #[.int .i64 I] 3)).alloc (.cells #[.int .i64 I] 3)) w' → w'.cell? ⟨w.heap.size, 1, none⟩ = some (.slice A m c) := fun w' he => cells_one rfl w' (Ext.trans (((Ext.refl _).alloc _).alloc _) he)
    have hi0 : ∀ w', Ext (((w.alloc (.cells #[.int .i64 S, .slice A m c] 41)).alloc (.cells #[.int .i64 I] 3)).alloc (.cells #[.int .i64 I] 3)) w' → w'.cell? ⟨w.heap.size + 1, 0, none⟩ = some (.int .i64 I) := fun w' he => cells_two rfl w' (Ext.trans ((Ext.refl _).alloc _) he)
    have hxw : Ext w (((w.alloc (.cells #[.int .i64 S, .slice A m c] 41)).alloc (.cells #[.int .i64 I] 3)).alloc (.cells #[.int .i64 I] 3)) := (((Ext.refl w).alloc _).alloc _).alloc _
    have Hq0 := Lib.hid hq0
    have Hq1 := Lib.hid hq1
    have Hi0 := Lib.hid hi0
    clear hq0 hq1 hi0
    go_enter Try.func31, Try.ntmps31
    go_wp2_with (first
      | (go_at_call 73; refine C1.out.mono ?_; rintro e wb ⟨rfl, hx1⟩; have hq1 := fun w' he => Hq1.out w' (hx1.trans he))
      | fail)
    have Hx1 := Lib.hid (hxw.trans hx1)
    have hi0 := fun w' he => Hi0.out w' (hx1.trans he)
    have hq0 := fun w' he => Hq0.out w' (hx1.trans he)
    have Gq0 := Lib.hid hq0
    have Gq1 := Lib.hid hq1
    have Gi0 := Lib.hid hi0
    clear Hq0 Hq1 Hi0 hq0 hq1 hi0 hx1 hxw C1
    have hst := AllB.start wb
    generalize hwb2 : wb.alloc (.cells #[.slice none 0 0] 22) = wb2 at *
    clear hwb2
    generalize wb.heap.size = ba at *
    generalize w.heap.size = bt at *
    go_loopw [23] (fun i wr => ∃ k : Nat, k ≤ m ∧ i = .int .i64 k ∧ ∃ v, AllB wb wr ba v (P k).length ((natI (P k)).map vint)) (fun i _ => m - (intOf i).toNat)
    case atStart => exact ⟨0, by omega, rfl, _, by rw [Hp0.out]; exact hst⟩
    case round =>
      clear hst
      obtain ⟨k, hk, rfl, v, hall⟩ := hrel
      obtain ⟨Av, cv, rfl⟩ := hall.own.form
      have hple := Hple.out k
      by_cases hlt : k < m
      · have hkp : k < ms.length := by rw [← Hm.out]; exact hlt
        obtain ⟨ad, rfl, q0, q1, q2, q3, q4, q5⟩ := Ha.out k hkp
        have hexw : Ext w wr := Hx1.out.trans hall.own.ext
        have q0 : ∀ w', Ext wr w' → _ := fun w' he => q0 w' (hexw.trans he)
        have q1 : ∀ w', Ext wr w' → _ := fun w' he => q1 w' (hexw.trans he)
        have q2 : ∀ w', Ext wr w' → _ := fun w' he => q2 w' (hexw.trans he)
        have q3 : ∀ w', Ext wr w' → _ := fun w' he => q3 w' (hexw.trans he)
        have q4 : ∀ w', Ext wr w' → _ := fun w' he => q4 w' (hexw.trans he)
        have q5 : ∀ w', Ext wr w' → _ := fun w' he => q5 w' (hexw.trans he)
        have htk := Htk.out k hkp
        have hsk := Hsk.out k hkp
        have Htk' := Lib.hid htk
        have Hsk' := Lib.hid hsk
        clear htk hsk Ha Htk Hsk
        generalize ms[k] = x at *
        obtain ⟨kind, xa, xb, xc, xn, xm⟩ := x
        simp only at q0 q1 q2 q3 q4 q5 Htk' Hsk'
        have hki : (k : Int) < (m : Int) := by omega
        have hc := hall.cell
        obtain ⟨pl, hpl⟩ : ∃ pl, pl = (P k).length := ⟨_, rfl⟩
        rw [← hpl] at hple hall hc
        have Hpl := Lib.hid hpl
        clear hpl
        cases h7 : (kind == 7)
        · have h7' : ¬ kind = 7 := by simpa using h7
          have Hsk2 := Lib.hid (Hsk'.out h7')
          have Hall := Lib.hid hall
          clear Htk' Hsk' h7' hall
          go_wp2
          go_roundw
          case rel => exact ⟨k + 1, by omega, by go_num, _, by rw [Hsk2.out, ← Hpl.out]; exact Hall.out.later (by simp)⟩
          case measure => simp [intOf]; omega
        · have h7' : kind = 7 := by simpa using h7
          have Htk2 := Lib.hid (Htk'.out h7')
          have Hall := Lib.hid hall
          clear Htk' Hsk' h7' hall
          go_wp2_with (first
            | (refine own_append_at (w1 := wb) int_elem rfl _ _ 22 rfl Try.underlying22 _ pl ((natI (P k)).map vint) rfl (Hall.out.own.later (((Ext.refl wr).alloc _).alloc _)) _ 1 1 [vint k] rfl rfl (ints_one (x := (k : Int)) (cells_two rfl _ (Ext.refl _))) (fun u hu => by rw [List.mem_singleton] at hu; rw [hu]; rfl) (by omega) (by unfold maxLen; omega) ?_; intro v' w' ho hg hb; obtain ⟨Av', cv', rfl⟩ := ho.form; have h2 := (Hall.out.later (((Ext.refl wr).alloc _).alloc _)).appended ho hg hb; have c2 := h2.cell; have f2 := h2.free))
          have h3 := h2.stored
          go_roundw
          case rel =>
            refine ⟨k + 1, by omega, by go_num, .slice Av' (pl + 1) cv', ?_⟩
            rw [Htk2.out, natI_snoc, List.length_append, ← Hpl.out, List.map_append]
            exact h3
          case measure => simp [intOf]; omega
      · obtain rfl : k = m := by omega
        obtain ⟨wo, rfl⟩ : ∃ wo : World, wo = wr := ⟨_, rfl⟩
        have hpe : P k = all := Hpall.out
        rw [hpe] at hall
        have hal : Ints wo Av (natI all) := by
          exact hall.own.row
        have q0 := Gq0.out
        have hc := hall.cell
        have hbw : Ext w wo := Hx1.out.trans hall.own.ext
        have q0 : ∀ w', Ext wo w' → _ := fun w' he => Gq0.out w' (hall.own.ext.trans he)
        have q1 : ∀ w', Ext wo w' → _ := fun w' he => Gq1.out w' (hall.own.ext.trans he)
        have i0 : ∀ w', Ext wo w' → _ := fun w' he => Gi0.out w' (hall.own.ext.trans he)
        have hE := Hmk.out wo bt (bt + 1) ba cv wo.heap.size Av hbw q0 q1 i0 hc hal (Nat.le_refl _)
        have hcall := Hch.out wo bt (bt + 1) ba cv wo.heap.size Av hE
        have hW : ChW wo ((wo.alloc (.cells #[.slice none 0 0] 22)).alloc (.cells #[.func (.func 74) #[] #[.pointer (some ⟨bt, 0, none⟩), .pointer (some ⟨bt + 1, 0, none⟩), .pointer (some ⟨wo.heap.size, 0, none⟩), .pointer (some ⟨ba, 0, none⟩), .pointer (some ⟨wo.heap.size + 1, 0, none⟩)]] 111)) wo.heap.size (clos bt (bt + 1) ba wo.heap.size) := ⟨((Ext.refl wo).alloc _).alloc _, ⟨_, ((Ext.refl _).alloc _).heap (heap_alloc_new wo _)⟩, by
          have h : (wo.alloc (.cells #[.slice none 0 0] 22)).heap.size = wo.heap.size + 1 := by simp only [World.alloc, Array.size_push]
          have h2 := heap_alloc_new (wo.alloc (.cells #[.slice none 0 0] 22)) (.cells #[.func (.func 74) #[] #[.pointer (some ⟨bt, 0, none⟩), .pointer (some ⟨bt + 1, 0, none⟩), .pointer (some ⟨wo.heap.size, 0, none⟩), .pointer (some ⟨ba, 0, none⟩), .pointer (some ⟨wo.heap.size + 1, 0, none⟩)]] 111)
          rw [h] at h2
          exact h2⟩
        have hcW := hc _ hW.ext
        have hlw : w.heap.size ≤ wo.heap.size := hbw.le
        have HlowW := Lib.hid hlw
        have HW := Lib.hid hW
        have HE := Lib.hid hcall
        have Hbw := Lib.hid hbw
        have HC := Lib.hid hc
        clear hlw hW hc hE hcall hal hall q0 q1 i0 Gq0 Gq1 Gi0 Hmk Hch Ha Htk Hsk hpe hple hbw
        have hmf : ∀ (fn : Fn) (first cap : Array Value) (w : World), (Instr.makeFunc fn first cap).run Try.prog w = .ok (.func fn first cap) w := fun _ _ _ _ => rfl
        have hsf : ∀ (a : Addr) (f : Fn) (x y : Array Value) (w : World), (store a (.func f x y)).run Try.prog w = stored Try.prog w a (.func f x y) .plain := fun a f x y w => run_store Try.prog w a _ .plain rfl
        have en : IntKind.i64.wrap ((all.length : Int) + 1) = ((all.length + 1 : Nat) : Int) := by rw [IntKind.wrap_i64]; omega
        generalize all.length = na at *
        go_wp2
        clear hcW
        generalize ((wo.alloc (.cells #[.slice none 0 0] 22)).alloc (.cells #[.func (.func 74) #[] #[.pointer (some ⟨bt, 0, none⟩), .pointer (some ⟨bt + 1, 0, none⟩), .pointer (some ⟨wo.heap.size, 0, none⟩), .pointer (some ⟨ba, 0, none⟩), .pointer (some ⟨wo.heap.size + 1, 0, none⟩)]] 111)) = W2 at *
        obtain ⟨F, hF⟩ : ∃ F, F = wo.heap.size := ⟨_, rfl⟩
        have hlow : wo.heap.size ≤ F := by rw [hF]; exact Nat.le_refl _
        have Hlow := Lib.hid hlow
        rw [← hF] at HW HE HlowW ⊢
        clear hF hlow
        go_loopw [40, 12] (fun i _ wr => ∃ j : Nat, j ≤ na + 1 ∧ i = .int .i64 j ∧ W2.grownBy wr (some F) ∧ (∃ u, wr.heap[F]? = some (.cells #[u] 22)) ∧ ∀ x, x < j → N x = none) (fun i _ _ => na + 1 - (intOf i).toNat)
        case atStart => exact ⟨0, by omega, rfl, grownBy_refl _ _, HW.out.f, fun x hx => by omega⟩
        case round =>
          obtain ⟨j, hj, rfl, hgr, ⟨u, hu⟩, hno⟩ := hrel
          have hWl := HW.out.grown Hlow.out hgr hu
          have HWl := Lib.hid hWl
          have Hgr := Lib.hid hgr
          have Hu := Lib.hid hu
          have Hno := Lib.hid hno
          have hclo : wr.cell? ⟨F + 1, 0, none⟩ = some (.func (.func 74) #[] #[.pointer (some ⟨bt, 0, none⟩), .pointer (some ⟨bt + 1, 0, none⟩), .pointer (some ⟨F, 0, none⟩), .pointer (some ⟨ba, 0, none⟩), .pointer (some ⟨F + 1, 0, none⟩)]) := by rw [cell_heap hWl.g]; rfl
          clear hgr hu hno hWl
          by_cases hjl : j ≤ na
          · have hji : (j : Int) < (na : Int) + 1 := by omega
            have hji2 : (j : Int) < ((na + 1 : Nat) : Int) := by omega
            have hcall := HE.out j wr (by omega) HWl.out
            obtain ⟨r, hr⟩ : ∃ r, r = N j := ⟨_, rfl⟩
            rw [← hr] at hcall
            have Hr := Lib.hid hr
            have Hc := Lib.hid hcall
            clear hr hcall
            cases r with
            | none =>
              go_wp2_with (first
                | (go_at_call 74; refine Hc.out.mono ?_; rintro e w4 ⟨rfl, hg4, u4, hu4, _⟩; simp only [Option.isSome_none]))
              go_roundw
              case rel => exact ⟨j + 1, by omega, by go_num, Hgr.out.trans hg4, ⟨u4, hu4⟩, fun x hx => by
                by_cases e : x = j
                · subst e; exact Hr.out.symm
                · exact Hno.out x (by omega)⟩
              case measure => simp [intOf]; omega
            | some l =>
              go_wp2_with (first
                | (go_at_call 74; refine Hc.out.mono ?_; rintro e w4 ⟨rfl, hg4, u4, hu4, hv4⟩; obtain ⟨A4, c4, rfl, hi4⟩ := (hv4 l rfl).isInts; simp only [Option.isSome_some]; have hc4 : w4.cell? ⟨F, 0, none⟩ = some (.slice A4 (natI l).length c4) := by rw [cell_heap hu4]; rfl))
              go_ret2
              obtain ⟨e1, e2⟩ := Hsome.out l (Hs1.out j l (by omega) Hno.out Hr.out.symm)
              rw [← e2] at hi4 ⊢
              refine ⟨A4, c4, by rw [e1]; rfl, hi4, ?_⟩
              exact ((Hbw.out.trans HW.out.ext).grown (Hgr.out.trans hg4) (fun x hx => by injection hx with hx; rw [← hx]; exact HlowW.out))
          · obtain rfl : j = na + 1 := by omega
            obtain ⟨e1, e2⟩ := Hnone.out (Hs2.out fun x hx => Hno.out x (by omega))
            have E1 := Lib.hid e1
            have E2 := Lib.hid e2
            clear e1 e2
            go_wp2
            go_ret2
            refine intsRes_nil E2.out.symm E1.out.symm ?_
            exact ((Hbw.out.trans HW.out.ext).grown Hgr.out (fun x hx => by injection hx with hx; rw [← hx]; exact HlowW.out))
  · obtain ⟨e1, e2⟩ := slipX_bad hz
    rw [e1, e2]
    clear e1 e2
    generalize askE s ms [i] = X at *
    generalize ms.length = m at *
    have C1 := Lib.hid (C0.out (w.heap.size + 1 + 1) (((w.alloc (.cells #[.int .i64 s, .slice A m c] 41)).alloc (.cells #[.int .i64 i] 3)).alloc (.cells #[.int .i64 i] 3)) ((((Ext.refl w).alloc _).alloc _).alloc _) (cells_three rfl _ (Ext.refl _)))
    clear C0
    go_enter Try.func31, Try.ntmps31
    go_wp2_with (first
      | (go_at_call 73; refine C1.out.mono ?_; rintro e wb ⟨rfl, hx1⟩))
    go_ret2
    exact intsRes_nil rfl rfl (Ext.trans (by simp (maxDischargeDepth := 8)) hx1)
end Go.Proofs.Ytbclbcldplmppaa

/- The motion of a free shaft: by the code. -/
namespace Go.Proofs.Ytbclbcldplmppaa
open Go.RowKit

/-- What the numbers are while the map is ranged over. -/
structure MotI (S : Nat) (pv : List (Nat × Nat)) (M : Nat → Nat → Int) (d : Int) (f : Nat) (D : DataW Unit) (left : Lit → Bool) (xs : List Int) : Prop where
  len : xs.length = S
  top : getI xs f = sg d * d
  piv : ∀ q ∈ pv, left (.int .i64 (q.2 : Int)) = false → getI xs q.2 = -sg d * M q.1 f
  oth : ∀ j, j < S → j ≠ f → j ∉ colsP pv → getI xs j = 0
  has : ∀ z, left z = true → Maps.has D z = true

theorem getI_set {l : List Int} {k j : Nat} {v : Int} (h : k < l.length) : getI (l.set k v) j = if j = k then v else getI l j := by
  unfold getI
  rw [List.getElem?_set]
  by_cases e : k = j
  · subst e; simp [h]
  · rw [if_neg e, if_neg (fun e' => e e'.symm)]

section
variable {S : Nat} {pv : List (Nat × Nat)} {M : Nat → Nat → Int} {d : Int} {f : Nat} {D : DataW Unit} {left : Lit → Bool} {xs : List Int}
theorem MotI.start (hd : MapIs D (colsP pv)) (hf : f < S) : MotI S pv M d f D (Maps.has D) ((List.replicate S 0).set f (sg d * d)) := by
  refine ⟨by simp, ?_, fun q hq h => ?_, fun j hj h _ => ?_, fun z h => h⟩
  · rw [getI_set (by simpa using hf), if_pos rfl]
  · rw [hd.has, decide_eq_false_iff_not] at h
    exact absurd (List.mem_map.2 ⟨q, hq, rfl⟩) h
  · rw [getI_set (by simpa using hf), if_neg h]
    unfold getI
    rw [List.getElem?_replicate, if_pos hj]
    rfl
theorem sameKey_nat {a b : Nat} (h : (Lit.int .i64 (a : Int)).sameKey (.int .i64 (b : Int)) = true) : a = b := by
  have := WideAt.sameKey_eq h
  injection this with _ e
  omega
theorem MotI.step (h : MotI S pv M d f D left xs) (hcnd : (colsP pv).Nodup) (hfo : f ∉ colsP pv) (hS : ∀ c ∈ colsP pv, c < S) {k : Nat} (hk : k < pv.length) :
    MotI S pv M d f D (fun z => left z && !z.sameKey (.int .i64 (pv[k].2 : Int))) (xs.set pv[k].2 (-sg d * M pv[k].1 f)) := by
  have hmem : pv[k].2 ∈ colsP pv := List.mem_map.2 ⟨_, List.getElem_mem hk, rfl⟩
  have hlt : pv[k].2 < xs.length := by rw [h.len]; exact hS _ hmem
  have hne : f ≠ pv[k].2 := fun e => hfo (e ▸ hmem)
  refine ⟨by rw [List.length_set]; exact h.len, ?_, fun q hq hl => ?_, fun j hj h1 h2 => ?_, fun z hz => ?_⟩
  · rw [getI_set hlt, if_neg hne]; exact h.top
  · rw [getI_set hlt]
    by_cases e : q.2 = pv[k].2
    · rw [if_pos e]
      obtain ⟨i, hi, rfl⟩ := List.getElem_of_mem hq
      have e2 : (colsP pv)[i]'(by rw [colsP_len]; exact hi) = (colsP pv)[k]'(by rw [colsP_len]; exact hk) := by rw [colsP_get, colsP_get]; exact e
      have : i = k := (List.getElem_inj hcnd).1 e2
      subst this
      rfl
    · rw [if_neg e]
      refine h.piv q hq ?_
      cases hl2 : left (.int .i64 (q.2 : Int))
      · rfl
      · rw [hl2, Bool.true_and] at hl
        simp only [Bool.not_eq_false'] at hl
        exact absurd (sameKey_nat hl) e
  · rw [getI_set hlt, if_neg (show ¬ j = pv[k].2 from fun e => h2 (by rw [e]; exact hmem))]
    exact h.oth j hj h1 h2
  · simp only [Bool.and_eq_true] at hz
    exact h.has z hz.1
theorem MotI.done (h : MotI S pv M d f D left xs) (hl : ∀ z, left z = false) : MotOf S pv M d f xs :=
  ⟨h.len, h.top, fun q hq => h.piv q hq (hl _), h.oth⟩
/-- The key that comes next is a pivot's column, and its number the row's. -/
theorem MotI.next (h : MotI S pv M d f D left xs) (hd : MapIs D (colsP pv)) (hcnd : (colsP pv).Nodup) {x c : Int} (hx : left (.int .i64 x) = true) (hat : ∀ zd, D.atKey (.int .i64 x) zd = .lit (.int .i64 c)) :
    ∃ k, ∃ hk : k < pv.length, x = (pv[k].2 : Int) ∧ c = (k : Int) := by
  obtain ⟨c', hc', e⟩ := hd.only hcnd (h.has _ hx)
  obtain ⟨k, hk, rfl⟩ := List.getElem_of_mem hc'
  injection e with _ e
  subst e
  have hk' : k < pv.length := by rwa [colsP_len] at hk
  refine ⟨k, hk', by rw [colsP_get], ?_⟩
  have h1 := hat (.lit (.int .i64 0))
  have h2 := hd.at_ k hk (.lit (.int .i64 0))
  rw [h2] at h1
  simpa using h1.symm
end

theorem MF.at_ {b w : World} {v : Value} {n m c : Nat} {g h : Nat → Nat} {L B : Nat → List Int} (hm : MF b w v n m c g h L B) {k : Nat} (hk : k < c) :
    ∃ gv cv, v = .slice (some ⟨gv, 0, none⟩) c cv ∧ (∀ w', Ext w w' → w'.cell? ⟨gv, k * 2, none⟩ = some (sl (g k) n)) ∧ (∀ w', Ext w w' → w'.cell? ⟨gv, k * 2 + 1, none⟩ = some (sl (h k) m)) ∧
      Ints w (some ⟨g k, 0, none⟩) (L k) ∧ Ints w (some ⟨h k, 0, none⟩) (B k) ∧ (L k).length = n ∧ (B k).length = m := by
  obtain ⟨gv, cv, rfl, _, _⟩ := hm.own.at_ (by omega)
  have hl := rowCells_len n m c g h
  have h2 : ∀ r ∈ (List.range c).map (fun k => [sl (g k) n, sl (h k) m]), r.length = 2 := by simp
  have c0 := hm.own.cell (j := k * 2) (by omega)
  have c1 := hm.own.cell (j := k * 2 + 1) (by omega)
  have e0 := flatten_get 2 _ h2 k 0 (by omega) (by simpa using hk)
  have e1 := flatten_get 2 _ h2 k 1 (by omega) (by simpa using hk)
  rw [Nat.add_zero] at e0
  have d0 : w.cell? ⟨gv, k * 2, none⟩ = some (sl (g k) n) := by
    rw [c0]; unfold rowCells; rw [e0]; simp
  have d1 : w.cell? ⟨gv, k * 2 + 1, none⟩ = some (sl (h k) m) := by
    rw [c1]; unfold rowCells; rw [e1]; simp
  exact ⟨gv, cv, rfl, Ext.cells d0, Ext.cells d1, (hm.gl k hk).1.ints, (hm.hb k hk).1.ints, (hm.gl k hk).2, (hm.hb k hk).2⟩

theorem lineOf_get {M : Nat → Nat → Int} {n x j : Nat} (h : j < n) : getI (lineOf M n x) j = M x j := by simp [lineOf, getI, h]
theorem byOf_get {M : Nat → Nat → Int} {n m x j : Nat} (h : j < m) : getI (byOf M n m x) j = M x (n + j) := by simp [byOf, getI, h]

theorem grown_setAt {w : World} {p : Addr} {v : Value} : w.grownBy (w.setCell p v) (some p.block) := by
  refine ⟨rfl, rfl, rfl, by simp [World.setCell], fun k hk hne => ?_⟩
  exact heap_other fun e => hne (by rw [e])
theorem NewInts.far {w w1 w2 : World} {g r : Nat} {xs : List Int} (h : NewInts w w1 g xs) (hg : w1.grownBy w2 (some r)) (hne : g ≠ r) (hr : w.heap.size ≤ r) : NewInts w w2 g xs :=
  ⟨h.1.grown hg (fun k hk => by injection hk with hk; omega), h.2.1, (hg.block g h.lt (fun e => hne (Option.some.inj e))).trans h.2.2⟩

/-- What 'motion' hands back. -/
def MotRes (w : World) (S : Nat) (pv : List (Nat × Nat)) (M : Nat → Nat → Int) (d : Int) (f : Nat) (e : Ending) (w' : World) : Prop := ∃ g xs, e = .returned (sl g S) ∧ NewInts w w' g xs ∧ MotOf S pv M d f xs

set_option maxRecDepth 100000 in
set_option maxHeartbeats 4000000 in
theorem motion_any {b w : World} {v ordv : Value} {mb S m f : Nat} {d : Int} {g h : Nat → Nat} {σ : Nat → Nat} {pv : List (Nat × Nat)} {M : Nat → Nat → Int} {D : DataW Unit}
    (hm : MF b w v S m m g h (fun k => lineOf M S (σ k)) (fun k => byOf M S m (σ k))) (hp : MapI w mb pv.length D) (hd : MapIs D (colsP pv)) (ho : ∃ Ao co, ordv = .slice Ao S co) (hle : pv.length ≤ m) (hcnd : (colsP pv).Nodup) (hcS : ∀ c ∈ colsP pv, c < S) (hrow : ∀ i (hi : i < pv.length), pv[i].1 = σ i)
    (hf : f < S) (hfo : f ∉ colsP pv) (h8 : S ≤ 8) (hbd : d.natAbs < 4611686018427387904) (hbM : ∀ q ∈ pv, (M q.1 f).natAbs < 4611686018427387904) :
    Calls Try.prog 77 #[.agg #[v, .map (some mb), ordv, .int .i64 d], .int .i64 f] w (MotRes w S pv M d f) := by
  obtain ⟨Ao, co, rfl⟩ := ho
  have hat := fun (k : Nat) (hk : k < pv.length) => hm.at_ (show k < m by omega)
  have hgl := fun (k : Nat) (hk : k < pv.length) (w' : World) (he : Ext w w') => at_any (some ⟨g k, 0, none⟩) S f (lineOf M S (σ k)) w' (((hm.gl k (by omega)).1.ints).ext he) (by rw [(hm.gl k (by omega)).2]; exact hf)
  have hval := fun (k : Nat) (hk : k < pv.length) => (show getI (lineOf M S (σ k)) f = M pv[k].1 f by rw [lineOf_get hf, hrow k hk])
  have hlen := fun (k : Nat) (hk : k < pv.length) => (hm.gl k (by omega)).2
  have hbk := fun (k : Nat) (hk : k < pv.length) => hbM _ (List.getElem_mem hk)
  have hnext := fun (left : Lit → Bool) (xs : List Int) (hI : MotI S pv M d f D left xs) (x c : Int) => hI.next hd hcnd (x := x) (c := c)
  have hstep := fun (left : Lit → Bool) (xs : List Int) (hI : MotI S pv M d f D left xs) (k : Nat) (hk : k < pv.length) => hI.step hcnd hfo hcS hk
  have hstart := MotI.start (S := S) (M := M) (d := d) (f := f) hd hf
  have hcol := fun (k : Nat) (hk : k < pv.length) => hcS _ (List.mem_map.2 ⟨_, List.getElem_mem hk, rfl⟩)
  obtain ⟨A, cv, rfl⟩ := hm.own.form
  have Hat := Lib.hid hat
  have Hgl := Lib.hid hgl
  have Hval := Lib.hid hval
  have Hlen := Lib.hid hlen
  have Hbk := Lib.hid hbk
  have Hnext := Lib.hid hnext
  have Hstep := Lib.hid hstep
  have Hstart := Lib.hid hstart
  have Hcol := Lib.hid hcol
  have Hp := Lib.hid hp
  have hlemm : pv.length ≤ m := hle
  clear hat hgl hval hlen hbk hnext hstep hstart hcol hm hd hcnd hcS hrow hfo hbM hp
  have hsg : (¬ d < 0 ∧ sg d = 1) ∨ (d < 0 ∧ sg d = -1) := by unfold sg; split <;> omega
  have hfi : (f : Int) < (S : Int) := by omega
  have K := Maps.int_keyed (P := Try.prog) Try.underlying3
  rcases hsg with ⟨hdn, hs⟩ | ⟨hdn, hs⟩
  · have hm1 : IntKind.i64.wrap (sg d * d) = sg d * d := by rw [hs, IntKind.wrap_i64]; omega
    rw [hs] at hm1
    have Hs := Lib.hid hs
    clear hs
    go_enter Try.func77, Try.ntmps77
    have hexb : Ext w (w.alloc (.cells #[.slice A m cv, .map (some mb), .slice Ao S co, .int .i64 d] 101)) := by simp
    have p0 : ∀ w', Ext (w.alloc (.cells #[.slice A m cv, .map (some mb), .slice Ao S co, .int .i64 d] 101)) w' → w'.cell? ⟨w.heap.size, 0, none⟩ = some (.slice A m cv) := fun w' he => cells_one rfl w' he
    have p1 : ∀ w', Ext (w.alloc (.cells #[.slice A m cv, .map (some mb), .slice Ao S co, .int .i64 d] 101)) w' → w'.cell? ⟨w.heap.size, 1, none⟩ = some (.map (some mb)) := fun w' he => cells_one rfl w' he
    have p2 : ∀ w', Ext (w.alloc (.cells #[.slice A m cv, .map (some mb), .slice Ao S co, .int .i64 d] 101)) w' → w'.cell? ⟨w.heap.size, 2, none⟩ = some (.slice Ao S co) := fun w' he => cells_one rfl w' he
    have p3 : ∀ w', Ext (w.alloc (.cells #[.slice A m cv, .map (some mb), .slice Ao S co, .int .i64 d] 101)) w' → w'.cell? ⟨w.heap.size, 3, none⟩ = some (.int .i64 d) := fun w' he => cells_one rfl w' he
    have hsz : (w.alloc (.cells #[.slice A m cv, .map (some mb), .slice Ao S co, .int .i64 d] 101)).heap.size = w.heap.size + 1 := by
      simp only [World.alloc, Array.size_push]
    have Hsz := Lib.hid hsz
    clear hsz
    have Hpb := Lib.hid (MapI.later Hp.out hexb)
    go_wp2_with (first
      | (refine own_make (w1 := w) int_elem rfl _ _ rfl Try.underlying22 _ S rfl rfl (by omega) (by unfold maxLen; omega) hexb ?_; intro w2 hown hx2; rw [made_ints] at hown; have hnew := NewInts.of_own hown; rw [Hsz.out] at hnew; have hco := hnew.cell (k := f) (by rw [List.length_replicate]; exact hf); have hfr := hnew.frz f; have hxs := fun v => Ext.setCell (p := ⟨w.heap.size + 1, f, none⟩) hx2 (Nat.le_of_eq Hsz.out) v)
      | (at_range; go_loud (refine wpList_range_own _ rfl _ 99 rfl 3 3 K Try.underlying99 (plainElem Try.prog 3) mb pv.length D rfl (MapI.later Hpb.out (hxs _)) ?_); intro w3 hrg hg3 hs3))
    (first | go_frame | skip)
    have ev : sg d * d = d := by rw [Hs.out]; omega
    have hout := (hnew.put f d).later ((Ext.refl _).grown hg3 (fun k hk => by cases hk))
    have hx3 : Ext (w.alloc (.cells #[.slice A m cv, .map (some mb), .slice Ao S co, .int .i64 d] 101)) w3 := (hxs _).grown hg3 (fun k hk => by cases hk)
    have hlt0 : w.heap.size + 1 < w2.heap.size := hnew.lt
    have hsz2 : (w2.setCell ⟨w.heap.size + 1, f, none⟩ (.int .i64 d)).heap.size = w2.heap.size := by simp only [World.setCell, Array.size_modify]
    rw [hsz2] at hrg
    clear hsz2
    have hI0 := Hstart.out
    rw [ev] at hI0
    have hstart : ∃ (left : Lit → Bool) (cnt : Nat) (xs : List Int), w3.ranges Try.prog 3 (plainElem Try.prog 3) mb w2.heap.size pv.length D left cnt ∧ NewInts w w3 (w.heap.size + 1) xs ∧ MotI S pv M d f D left xs ∧ Ext (w.alloc (.cells #[.slice A m cv, .map (some mb), .slice Ao S co, .int .i64 d] 101)) w3 := ⟨_, _, _, hrg, hout, hI0, hx3⟩
    have Hst := Lib.hid hstart
    have P0 := Lib.hid p0
    have Hlt0 := Lib.hid hlt0
    clear hstart hI0 hx3 hout hrg hg3 hs3 hxs hnew hco hfr hx2 hown p0 p1 p2 p3 ev hlt0 hm1
    have hwx := hexb
    generalize w.alloc (.cells #[.slice A m cv, .map (some mb), .slice Ao S co, .int .i64 d] 101) = wb at *
    (first | go_simp | skip)
    generalize w2.heap.size = r at *
    generalize w.heap.size + 1 = g0 at *
    go_loopw [] (fun wr => ∃ (left : Lit → Bool) (cnt : Nat) (xs : List Int), wr.ranges Try.prog 3 (plainElem Try.prog 3) mb r pv.length D left cnt ∧ NewInts w wr g0 xs ∧ MotI S pv M d f D left xs ∧ Ext wb wr) (fun wr => wr.rangeLeft mb r)
    case atStart => exact Hst.out
    case round =>
      clear Hst
      obtain ⟨left, cnt, xs, hrg, hout, hI, hex⟩ := hrel
      go_wp2_with (first
        | (at_next; refine wpList_next_ranges_ii _ rfl _ rfl 3 3 .i64 .i64 K Try.underlying3 Try.underlying3 mb r pv.length _ _ _ rfl hrg ?_ ?_))
      · intro hc0 hl0
        go_wp2
        go_ret
        exact ⟨g0, xs, rfl, hout, hI.done hl0⟩
      · intro x c w4 cnt1 hwx1 hwc hlx hat hrg1 hlt hg1 hs1 hen
        obtain ⟨k, hk, rfl, rfl⟩ := Hnext.out left xs hI x c hlx hat
        obtain ⟨gv, cv', ev, c0, _⟩ := Hat.out k hk
        simp only [Value.slice.injEq, true_and] at ev
        obtain ⟨rfl, rfl⟩ := ev
        have hbr : wb.heap.size ≤ r := by have := Hsz.out; have := Hlt0.out; omega
        have hgr : g0 ≠ r := by have := Hlt0.out; omega
        have hex4 : Ext wb w4 := hex.grown hg1 (fun j hj => by injection hj with hj; omega)
        have hout4 := hout.far hg1 hgr (Nat.le_trans hwx.le hbr)
        have hstep := Hstep.out left xs hI k hk
        have hcal := Hgl.out k hk
        rw [Hlen.out k hk, Hval.out k hk] at hcal
        have hby := Hbk.out k hk
        have hcl := Hcol.out k hk
        have hcell := hout4.cell (k := pv[k].2) (by rw [hI.len]; exact hcl)
        have hfrz := hout4.frz pv[k].2
        have h0 := P0.out w4 hex4
        have hrow := c0 w4 (hwx.trans hex4)
        have hkm : (k : Int) < (m : Int) := by omega
        have hmbg : some mb ≠ some g0 := fun e => by
          have h1 := Hp.out.lt
          have h2 := Option.some.inj e
          have h3 := hwx.le
          have h4 := Hsz.out
          omega
        have hrg0 : some r ≠ some g0 := fun e => hgr (Option.some.inj e).symm
        have Hstp := Lib.hid hstep
        have Hcal := Lib.hid (fun w' he => hcal w' he)
        have Ho4 := Lib.hid hout4
        have He4 := Lib.hid hex4
        have Hrg := Lib.hid hrg
        have Hrg1 := Lib.hid hrg1
        have Hmbg := Lib.hid hmbg
        have Hrg0 := Lib.hid hrg0
        have Hhl := Lib.hid hlt
        have hci : ((pv[k].2 : Nat) : Int) < (S : Int) := by omega
        have hw4 := hwx.trans hex4
        clear hstep hcal hout4 hex4 hrg hrg1 hmbg hrg0 hlt hout hI hex c0 hg1 hs1 hat hlx hwc hwx1 Hat Hgl Hval Hlen Hbk Hnext Hstep Hcol hcl
        obtain ⟨z, hz⟩ : ∃ z, z = -sg d * M pv[k].1 f := ⟨_, rfl⟩
        rw [← hz] at Hstp
        rw [Hs.out] at hz
        generalize M pv[k].1 f = y at *
        generalize pv[k].2 = cc at *
        have hA : IntKind.i64.wrap (-1 * y) = z := by rw [IntKind.wrap_i64]; omega
        have hB : IntKind.i64.wrap (-y) = z := by rw [IntKind.wrap_i64]; omega
        clear hz hby
        go_wp2_with (first
          | (go_at_call 78; refine (Hcal.out _ hw4).mono ?_; rintro e w5 ⟨rfl, rfl⟩))
        have hnew := Ho4.out.put cc z
        have hrg5 := Hrg1.out.kept (grown_setAt (p := ⟨g0, cc, none⟩) (v := .int .i64 z)) Hmbg.out Hrg0.out
        have hex5 := He4.out.setCell (p := ⟨g0, cc, none⟩) (by have := Hsz.out; exact Nat.le_of_eq this) (.int .i64 z)
        go_roundw
        case rel => exact ⟨_, cnt1, _, hrg5, hnew, Hstp.out, hex5⟩
        case measure => rw [hrg5.left_eq, Hrg.out.left_eq]; exact Hhl.out
  · have hm1 : IntKind.i64.wrap (sg d * d) = sg d * d := by rw [hs, IntKind.wrap_i64]; omega
    rw [hs] at hm1
    have Hs := Lib.hid hs
    clear hs
    go_enter Try.func77, Try.ntmps77
    have hexb : Ext w (w.alloc (.cells #[.slice A m cv, .map (some mb), .slice Ao S co, .int .i64 d] 101)) := by simp
    have p0 : ∀ w', Ext (w.alloc (.cells #[.slice A m cv, .map (some mb), .slice Ao S co, .int .i64 d] 101)) w' → w'.cell? ⟨w.heap.size, 0, none⟩ = some (.slice A m cv) := fun w' he => cells_one rfl w' he
    have p1 : ∀ w', Ext (w.alloc (.cells #[.slice A m cv, .map (some mb), .slice Ao S co, .int .i64 d] 101)) w' → w'.cell? ⟨w.heap.size, 1, none⟩ = some (.map (some mb)) := fun w' he => cells_one rfl w' he
    have p2 : ∀ w', Ext (w.alloc (.cells #[.slice A m cv, .map (some mb), .slice Ao S co, .int .i64 d] 101)) w' → w'.cell? ⟨w.heap.size, 2, none⟩ = some (.slice Ao S co) := fun w' he => cells_one rfl w' he
    have p3 : ∀ w', Ext (w.alloc (.cells #[.slice A m cv, .map (some mb), .slice Ao S co, .int .i64 d] 101)) w' → w'.cell? ⟨w.heap.size, 3, none⟩ = some (.int .i64 d) := fun w' he => cells_one rfl w' he
    have hsz : (w.alloc (.cells #[.slice A m cv, .map (some mb), .slice Ao S co, .int .i64 d] 101)).heap.size = w.heap.size + 1 := by
      simp only [World.alloc, Array.size_push]
    have Hsz := Lib.hid hsz
    clear hsz
    have Hpb := Lib.hid (MapI.later Hp.out hexb)
    go_wp2_with (first
      | (refine own_make (w1 := w) int_elem rfl _ _ rfl Try.underlying22 _ S rfl rfl (by omega) (by unfold maxLen; omega) hexb ?_; intro w2 hown hx2; rw [made_ints] at hown; have hnew := NewInts.of_own hown; rw [Hsz.out] at hnew; have hco := hnew.cell (k := f) (by rw [List.length_replicate]; exact hf); have hfr := hnew.frz f; have hxs := fun v => Ext.setCell (p := ⟨w.heap.size + 1, f, none⟩) hx2 (Nat.le_of_eq Hsz.out) v)
      | (at_range; go_loud (refine wpList_range_own _ rfl _ 99 rfl 3 3 K Try.underlying99 (plainElem Try.prog 3) mb pv.length D rfl (MapI.later Hpb.out (hxs _)) ?_); intro w3 hrg hg3 hs3))
    (first | go_frame | skip)
    have ev : sg d * d = (-d) := by rw [Hs.out]; omega
    have hout := (hnew.put f (-d)).later ((Ext.refl _).grown hg3 (fun k hk => by cases hk))
    have hx3 : Ext (w.alloc (.cells #[.slice A m cv, .map (some mb), .slice Ao S co, .int .i64 d] 101)) w3 := (hxs _).grown hg3 (fun k hk => by cases hk)
    have hlt0 : w.heap.size + 1 < w2.heap.size := hnew.lt
    have hsz2 : (w2.setCell ⟨w.heap.size + 1, f, none⟩ (.int .i64 (-d))).heap.size = w2.heap.size := by simp only [World.setCell, Array.size_modify]
    rw [hsz2] at hrg
    clear hsz2
    have hI0 := Hstart.out
    rw [ev] at hI0
    have hstart : ∃ (left : Lit → Bool) (cnt : Nat) (xs : List Int), w3.ranges Try.prog 3 (plainElem Try.prog 3) mb w2.heap.size pv.length D left cnt ∧ NewInts w w3 (w.heap.size + 1) xs ∧ MotI S pv M d f D left xs ∧ Ext (w.alloc (.cells #[.slice A m cv, .map (some mb), .slice Ao S co, .int .i64 d] 101)) w3 := ⟨_, _, _, hrg, hout, hI0, hx3⟩
    have Hst := Lib.hid hstart
    have P0 := Lib.hid p0
    have Hlt0 := Lib.hid hlt0
    clear hstart hI0 hx3 hout hrg hg3 hs3 hxs hnew hco hfr hx2 hown p0 p1 p2 p3 ev hlt0 hm1
    have hwx := hexb
    generalize w.alloc (.cells #[.slice A m cv, .map (some mb), .slice Ao S co, .int .i64 d] 101) = wb at *
    (first | go_simp | skip)
    generalize w2.heap.size = r at *
    generalize w.heap.size + 1 = g0 at *
    go_loopw [] (fun wr => ∃ (left : Lit → Bool) (cnt : Nat) (xs : List Int), wr.ranges Try.prog 3 (plainElem Try.prog 3) mb r pv.length D left cnt ∧ NewInts w wr g0 xs ∧ MotI S pv M d f D left xs ∧ Ext wb wr) (fun wr => wr.rangeLeft mb r)
    case atStart => exact Hst.out
    case round =>
      clear Hst
      obtain ⟨left, cnt, xs, hrg, hout, hI, hex⟩ := hrel
      go_wp2_with (first
        | (at_next; refine wpList_next_ranges_ii _ rfl _ rfl 3 3 .i64 .i64 K Try.underlying3 Try.underlying3 mb r pv.length _ _ _ rfl hrg ?_ ?_))
      · intro hc0 hl0
        go_wp2
        go_ret
        exact ⟨g0, xs, rfl, hout, hI.done hl0⟩
      · intro x c w4 cnt1 hwx1 hwc hlx hat hrg1 hlt hg1 hs1 hen
        obtain ⟨k, hk, rfl, rfl⟩ := Hnext.out left xs hI x c hlx hat
        obtain ⟨gv, cv', ev, c0, _⟩ := Hat.out k hk
        simp only [Value.slice.injEq, true_and] at ev
        obtain ⟨rfl, rfl⟩ := ev
        have hbr : wb.heap.size ≤ r := by have := Hsz.out; have := Hlt0.out; omega
        have hgr : g0 ≠ r := by have := Hlt0.out; omega
        have hex4 : Ext wb w4 := hex.grown hg1 (fun j hj => by injection hj with hj; omega)
        have hout4 := hout.far hg1 hgr (Nat.le_trans hwx.le hbr)
        have hstep := Hstep.out left xs hI k hk
        have hcal := Hgl.out k hk
        rw [Hlen.out k hk, Hval.out k hk] at hcal
        have hby := Hbk.out k hk
        have hcl := Hcol.out k hk
        have hcell := hout4.cell (k := pv[k].2) (by rw [hI.len]; exact hcl)
        have hfrz := hout4.frz pv[k].2
        have h0 := P0.out w4 hex4
        have hrow := c0 w4 (hwx.trans hex4)
        have hkm : (k : Int) < (m : Int) := by omega
        have hmbg : some mb ≠ some g0 := fun e => by
          have h1 := Hp.out.lt
          have h2 := Option.some.inj e
          have h3 := hwx.le
          have h4 := Hsz.out
          omega
        have hrg0 : some r ≠ some g0 := fun e => hgr (Option.some.inj e).symm
        have Hstp := Lib.hid hstep
        have Hcal := Lib.hid (fun w' he => hcal w' he)
        have Ho4 := Lib.hid hout4
        have He4 := Lib.hid hex4
        have Hrg := Lib.hid hrg
        have Hrg1 := Lib.hid hrg1
        have Hmbg := Lib.hid hmbg
        have Hrg0 := Lib.hid hrg0
        have Hhl := Lib.hid hlt
        have hci : ((pv[k].2 : Nat) : Int) < (S : Int) := by omega
        have hw4 := hwx.trans hex4
        clear hstep hcal hout4 hex4 hrg hrg1 hmbg hrg0 hlt hout hI hex c0 hg1 hs1 hat hlx hwc hwx1 Hat Hgl Hval Hlen Hbk Hnext Hstep Hcol hcl
        obtain ⟨z, hz⟩ : ∃ z, z = -sg d * M pv[k].1 f := ⟨_, rfl⟩
        rw [← hz] at Hstp
        rw [Hs.out] at hz
        generalize M pv[k].1 f = y at *
        generalize pv[k].2 = cc at *
        have hA : IntKind.i64.wrap (1 * y) = z := by rw [IntKind.wrap_i64]; omega
        have hB : IntKind.i64.wrap (y) = z := by rw [IntKind.wrap_i64]; omega
        clear hz hby
        go_wp2_with (first
          | (go_at_call 78; refine (Hcal.out _ hw4).mono ?_; rintro e w5 ⟨rfl, rfl⟩))
        have hnew := Ho4.out.put cc z
        have hrg5 := Hrg1.out.kept (grown_setAt (p := ⟨g0, cc, none⟩) (v := .int .i64 z)) Hmbg.out Hrg0.out
        have hex5 := He4.out.setCell (p := ⟨g0, cc, none⟩) (by have := Hsz.out; exact Nat.le_of_eq this) (.int .i64 z)
        go_roundw
        case rel => exact ⟨_, cnt1, _, hrg5, hnew, Hstp.out, hex5⟩
        case measure => rw [hrg5.left_eq, Hrg.out.left_eq]; exact Hhl.out
end Go.Proofs.Ytbclbcldplmppaa

/- The order of shafts with two at the end: what becomes of the literal that names them; the equations, when another block turns. -/
namespace Go.Proofs.Ytbclbcldplmppaa
open Go.RowKit

/-- The order, in new memory; no block turns but the literal's. -/
def OrdPair (w : World) (gl : Nat) (l : List Int) (e : Ending) (w' : World) : Prop := ∃ A c, e = .returned (.slice A l.length c) ∧ Ints w' A l ∧ w.grownBy w' (some gl)

theorem OrdPair.ext {w w' : World} {gl : Nat} {b : World} (hg : w.grownBy w' (some gl)) (he : Ext b w) (hl : b.heap.size ≤ gl) : Ext b w' := he.grown hg fun j e => by have := Option.some.inj e; omega

/-- The first blocks of a world. -/
def cutAt (w : World) (k : Nat) : World := { w with heap := w.heap.extract 0 k }
theorem cut_size {w : World} {k : Nat} (h : k ≤ w.heap.size) : (cutAt w k).heap.size = k := by simp [cutAt]; omega
theorem cut_ext {w : World} {k : Nat} : Ext (cutAt w k) w := ⟨rfl, rfl, rfl, by simp only [cutAt, Array.size_extract]; omega, fun j hj => by
  have h2 : j < (w.heap.extract 0 k).size := hj
  simp only [Array.size_extract] at h2
  simp only [cutAt, Array.getElem?_extract]
  rw [if_pos (by omega), Nat.zero_add]⟩

theorem Own.far_put {w w2 : World} {v : Value} {n : Nat} {xs : List Value} {gl : Nat} (h : Own w w2 3 1 v n xs) (hl : gl < w.heap.size) (u : Value) :
    Own (cutAt w gl) (w2.setCell ⟨gl, 1, none⟩ u) 3 1 v n xs :=
  (h.since cut_ext).other (p := ⟨gl, 1, none⟩) (by rw [cut_size (by omega)]; exact Nat.le_refl _) (fun e => by have := (h.2.lt gl e).1; omega) u

theorem pair_grown {w w1 w' : World} {v : Value} {gl : Nat} {u : Value} (h : w.grownBy w1 (some gl)) (hv : ∀ j, v.ownBlock = some j → w.heap.size ≤ j) (hg : (w1.setCell ⟨gl, 1, none⟩ u).grownBy w' v.ownBlock) : w.grownBy w' (some gl) := by
  have h1 : w.grownBy (w1.setCell ⟨gl, 1, none⟩ u) (some gl) := h.trans (grown_setAt (p := ⟨gl, 1, none⟩))
  refine ⟨hg.os.trans h1.os, hg.tape.trans h1.tape, hg.output.trans h1.output, Nat.le_trans h1.size hg.size, fun k hk hne => ?_⟩
  rw [hg.block k (Nat.lt_of_lt_of_le hk h1.size) (fun e => by have := hv k e.symm; omega)]
  exact h1.block k hk hne

set_option maxRecDepth 100000 in
set_option maxHeartbeats 4000000 in
theorem order_pair (S : Nat) (ms : Value) (w : World) (hS : S ≤ 8) (gl : Nat) (x y : Int) (h0 : w.cell? ⟨gl, 0, none⟩ = some (vint x)) (h1 : w.cell? ⟨gl, 1, none⟩ = some (vint y)) (hf : w.frozen? ⟨gl, 1, none⟩ = false) :
    Calls Try.prog 67 #[.agg #[.int .i64 S, ms], .slice (some ⟨gl, 0, none⟩) 2 2] w (OrdPair w gl (ordS S [x, y])) := by
  have hcon := fun (s : Nat) (w' : World) (he : Ext w w') => contains_any (some ⟨gl, 0, none⟩) 2 [x, y] s w' (ints_two (he.cell h0) (he.cell h1)) (by simp)
  simp only [List.length_nil, List.length_cons, Nat.zero_add, Nat.reduceAdd] at hcon
  have Hcon := Lib.hid hcon
  clear hcon
  have hsk := fun (k : Nat) (h : memB [x, y] (k : Int) = true) => ordP_skip (xs := [x, y]) h
  have htk := fun (k : Nat) (h : memB [x, y] (k : Int) = false) => ordP_take (xs := [x, y]) h
  have hle := fun (k : Nat) => ordP_le [x, y] k
  have Hsk := Lib.hid hsk
  have Htk := Lib.hid htk
  have Hle := Lib.hid hle
  clear hsk htk hle
  go_enter Try.func67, Try.ntmps67
  go_wp2
  go_loopw [9, 5] (fun i o wr => ∃ k : Nat, k ≤ S ∧ i = .int .i64 k ∧ Own w wr 3 1 o (ordP [x, y] k).length ((ordP [x, y] k).map vint)) (fun i _ _ => S - (intOf i).toNat)
  case atStart => exact ⟨0, by omega, rfl, Own.nil' (by simp) _ _⟩
  case round =>
    obtain ⟨k, hk, rfl, hown⟩ := hrel
    obtain ⟨Av, cv, hv⟩ := hown.form
    subst hv
    have hex := hown.ext
    have hlk := Hle.out k
    by_cases hlt : k < S
    · cases hm : memB [x, y] (k : Int)
      · have htk := Htk.out k hm
        have hc := Hcon.out k
        rw [hm] at hc
        have Hc := Lib.hid hc
        have Hk := Lib.hid htk
        clear hc htk hm
        generalize ordP [x, y] k = l at *
        go_wp2_with (first
          | (go_at_call 93; refine (Hc.out _ hex).mono ?_; rintro e w' ⟨rfl, rfl⟩)
          | (refine own_append_int (w1 := w) rfl _ _ rfl _ l.length (l.map vint) rfl hown k rfl (by omega) ?_; intro v' w' ho))
        go_roundw
        case rel =>
          refine ⟨k + 1, by omega, by go_num, ?_⟩
          rw [Hk.out, List.length_append, List.map_append]
          exact ho
        case measure => simp [intOf]; omega
      · have htk := Hsk.out k hm
        have hc := Hcon.out k
        rw [hm] at hc
        have Hc := Lib.hid hc
        have Hk := Lib.hid htk
        clear hc htk hm
        go_wp2_with (go_at_call 93; refine (Hc.out _ hex).mono ?_; rintro e w' ⟨rfl, rfl⟩)
        go_roundw
        case rel => exact ⟨k + 1, by omega, by go_num, by rw [Hk.out]; exact hown⟩
        case measure => simp [intOf]; omega
    · obtain rfl : k = S := by omega
      have hcap : (ordP [x, y] k).length ≤ cv := hown.cap
      have hown' := Lib.hid hown
      have hlw : gl < w.heap.size := World.block_lt_of_cell? _ _ h0
      have hc := compact_two gl x y wr (he_ hown.ext h0) (he_ hown.ext h1) ((hown.ext.frozen hlw).trans hf)
      have Hc2 := Lib.hid hc
      clear hc
      generalize hl : ordP [x, y] k = l at *
      clear hown
      by_cases exy : x = y
      · have Exy := Lib.hid exy
        go_wp2_with (first
          | (go_at_call 96; refine Hc2.out.mono ?_; rintro e w2 (⟨hne, _⟩ | ⟨_, rfl, w1, hx1, rfl⟩); exact absurd Exy.out hne; have hoc := (hown'.out.later hx1); have hob := hoc.far_put hlw (vint 0); have hr : Row (w1.setCell ⟨gl, 1, none⟩ (vint 0)) (some ⟨gl, 0, none⟩) [vint x] := ints_one (by rw [World.cell?_setCell_other _ _ _ _ (by simp)]; exact hx1.cell (he_ hown'.out.ext h0)))
          | (refine own_append_src (w1 := cutAt w gl) int_elem rfl _ _ 22 rfl Try.underlying22 _ l.length (l.map vint) rfl hob _ 1 2 [vint x] rfl rfl hr (by intro u hu; simp at hu; subst hu; rfl) (by omega) (by unfold maxLen; omega) ?_; intro v' w' ho hgr; obtain ⟨A', c', rfl⟩ := ho.form))
        go_ret
        have e : ordS k [x, y] = l ++ [x] := by
          show ordP [x, y] k ++ (if x = y then [x] else [x, y]) = _
          rw [hl, if_pos Exy.out]
        rw [e]
        refine ⟨A', c', by simp, ?_, ?_⟩
        · have := Own.row ho
          simpa [Ints] using this
        · exact pair_grown (hoc.ext.grownBy _) (fun j hj => (hoc.2.lt j hj).1) hgr
      · have Exy := Lib.hid exy
        go_wp2_with (first
          | (go_at_call 96; refine Hc2.out.mono ?_; rintro e w2 (⟨_, rfl, hx2⟩ | ⟨he, _⟩); rotate_left; exact absurd he Exy.out; have hob := hown'.out.later hx2; have hr : Row w2 (some ⟨gl, 0, none⟩) [vint x, vint y] := ints_two (hx2.cell (he_ hown'.out.ext h0)) (hx2.cell (he_ hown'.out.ext h1)))
          | (refine own_append_src (w1 := w) int_elem rfl _ _ 22 rfl Try.underlying22 _ l.length (l.map vint) rfl hob _ 2 2 [vint x, vint y] rfl rfl hr (by intro u hu; simp at hu; rcases hu with rfl | rfl <;> rfl) (by omega) (by unfold maxLen; omega) ?_; intro v' w' ho _; obtain ⟨A', c', rfl⟩ := ho.form))
        go_ret
        have e : ordS k [x, y] = l ++ [x, y] := by
          show ordP [x, y] k ++ (if x = y then [x] else [x, y]) = _
          rw [hl, if_neg Exy.out]
        rw [e]
        refine ⟨A', c', by simp, ?_, ho.ext.grownBy _⟩
        have := Own.row ho
        simpa [Ints] using this
/-- The equations, when a block turns that was there before them. -/
theorem isRows.grown {b0 b w w' : World} {ms : List Msh} {S gl : Nat} {v : Value} (h : isRows b ms S v w) (he : Ext b0 b) (hg : w.grownBy w' (some gl)) (h1 : b0.heap.size ≤ gl) (h2 : gl < b.heap.size) : isRows b0 ms S v w' := by
  obtain ⟨rs, hm, hr⟩ := h
  have hx : Ext b0 w' := OrdPair.ext hg (he.trans hm.own.ext) h1
  have old : ∀ {j : Nat} {xs : List Int}, NewInts b w j xs → NewInts b0 w' j xs := fun {j xs} hj => ⟨hx, Nat.le_trans he.le hj.2.1, (hg.block j hj.lt (fun e => by have := Option.some.inj e; have := hj.2.1; omega)).trans hj.2.2⟩
  refine ⟨rs, ⟨⟨hx, (hm.own.since he).2.kept hg (.inr fun e => by have := (hm.own.2.lt gl e).1; omega)⟩, fun r hr => ?_, hm.nd⟩, hr⟩
  have := hm.rows r hr
  exact ⟨old this.gl, old this.hb, this.ln, this.bn⟩
end Go.Proofs.Ytbclbcldplmppaa
