/- Arguments of the laws, opened: a mesh; a number of 16 bits. -/
import Derived.Maps.AppendAt
import Derived.Test.YtbclbcldplmppaaMx01
namespace Go.Proofs.Ytbclbcldplmppaa
open Go.ChangeShapes Go.WideShapes Go.ChangeAt Go.RowKit Go.Deep

section
variable {H : Type} {enc : TypeId × Value → H} {w : World} {base : Nat} {held : Bool}
theorem open_fields {P : Program} {r : Reach} {b0 : Nat} {spare : Nat → Bool} {t : TypeId} {fs : Array Field} {v : Value} {d : DataW H} {p : List MemPlace} (hs : P.underlying t = some (.struct fs)) (hone : oneCellFields P fs = true) (hC : P.cellsOf t = fs.size)
    (hv : Value.okWide P w r b0 t v) (h : DataW.Trod enc P w base spare held t v d p) :
    ∃ (cs : Array Value) (n : Nat), v = .agg cs ∧ cs.size = fs.size ∧ ∀ (j : Nat) (f : Field), fs[j]? = some f → ∃ (u : Value) (y : DataW H × List MemPlace), cs[j]? = some u ∧ DataW.trod enc P w base spare held n f.type [u] = some y := by
  obtain ⟨cs, rfl, hsz⟩ := okWide_struct hs hv
  obtain ⟨fuel, hf⟩ := h
  obtain ⟨ys, n, _, _, hlen, hyl, hfl⟩ := DataW.trod_struct hs hf
  have hsz' : cs.size = fs.size := hsz.trans hC
  refine ⟨cs, n, rfl, hsz', fun j f hj => ?_⟩
  obtain ⟨ho, hk⟩ := hone_of hone j f hj
  have hjl : j < fs.size := (Array.getElem?_eq_some_iff.1 hj).1
  have h1 := hfl j f hj
  rw [ho, hk] at h1
  have hcl : (Value.cells (.agg cs)).toList = cs.toList := rfl
  rw [hcl] at h1
  have hone' : (cs.toList.drop j).take 1 = [cs[j]'(by omega)] := by
    rw [List.drop_eq_getElem_cons (by simp; omega)]
    simp
  rw [hone'] at h1
  have hys : ys[j]? = some (ys[j]'(by omega)) := List.getElem?_eq_getElem (by omega)
  exact ⟨_, _, Array.getElem?_eq_getElem (by omega), h1.trans hys⟩
theorem array6 {α : Type} {cs : Array α} (h : cs.size = 6) : ∃ c0 c1 c2 c3 c4 c5, cs = #[c0, c1, c2, c3, c4, c5] := by
  obtain ⟨l⟩ := cs
  match l, h with
  | [c0, c1, c2, c3, c4, c5], _ => exact ⟨c0, c1, c2, c3, c4, c5, rfl⟩
set_option maxRecDepth 100000 in
theorem arg_mesh {r : Reach} {b0 : Nat} {v : Value} {d : DataW H} {p : List MemPlace} (hv : Value.okWide Try.prog w r b0 57 v) (h : DataW.Trod enc Try.prog w base (fun _ => true) held 57 v d p) :
    ∃ x : Msh, v = x.val ∧ True := by
  obtain ⟨cs, n, rfl, hsz, hf⟩ := open_fields Try.underlying57 (by kernel_rfl) (by kernel_rfl) hv h
  obtain ⟨c0, c1, c2, c3, c4, c5, rfl⟩ := array6 hsz
  obtain ⟨v0, y0, e0, h0⟩ := hf 0 _ rfl
  obtain ⟨v1, y1, e1, h1⟩ := hf 1 _ rfl
  obtain ⟨v2, y2, e2, h2⟩ := hf 2 _ rfl
  obtain ⟨v3, y3, e3, h3⟩ := hf 3 _ rfl
  obtain ⟨v4, y4, e4, h4⟩ := hf 4 _ rfl
  obtain ⟨v5, y5, e5, h5⟩ := hf 5 _ rfl
  obtain ⟨x0, rfl⟩ := u8_of h0
  obtain ⟨x1, rfl, _⟩ := int_of h1
  obtain ⟨x2, rfl, _⟩ := int_of h2
  obtain ⟨x3, rfl, _⟩ := int_of h3
  obtain ⟨x4, rfl, _⟩ := int_of h4
  obtain ⟨x5, rfl, _⟩ := int_of h5
  obtain rfl : c0 = .int .u8 x0 := by injection e0
  obtain rfl : c1 = .int .i64 x1 := by injection e1
  obtain rfl : c2 = .int .i64 x2 := by injection e2
  obtain rfl : c3 = .int .i64 x3 := by injection e3
  obtain rfl : c4 = .int .i64 x4 := by injection e4
  obtain rfl : c5 = .int .i64 x5 := by injection e5
  exact ⟨⟨x0, x1, x2, x3, x4, x5⟩, rfl, trivial⟩
end
end Go.Proofs.Ytbclbcldplmppaa

/- Arguments of the laws, opened: a number of 16 bits. -/
namespace Go.Proofs.Ytbclbcldplmppaa
open Go.ChangeShapes Go.WideShapes Go.ChangeAt Go.RowKit Go.Deep

section
variable {H : Type} {enc : TypeId × Value → H} {w : World} {base : Nat} {held : Bool}
set_option maxRecDepth 100000 in
theorem arg_u16 {v : Value} {d : DataW H} {p : List MemPlace} {r : Reach} {b0 : Nat} (hv : Value.okWide Try.prog w r b0 80 v) (h : DataW.Trod enc Try.prog w base (fun _ => true) held 80 v d p) : ∃ t, v = .int .u16 t ∧ (0 ≤ t ∧ t ≤ 65535) := by
  obtain ⟨t, e, _, _, hw⟩ := open_int Try.underlying80 hv h
  refine ⟨t, e, ?_⟩
  have := hw
  simp [Lit.wf, IntKind.min, IntKind.max, IntKind.signed, IntKind.bits] at this
  omega
end
end Go.Proofs.Ytbclbcldplmppaa

/- The clutches that slip: they are the first. Plain Lean. -/
namespace Go.Proofs.Ytbclbcldplmppaa

/-- Whether a list is earlier than another one, by the first numbers that differ. -/
def lexB : List Nat → List Nat → Bool
  | a :: u, b :: v => if a = b then lexB u v else decide (a < b)
  | _, _ => false
section
variable {J : List Nat → Bool}
theorem chooseL_all : ∀ (l : List Nat) (n : Nat) (set : List Nat), chooseL J l n set = none → ∀ o : List Nat, o.Sublist l → o.length = n → J (set ++ o) = true
  | l, 0, set, h, o, _, hl => by
    have : o = [] := List.eq_nil_of_length_eq_zero hl
    subst this
    rw [chooseL_zero] at h
    rw [List.append_nil]
    split at h
    · assumption
    · cases h
  | [], n + 1, set, _, o, hs, hl => by
    have : o = [] := List.sublist_nil.1 hs
    subst this
    simp at hl
  | c :: cs, n + 1, set, h, o, hs, hl => by
    cases h1 : chooseL J cs n (set ++ [c]) with
    | some r => rw [chooseL_some h1] at h; cases h
    | none =>
      rw [chooseL_none h1] at h
      rcases List.sublist_cons_iff.1 hs with hs2 | ⟨o', rfl, hs2⟩
      · exact chooseL_all cs (n + 1) set h o hs2 hl
      · have := chooseL_all cs n (set ++ [c]) h1 o' hs2 (by simpa using hl)
        simpa using this
theorem chooseL_first : ∀ (l : List Nat) (n : Nat) (set r : List Nat), l.Pairwise (· < ·) → chooseL J l n set = some r → ∃ t, r = set ++ t ∧ t.Sublist l ∧ t.length = n ∧ ∀ o : List Nat, o.Sublist l → o.length = n → lexB o t = true → J (set ++ o) = true
  | l, 0, set, r, _, h => by
    rw [chooseL_zero] at h
    split at h
    · cases h
    · injection h with h
      refine ⟨[], by simp [h], List.nil_sublist _, rfl, fun o _ hl hx => ?_⟩
      have : o = [] := List.eq_nil_of_length_eq_zero hl
      subst this
      simp [lexB] at hx
  | [], n + 1, set, r, _, h => by cases h
  | c :: cs, n + 1, set, r, hp, h => by
    rw [List.pairwise_cons] at hp
    cases h1 : chooseL J cs n (set ++ [c]) with
    | some r' =>
      rw [chooseL_some h1] at h
      injection h with h
      subst h
      obtain ⟨t, rfl, ht, htl, hf⟩ := chooseL_first cs n (set ++ [c]) _ hp.2 h1
      refine ⟨c :: t, by simp, ht.cons_cons c, by simp [htl], fun o hs hl hx => ?_⟩
      rcases List.sublist_cons_iff.1 hs with hs2 | ⟨o', rfl, hs2⟩
      · cases o with
        | nil => simp at hl
        | cons a u =>
          have ha : c < a := hp.1 a (hs2.subset (by simp))
          unfold lexB at hx
          rw [if_neg (by omega)] at hx
          have := of_decide_eq_true hx
          omega
      · unfold lexB at hx
        rw [if_pos rfl] at hx
        have := hf o' hs2 (by simpa using hl) hx
        simpa using this
    | none =>
      rw [chooseL_none h1] at h
      obtain ⟨t, rfl, ht, htl, hf⟩ := chooseL_first cs (n + 1) set _ hp.2 h
      refine ⟨t, rfl, ht.cons c, htl, fun o hs hl hx => ?_⟩
      rcases List.sublist_cons_iff.1 hs with hs2 | ⟨o', rfl, hs2⟩
      · exact hf o hs2 hl hx
      · have := chooseL_all cs n (set ++ [c]) h1 o' hs2 (by simpa using hl)
        simpa using this
end
theorem clF_pairwise (ms : List Msh) : (clF ms 0).Pairwise (· < ·) := by
  unfold clF
  exact List.Pairwise.filter _ (List.pairwise_lt_range' ..)
theorem slip_first {ms : List Msh} {S i : Nat} {r : List Nat} (h : slipO ms S i = some r) : jamO ms S i r = false ∧ r.Sublist (clF ms 0) ∧ ∀ o : List Nat, o.Sublist (clF ms 0) → (o.length < r.length ∨ o.length = r.length ∧ lexB o r = true) → jamO ms S i o = true := by
  obtain ⟨l1, n, l2, hl, hn, hno⟩ := List.findSome?_eq_some_iff.1 h
  obtain ⟨t, e, ht, htl, hf⟩ := chooseL_first (clF ms 0) n [] r (clF_pairwise ms) hn
  rw [List.nil_append] at e
  subst e
  have hl1 : l1 = List.range n := by
    have h1 : (List.range (ms.length + 1))[l1.length]? = some n := by rw [hl]; simp
    have h2 : l1.length = n := by
      obtain ⟨hlt, e⟩ := List.getElem?_eq_some_iff.1 h1
      simpa using e
    have h3 : l1 = (List.range (ms.length + 1)).take l1.length := by rw [hl, List.take_left]
    rw [h2] at h3
    have h4 : n ≤ ms.length + 1 := by
      have := congrArg List.length hl
      simp at this
      omega
    rw [h3, List.take_range]
    congr 1
    omega
  refine ⟨(chooseL_mem _ _ _ _ hn).2.2, ht, fun o ho hlt => ?_⟩
  rcases hlt with h1 | ⟨h1, h2⟩
  · have := chooseL_all (clF ms 0) o.length [] (hno o.length (by rw [hl1]; simp; omega)) o ho rfl
    simpa using this
  · have := hf o ho (by omega) h2
    simpa using this
theorem slip_none {ms : List Msh} {S i : Nat} (h : slipO ms S i = none) (o : List Nat) (ho : o.Sublist (clF ms 0)) : jamO ms S i o = true := by
  have hlen : o.length ≤ ms.length := by
    have h1 := ho.length_le
    have h2 : (clF ms 0).length ≤ ms.length := by
      unfold clF
      exact Nat.le_trans (List.length_filter_le _ _) (by simp)
    omega
  have hn := List.findSome?_eq_none_iff.1 h o.length (by simp; omega)
  have := chooseL_all (clF ms 0) o.length [] hn o ho rfl
  simpa using this
end Go.Proofs.Ytbclbcldplmppaa

/- GearSlips: the law's closure. -/
namespace Go.Proofs.Ytbclbcldplmppaa
open Go.RowKit

theorem verd_self {S i : Nat} {ms : List Msh} (ht : trainP S ms) (hi : i < S) : verdE S ms i i = if jamB ms.length S (gearL ms S) i = true then 41 else 0 := by
  obtain ⟨hz, hv⟩ := verdE_nat ht hi hi
  obtain ⟨num, den, F, M, T, h⟩ := ok_exists ht hi hi
  have h42 := (RF.same (num := num) (den := den) ⟨F, M, T, h⟩).2
  rw [hv] at h42 ⊢
  unfold verdS at h42 ⊢
  split
  · rfl
  · rename_i hj
    rw [if_neg hj] at h42
    split
    · rename_i hl
      rw [if_pos hl] at h42
      omega
    · rfl
theorem natI_get {l : List Nat} {k : Nat} (h : k < l.length) : getI (natI l) k = (l[k] : Int) := by simp [natI, getI, h]
theorem clutchP_sub {ms : List Msh} {o : List Nat} (ho : o.Sublist (clF ms 0)) : clutchP (natI o) ms := fun k hk => by
  rw [natI_len] at hk
  have hm : o[k] ∈ clF ms 0 := ho.subset (List.getElem_mem hk)
  have hlt := clF_lt hm
  have hcl : isCl ms o[k] = true := (List.mem_filter.1 hm).2
  rw [isCl_at hlt] at hcl
  refine ⟨?_, fun h0 => ?_, ?_⟩
  · rw [natI_get hk]; omega
  · rw [natI_get hk, natI_get (by omega)]
    have hp := (clF_pairwise ms).sublist ho
    have := (List.pairwise_iff_getElem.1 hp) (k - 1) k (by omega) hk (by omega)
    omega
  · rw [natI_get hk, kindI_eq hlt]
    simpa using hcl
theorem op_sub {s : Int} {ms : List Msh} {o : List Nat} (ht : trainB s ms = true) (ho : o.Sublist (clF ms 0)) : opE s ms (natI o) = 0 ∧ opS s ms (natI o) = s ∧ opL s ms (natI o) = offL ms o := by
  have hc : clutchB (natI o) ms = true := decide_eq_true (clutchP_sub ho)
  have hk : opOk s ms (natI o) = true := by unfold opOk; rw [ht, hc]; rfl
  refine ⟨?_, ?_, ?_⟩
  · unfold opE; rw [if_pos ht, if_pos hc]
  · unfold opS; rw [if_pos hk]
  · unfold opL; rw [if_pos hk]; rfl

set_option maxRecDepth 100000 in
set_option maxHeartbeats 4000000 in
theorem jams_any (A : Option Addr) (c S i : Nat) (ms : List Msh) (B : Option Addr) (d : Nat) (o : List Nat) (w : World) (hA : MRow w A ms) (hl : ms.length ≤ 1000) (ht : trainP S ms) (hi : i < S) (ho : o.Sublist (clF ms 0)) (hB : Ints w B (natI o)) {bt bi : Nat}
    (c0 : w.cell? ⟨bt, 0, none⟩ = some (.int .i64 S)) (c1 : w.cell? ⟨bt, 1, none⟩ = some (.slice A ms.length c)) (c2 : w.cell? ⟨bi, 0, none⟩ = some (.int .i64 i)) :
    Calls Try.prog 47 #[.slice B o.length d, .pointer (some ⟨bt, 0, none⟩), .pointer (some ⟨bi, 0, none⟩)] w fun e w' => e = .returned (.bool (jamO ms S i o)) ∧ Ext w w' := by
  have hol : o.length ≤ 1000 := by
    have h1 := ho.length_le
    have h2 := clF_len ms 0
    omega
  have hop := open_train A c S ms B d (natI o) w hA hB hl (by rw [natI_len]; omega)
  obtain ⟨e1, e2, e3⟩ := op_sub (s := S) (decide_eq_true ht) ho
  rw [e1, e2, e3, natI_len] at hop
  have hof := offL_train ht o
  have hofl : (offL ms o).length ≤ 1000 := Nat.le_trans (keepL_le _ _ _) hl
  have hrat := fun (A' : Option Addr) (c' : Nat) (w' : World) (h : MRow w' A' (offL ms o)) => ratio_rf A' c' S i i (offL ms o) w' h (by omega)
  have hv : verdE S (offL ms o) i i = if jamO ms S i o = true then 41 else 0 := verd_self hof hi
  simp only [hv] at hrat
  have Hop := Lib.hid hop
  have Hrat := Lib.hid hrat
  have C0 := Ext.cells c0
  have C1 := Ext.cells c1
  have C2 := Ext.cells c2
  clear hop hrat hv hA hB ho hof e1 e2 e3 ht
  generalize o.length = k at *
  generalize ms.length = m at *
  cases hj : jamO ms S i o
  all_goals
    rw [hj] at Hrat
    simp only [if_true, Bool.false_eq_true, if_false] at Hrat
    go_enter Try.func47, Try.ntmps47
    (repeat (first | go_values | go_skip | go_guarded | go_step | go_upon))
    go_at_call 28
    refine Hop.out.mono ?_
    rintro e w2 ⟨v, rfl, hown⟩
    simp only []
    obtain ⟨A2, c2', rfl⟩ := hown.form
    have hx2 := hown.ext
    have hm2 := hown.mrow
    obtain ⟨num, den, _, cr⟩ := Hrat.out A2 c2' w2 hm2
    have Cr := Lib.hid cr
    have D2 : ∀ w', Ext w2 w' → _ := fun w' he => C2 w' (hx2.trans he)
    clear cr hown hm2
    generalize (offL ms o).length = k2 at *
    (repeat (first | go_values | go_skip | go_guarded | go_step | go_upon))
    go_at_call 34
    refine (Cr.out _ ((Ext.refl _).alloc _)).mono ?_
    rintro e w3 ⟨B1, B2, B3, r1, d1, r2, d2, r3, d3, rfl, hx3⟩
    simp only []
    (repeat (first | go_values | go_skip | go_guarded | go_step | go_upon))
    go_ret
    exact ⟨rfl, (hx2.trans (((Ext.refl _).alloc _).trans hx3)).alloc _⟩
end Go.Proofs.Ytbclbcldplmppaa

/- One mesh more: the list that the law makes. -/
namespace Go.Proofs.Ytbclbcldplmppaa
open Go.RowKit

def keptO (x : Msh) : List Obj := [.cells #[] 57, .cells x.cells.toArray 57, .cells #[.int .i64 0, .slice none 0 0] 41]
/-- A growth under which the lists so far stay. -/
structure GrM (b : Nat) (xs : List Msh) (x : Msh) (w w' : World) : Prop where
  low : Below b w w'
  kept : ∀ (k : Nat) (o : Obj), o ∈ keptO x → w.heap[k]? = some o → w'.heap[k]? = some o
  own : ∀ (v : Value) (n : Nat) (ys : List Value), (n = xs.length ∧ ys = cellsL xs ∨ n = xs.length + 1 ∧ ys = cellsL (xs ++ [x])) → w.ownsRow b 57 6 v n ys → w'.ownsRow b 57 6 v n ys
def grmPre (b : Nat) (xs : List Msh) (x : Msh) : Cf.Pre where
  R := GrM b xs x
  refl _ := ⟨Below.refl _ _, fun _ _ _ h => h, fun _ _ _ _ h => h⟩
  trans h k := ⟨Below.trans h.low k.low, fun i o ho hh => k.kept i o ho (h.kept i o ho hh), fun v n ys hn ho => k.own v n ys hn (h.own v n ys hn ho)⟩
  drawn h _ := ⟨⟨h.low.os, h.low.tape, h.low.output, h.low.size, h.low.block⟩, fun i o ho hh => h.kept i o ho hh, fun v m ys hn ho => h.own v m ys hn ho⟩
  size h := h.low.size
theorem GrM.of_ext {b : Nat} {xs : List Msh} {x : Msh} {w w' : World} (h : Ext w w') (hb : b ≤ w.heap.size) : GrM b xs x w w' :=
  ⟨Below.mono h hb, fun _ _ _ hh => h.heap hh, fun _ _ _ _ ho => h.owns ho⟩
theorem GrM.ext {xs : List Msh} {x : Msh} {w w' : World} (h : GrM w.heap.size xs x w w') : Ext w w' := h.low

set_option maxRecDepth 100000 in
theorem app_one {w : World} {b : Nat} {v : Value} {xs : List Msh} {x : Msh} {bs c : Nat} (ty : TypeId) (hown : w.ownsRow b 57 6 v xs.length (cellsL xs)) (h0 : xs.length = 0 → ∃ g, v = .slice (some ⟨g, 0, none⟩) 0 0)
    (hx : w.heap[bs]? = some (.cells x.cells.toArray 57)) (hn : xs.length ≤ 1000) (hb : b ≤ w.heap.size) :
    ∃ v' w', (Builtin.append_ #[39, 39] ty #[v, .slice (some ⟨bs, 0, none⟩) 1 c]).run Try.prog w = .ok v' w' ∧ w'.ownsRow b 57 6 v' (xs.length + 1) (cellsL (xs ++ [x])) ∧ GrM b xs x w w' := by
  obtain ⟨i, hi, hz0, hz1, hz2⟩ := mesh_elem.info
  have hc6 : x.cells.length = 6 := by simp [Msh.cells]
  have happ : cellsL (xs ++ [x]) = cellsL xs ++ x.cells := by simp [cellsL]
  have hnews : ∀ j u, x.cells[j]? = some u → w.cell? ((⟨bs, 0, none⟩ : Addr).add j) = some u := fun j u hj => by
    rw [add_zero', cell_heap hx, List.getElem?_toArray]
    exact hj
  have hone : ∀ u ∈ x.cells, u.oneCell' = true := fun u hu => by
    simp [Msh.cells] at hu
    rcases hu with rfl | rfl | rfl | rfl | rfl | rfl <;> rfl
  have h63 : xs.length + 1 ≤ maxLen := by unfold maxLen; omega
  obtain ⟨v', w', hr, o1, o2, _, o4⟩ := run_append_own_at (P := Try.prog) w b 39 ty 57 i _ 6 _ Try.underlying39 hi hz0 hz1 hz2 mesh_elem.zs mesh_elem.pos v xs.length (cellsL xs) hown ⟨bs, 0, none⟩ 1 c x.cells (by rw [hc6]) hnews hone h63 (by omega) hb
  rw [← happ] at o1
  refine ⟨v', w', hr, o1, ?_⟩
  rcases hown.2 with ⟨rfl, hz⟩ | ⟨g, cap, cur, rfl, hbg, hg, hnc, hcm, hcs, htake⟩
  · obtain ⟨g, e⟩ := h0 hz
    cases e
  · have hglt : g < w.heap.size := (Array.getElem?_eq_some_iff.1 hg).1
    by_cases hroom : xs.length + 1 ≤ cap
    · have hn1 : 1 ≤ xs.length := by
        refine Nat.one_le_iff_ne_zero.2 fun e => ?_
        obtain ⟨g', e'⟩ := h0 e
        simp only [Value.slice.injEq] at e'
        omega
      have hr2 := run_append_room (P := Try.prog) w 39 ty 57 i Try.underlying39 hi g xs.length cap cur hg ⟨bs, 0, none⟩ 1 c x.cells (by rw [hz1, hc6]) hnews hone hroom (by rw [hz1, hcs, hc6]; omega)
      rw [hr] at hr2
      injection hr2 with e1 e2
      have hnew : w'.heap[g]? = some (.cells (cur.toList.take (xs.length * 6) ++ x.cells ++ cur.toList.drop (xs.length * 6 + 6)).toArray 57) := by
        rw [e2, hz1, hc6]
        exact setRow_heap w g cur _ _ _ hg
      have hoth : ∀ k, k < w.heap.size → k ≠ g → w'.heap[k]? = w.heap[k]? := fun k hk hne => o2.block k hk fun e => hne (Option.some.inj e)
      refine ⟨⟨o2.os, o2.tape, o2.output, o2.size, fun k hk => hoth k (by omega) (by omega)⟩, fun k o ho hh => ?_, fun v2 n2 ys hny ho => ?_⟩
      · by_cases e : k = g
        · subst e
          rw [hg] at hh
          injection hh with hh
          simp only [keptO, List.mem_cons, List.not_mem_nil, or_false] at ho
          rcases ho with rfl | rfl | rfl
          · injection hh with h1 _
            rw [h1] at hcs
            simp at hcs
            omega
          · injection hh with h1 _
            rw [h1] at hcs
            simp [hc6] at hcs
            omega
          · injection hh with _ h1
            exact absurd h1 (by decide)
        · rw [hoth k (Array.getElem?_eq_some_iff.1 hh).1 e]; exact hh
      · refine ⟨ho.1, ?_⟩
        rcases ho.2 with h | ⟨g2, cap2, cur2, rfl, hbg2, hg2, hnc2, hcm2, hcs2, htake2⟩
        · exact .inl h
        · refine .inr ?_
          by_cases e : g2 = g
          · subst e
            rw [hg] at hg2
            injection hg2 with hg2
            injection hg2 with h1 _
            subst h1
            refine ⟨g2, cap2, _, rfl, hbg2, hnew, hnc2, hcm2, ?_, ?_⟩
            · simp only [List.size_toArray, List.length_append, List.length_take, List.length_drop, Array.length_toList, hc6]
              omega
            · have hl0 : (cur.toList.take (xs.length * 6)).length = xs.length * 6 := by simp; omega
              rcases hny with ⟨rfl, rfl⟩ | ⟨rfl, rfl⟩
              · rw [htake, List.append_assoc]
                have hlx : (cellsL xs).length = xs.length * 6 := cellsL_len xs
                rw [← hlx]
                exact List.take_left
              · rw [htake, happ]
                have hlx : (cellsL xs ++ x.cells).length = (xs.length + 1) * 6 := by rw [List.length_append, cellsL_len, hc6]; omega
                rw [← hlx]
                exact List.take_left
          · exact ⟨g2, cap2, cur2, rfl, hbg2, (hoth g2 (Array.getElem?_eq_some_iff.1 hg2).1 e).trans hg2, hnc2, hcm2, hcs2, htake2⟩
    · have holds : ∀ j u, (cellsL xs)[j]? = some u → w.cell? ((⟨g, 0, none⟩ : Addr).add j) = some u := hown.cells (g := g) rfl
      have hr2 := run_append_grow (P := Try.prog) w 39 ty 57 i _ Try.underlying39 hi hz0 ⟨g, 0, none⟩ xs.length cap (cellsL xs) (by rw [hz1]; exact hown.1) holds ⟨bs, 0, none⟩ 1 c x.cells (by rw [hz1, hc6]) hnews (by omega) (by omega) (by rw [hz2]; exact growslice_fits (by omega) (by omega))
      rw [hr] at hr2
      injection hr2 with e1 e2
      subst e2
      exact GrM.of_ext (by simp) hb
/-- The first append: a list, copied. -/
theorem app_copy {w : World} {base b c : Nat} {B : Option Addr} {ms : List Msh} (ty : TypeId) (hb : w.heap[b]? = some (.cells #[] 57)) (hbb : base ≤ b) (hB : MRow w B ms) (hl : ms.length ≤ 1000) :
    ∃ v' w', (Builtin.append_ #[39, 39] ty #[.slice (some ⟨b, 0, none⟩) 0 0, .slice B ms.length c]).run Try.prog w = .ok v' w' ∧ Ext w w' ∧ w'.ownsRow base 57 6 v' ms.length (cellsL ms) ∧ (ms.length = 0 → ∃ g, v' = .slice (some ⟨g, 0, none⟩) 0 0) := by
  have hblt : b < w.heap.size := (Array.getElem?_eq_some_iff.1 hb).1
  have hown0 : w.ownsRow base 57 6 (.slice (some ⟨b, 0, none⟩) 0 0) 0 [] := ⟨by simp, .inr ⟨b, 0, #[], rfl, hbb, hb, by omega, by unfold maxLen; omega, by simp, by simp⟩⟩
  by_cases h0 : ms.length = 0
  · have hms : ms = [] := List.eq_nil_of_length_eq_zero h0
    subst hms
    obtain ⟨i, hi, hz0, hz1, hz2⟩ := mesh_elem.info
    have hs : Src Try.prog i.size 39 (.slice B 0 c) 0 [] w := by
      cases B with
      | none => exact Src.ofNil w Try.underlying39 c
      | some a => exact Src.ofSlice w Try.underlying39 a _ c _ (by simp) (fun j u hu => by simp at hu) (fun u hu => by simp at hu)
    exact ⟨_, w, run_append_nothing w 39 39 ty 57 i Try.underlying39 hi _ 0 0 (Nat.le_refl _) _ hs, Ext.refl _, hown0, fun _ => ⟨b, rfl⟩⟩
  · obtain ⟨i, hi, hz0, hz1, hz2⟩ := mesh_elem.info
    have hlen := cellsL_len ms
    obtain ⟨ad, rfl, _⟩ := hB 0 (by show 0 < (cellsL ms).length; omega)
    have hnews : ∀ j u, (cellsL ms)[j]? = some u → w.cell? (ad.add j) = some u := fun j u hu => by
      obtain ⟨ad', e, hc⟩ := hB j (List.getElem?_eq_some_iff.1 hu).1
      cases Option.some.inj e
      exact hc.trans hu
    have hone : ∀ u ∈ cellsL ms, u.oneCell' = true := fun u hu => by
      obtain ⟨r, hr, hur⟩ := List.mem_flatten.1 hu
      obtain ⟨x, _, rfl⟩ := List.mem_map.1 hr
      simp [Msh.cells] at hur
      rcases hur with rfl | rfl | rfl | rfl | rfl | rfl <;> rfl
    obtain ⟨v', w', hr, o1, o2, _, o4⟩ := run_append_own_at (P := Try.prog) w base 39 ty 57 i _ 6 _ Try.underlying39 hi hz0 hz1 hz2 mesh_elem.zs mesh_elem.pos _ 0 [] hown0 ad ms.length c (cellsL ms) hlen hnews hone (by unfold maxLen; omega) (by omega) (by omega)
    rw [Nat.zero_add, List.nil_append] at o1
    have holds : ∀ j u, ([] : List Value)[j]? = some u → w.cell? ((⟨b, 0, none⟩ : Addr).add j) = some u := fun j u hu => by simp at hu
    have hr2 := run_append_grow (P := Try.prog) w 39 ty 57 i _ Try.underlying39 hi hz0 ⟨b, 0, none⟩ 0 0 [] (by simp) holds ad ms.length c (cellsL ms) (by rw [hz1]; exact hlen) hnews (by omega) (by omega) (by rw [hz2]; exact growslice_fits (by omega) (by omega))
    rw [hr] at hr2
    injection hr2 with e1 e2
    subst e2
    exact ⟨v', _, hr, by simp, o1, fun h => absurd h h0⟩
end Go.Proofs.Ytbclbcldplmppaa

/- GearSlips: two lists. -/
namespace Go.Proofs.Ytbclbcldplmppaa
open Go.RowKit

/-- Two lists of the call's own. -/
structure Two (w0 w : World) (v1 v2 : Value) (l1 l2 : List Nat) : Prop where
  o1 : Own w0 w 3 1 v1 l1.length ((natI l1).map vint)
  o2 : Own w0 w 3 1 v2 l2.length ((natI l2).map vint)
  ne : ∀ g, v1.ownBlock = some g → v2.ownBlock ≠ some g
theorem Two.later {w0 w w' : World} {v1 v2 : Value} {l1 l2 : List Nat} (h : Two w0 w v1 v2 l1 l2) (he : Ext w w') : Two w0 w' v1 v2 l1 l2 := ⟨h.o1.later he, h.o2.later he, h.ne⟩
theorem Two.swap {w0 w : World} {v1 v2 : Value} {l1 l2 : List Nat} (h : Two w0 w v1 v2 l1 l2) : Two w0 w v2 v1 l2 l1 := ⟨h.o2, h.o1, fun g h2 h1 => h.ne g h1 h2⟩
theorem Two.app1 {w0 w : World} {v1 v2 : Value} {l1 l2 : List Nat} (h : Two w0 w v1 v2 l1 l2) (y : Nat) (ty : TypeId) (hn : l1.length ≤ 1000) :
    ∃ v' w', (Builtin.append_ #[22, 22] ty #[v1, .slice (some ⟨w.heap.size, 0, none⟩) 1 1]).run Try.prog (w.alloc (.cells #[.int .i64 y] 3)) = .ok v' w' ∧ Two w0 w' v' v2 (l1 ++ [y]) l2 := by
  obtain ⟨i, hi, hz0, hz1, hz2⟩ := int_elem.info
  have a1 := h.o1.alloc (.cells #[.int .i64 y] 3)
  have a2 := h.o2.alloc (.cells #[.int .i64 y] 3)
  have hnews : ∀ j u, [Value.int .i64 (y : Int)][j]? = some u → (w.alloc (.cells #[.int .i64 y] 3)).cell? ((⟨w.heap.size, 0, none⟩ : Addr).add j) = some u := fun j u hj => by
    rw [add_zero', cell_heap (heap_alloc_new w _)]
    simpa using hj
  obtain ⟨v', w', hr, b1, b2, _, b4⟩ := run_append_own_at (P := Try.prog) (w.alloc (.cells #[.int .i64 y] 3)) w0.heap.size 22 ty 3 i _ 1 _ Try.underlying22 hi hz0 hz1 hz2 int_elem.zs int_elem.pos v1 l1.length _ a1.2 ⟨w.heap.size, 0, none⟩ 1 1 [.int .i64 (y : Int)] rfl hnews (fun u hu => by simp at hu; subst hu; rfl) (by unfold maxLen; omega) (by omega) a1.1.le
  have hx : Ext w0 w' := a1.1.grown b2 fun k hk => (a1.2.lt k hk).1
  refine ⟨v', w', hr, ⟨hx, ?_⟩, ⟨hx, a2.2.kept b2 ?_⟩, fun g hg => ?_⟩
  · have e1 : (l1 ++ [y]).length = l1.length + 1 := by simp
    have e2 : (natI (l1 ++ [y])).map vint = (natI l1).map vint ++ [.int .i64 (y : Int)] := by simp [natI]
    rw [e1, e2]
    exact b1
  · cases hb : v1.ownBlock with
    | none => exact Classical.em _
    | some g => exact .inr (h.ne g hb)
  · rcases b4 with e | e
    · rw [e] at hg
      exact h.ne g hg
    · rw [e] at hg
      intro hg2
      have := (h.o2.2.lt g hg2).2
      have := Option.some.inj hg
      have e3 : (w.alloc (.cells #[.int .i64 y] 3)).heap.size = w.heap.size + 1 := by simp
      omega
theorem Two.start (w : World) : Two w w (.slice none 0 0) (.slice none 0 0) [] [] := ⟨Own.nil _ _ _, Own.nil _ _ _, fun g h => by simp [Value.ownBlock] at h⟩
end Go.Proofs.Ytbclbcldplmppaa

/- GearSlips: the law's own walk. -/
namespace Go.Proofs.Ytbclbcldplmppaa
open Go.RowKit

theorem lexB_at : ∀ (o l : List Nat) (k : Nat) (h1 : k < o.length) (h2 : k < l.length), (∀ j, j < k → o[j]? = l[j]?) → ¬ o[k] = l[k] → lexB o l = decide (o[k] < l[k])
  | [], _, _, h1, _, _, _ => absurd h1 (by simp)
  | _ :: _, [], _, _, h2, _, _ => absurd h2 (by simp)
  | a :: u, b :: v, 0, _, _, _, hn => by
    unfold lexB
    simp only [List.getElem_cons_zero] at hn ⊢
    rw [if_neg hn]
  | a :: u, b :: v, k + 1, h1, h2, hj, hn => by
    have h0 : a = b := by simpa using hj 0 (by omega)
    unfold lexB
    rw [if_pos h0]
    simp only [List.getElem_cons_succ] at hn ⊢
    exact lexB_at u v k (by simpa using h1) (by simpa using h2) (fun j h => by simpa using hj (j + 1) (by omega)) hn
theorem lexB_same {o l : List Nat} (h : o.length = l.length) (hj : ∀ j, j < l.length → o[j]? = l[j]?) : o = l := by
  apply List.ext_getElem? 
  intro j
  by_cases hl : j < l.length
  · exact hj j hl
  · rw [List.getElem?_eq_none (by omega), List.getElem?_eq_none (by omega)]

set_option maxRecDepth 100000 in
set_option maxHeartbeats 8000000 in
theorem slips_law (A : Option Addr) (c : Nat) (s : Int) (ms : List Msh) (i : Int) (bits : Int) (w : World) (hA : MRow w A ms) :
    Calls Try.prog 11 #[.agg #[.int .i64 s, .slice A ms.length c], .int .i64 i, .int .u16 bits] w fun e w' => e = .returned (.bool true) ∧ Ext w w' := by
  have hg := fun (w' : World) => great_any A c ms.length s w'
  by_cases g1 : 30 < ms.length
  · have e1 : decide ((30 : Int) < (ms.length : Int)) = true := by simp; omega
    rw [e1] at hg
    have Hg := Lib.hid hg
    clear hg hA e1
    generalize ms.length = m at *
    go_enter Try.func11, Try.ntmps11
    have t0 : ∀ w', Ext ((w.alloc (.cells #[.int .i64 s, .slice A m c] 41)).alloc (.cells #[.int .i64 i] 3)) w' → w'.cell? ⟨w.heap.size, 0, none⟩ = some (.int .i64 s) := fun w' he => cells_one rfl w' (Ext.trans ((Ext.refl _).alloc _) he)
    have t1 : ∀ w', Ext ((w.alloc (.cells #[.int .i64 s, .slice A m c] 41)).alloc (.cells #[.int .i64 i] 3)) w' → w'.cell? ⟨w.heap.size, 1, none⟩ = some (.slice A m c) := fun w' he => cells_one rfl w' (Ext.trans ((Ext.refl _).alloc _) he)
    have i0 : ∀ w', Ext ((w.alloc (.cells #[.int .i64 s, .slice A m c] 41)).alloc (.cells #[.int .i64 i] 3)) w' → w'.cell? ⟨w.heap.size + 1, 0, none⟩ = some (.int .i64 i) := fun w' he => he.cell (cells_last (by simp) rfl)
    have hxb : Ext w ((w.alloc (.cells #[.int .i64 s, .slice A m c] 41)).alloc (.cells #[.int .i64 i] 3)) := ((Ext.refl w).alloc _).alloc _
    (repeat (first
      | (go_at_call 43; refine (alive_any _).mono ?_; rintro e w1 ⟨rfl, hx1⟩; have b1 := hx1; simp only [])
      | (go_at_call 21; refine (Hg.out _).mono ?_; rintro e w2 ⟨rfl, hx2⟩; have b2 := b1.trans hx2; simp only [])
      | go_values | go_skip | go_guarded | go_step | go_upon))
    go_ret
    exact ⟨rfl, hxb.trans b2⟩
  have e1 : decide ((30 : Int) < (ms.length : Int)) = false := by simp; omega
  rw [e1] at hg
  have Hg := Lib.hid hg
  clear hg e1
  have hl : ms.length ≤ 30 := by omega
  have hs := fun (w' : World) (he : Ext w w') => slips_any A c s ms i w' (hA.ext he) (by omega)
  by_cases hz : askE s ms [i] = 0
  rotate_left
  · have hL : slipL s ms i = [] := by unfold slipL; rw [if_neg hz]
    have hX : slipX s ms i = 2 ∨ slipX s ms i = 40 := by
      unfold slipX
      rw [if_neg hz]
      rcases askE_cases s ms [i] with h | h | h
      · exact absurd h hz
      · exact .inl h
      · exact .inr h
    rw [hL] at hs
    clear hz hL hA g1
    rcases hX with hX | hX
    all_goals
      rw [hX] at hs
      have Hs := Lib.hid hs
      clear hs hX
      generalize ms.length = m at *
      go_enter Try.func11, Try.ntmps11
      have t0 : ∀ w', Ext ((w.alloc (.cells #[.int .i64 s, .slice A m c] 41)).alloc (.cells #[.int .i64 i] 3)) w' → w'.cell? ⟨w.heap.size, 0, none⟩ = some (.int .i64 s) := fun w' he => cells_one rfl w' (Ext.trans ((Ext.refl _).alloc _) he)
      have t1 : ∀ w', Ext ((w.alloc (.cells #[.int .i64 s, .slice A m c] 41)).alloc (.cells #[.int .i64 i] 3)) w' → w'.cell? ⟨w.heap.size, 1, none⟩ = some (.slice A m c) := fun w' he => cells_one rfl w' (Ext.trans ((Ext.refl _).alloc _) he)
      have i0 : ∀ w', Ext ((w.alloc (.cells #[.int .i64 s, .slice A m c] 41)).alloc (.cells #[.int .i64 i] 3)) w' → w'.cell? ⟨w.heap.size + 1, 0, none⟩ = some (.int .i64 i) := fun w' he => he.cell (cells_last (by simp) rfl)
      have hxb : Ext w ((w.alloc (.cells #[.int .i64 s, .slice A m c] 41)).alloc (.cells #[.int .i64 i] 3)) := ((Ext.refl w).alloc _).alloc _
      (repeat (first
        | (go_at_call 43; refine (alive_any _).mono ?_; rintro e w1 ⟨rfl, hx1⟩; have b1 := hx1; simp only [])
        | (go_at_call 21; refine (Hg.out _).mono ?_; rintro e w2 ⟨rfl, hx2⟩; have b2 := b1.trans hx2; simp only [])
        | (go_at_call 31; refine (Hs.out _ (hxb.trans b2)).mono ?_; rintro e w3 ⟨A3, d3, rfl, hi3, hx3⟩; have b3 := b2.trans hx3; simp only [])
        | go_values | go_skip | go_guarded | go_step | go_upon))
      go_ret
      exact ⟨rfl, hxb.trans b3⟩
  obtain ⟨S, I, rfl, rfl, hi, ht⟩ := ask_one hz
  have hres : ∃ (l : List Nat) (code : Int), slipL S ms I = natI l ∧ slipX S ms I = code ∧ l.Sublist (clF ms 0) ∧ (code = 6 ∧ l = [] ∧ (∀ o : List Nat, o.Sublist (clF ms 0) → jamO ms S I o = true) ∨ code = 0 ∧ jamO ms S I l = false ∧ ∀ o : List Nat, o.Sublist (clF ms 0) → (o.length < l.length ∨ o.length = l.length ∧ lexB o l = true) → jamO ms S I o = true) := by
    unfold slipL slipX
    rw [if_pos hz, if_pos hz]
    simp only [Int.toNat_natCast]
    have hor : slipO ms S I = none ∨ ∃ r, slipO ms S I = some r := by
      cases slipO ms S I with
      | none => exact .inl rfl
      | some r => exact .inr ⟨r, rfl⟩
    rcases hor with ho | ⟨r, ho⟩
    · exact ⟨[], 6, by rw [ho]; rfl, if_neg (by rw [ho]; simp), List.nil_sublist _, .inl ⟨rfl, rfl, fun o h => slip_none ho o h⟩⟩
    · obtain ⟨h1, h2, h3⟩ := slip_first ho
      exact ⟨r, 0, by rw [ho]; rfl, if_pos (by rw [ho]; rfl), h2, .inr ⟨rfl, h1, h3⟩⟩
  obtain ⟨l, code, hL, hX, hlsub, hcase⟩ := hres
  rw [hL, hX] at hs
  have hll : l.length ≤ 30 := by
    have h1 := hlsub.length_le
    have h2 := clF_len ms 0
    omega
  have cj := fun (w' : World) (he : Ext w w') (B : Option Addr) (d : Nat) (o : List Nat) (ho : o.Sublist (clF ms 0)) (hB : Ints w' B (natI o)) (bt bi : Nat) (c0 : w'.cell? ⟨bt, 0, none⟩ = some (.int .i64 S)) (c1 : w'.cell? ⟨bt, 1, none⟩ = some (.slice A ms.length c)) (c2 : w'.cell? ⟨bi, 0, none⟩ = some (.int .i64 I)) => jams_any A c S I ms B d o w' (hA.ext he) (by omega) ht hi ho hB c0 c1 c2
  have ha := fun k (hk : k < ms.length) => hA.at_ hk
  have htk := fun (k : Nat) (hk : k < ms.length) (h : ms[k].kind = 7) => clP_take hk h
  have hsk := fun (k : Nat) (hk : k < ms.length) (h : ¬ ms[k].kind = 7) => clP_skip hk h
  have hcl : ∀ k, (clP ms k).length ≤ k := fun k => by
    unfold clP
    exact Nat.le_trans (List.length_filter_le _ _) (by simp)
  have hall := clP_all ms
  have Hs := Lib.hid hs
  have Cj := Lib.hid cj
  have Ha := Lib.hid ha
  have Htk := Lib.hid htk
  have Hsk := Lib.hid hsk
  have Hcl := Lib.hid hcl
  have Hall := Lib.hid hall
  have k40 : (code == 40) = false := by rcases hcase with ⟨rfl, _⟩ | ⟨rfl, _⟩ <;> rfl
  have k2 : (code == 2) = false := by rcases hcase with ⟨rfl, _⟩ | ⟨rfl, _⟩ <;> rfl
  have Hcase := Lib.hid hcase
  clear hs cj ha htk hsk hcl hall hcase hz hL hX hA g1 ht
  obtain ⟨m, hm⟩ : ∃ m, m = ms.length := ⟨_, rfl⟩
  rw [← hm] at Hg Hs Cj hl Hall ⊢
  have Hm := Lib.hid hm
  clear hm
  go_enter Try.func11, Try.ntmps11
  have t0 : ∀ w', Ext ((w.alloc (.cells #[.int .i64 S, .slice A m c] 41)).alloc (.cells #[.int .i64 I] 3)) w' → w'.cell? ⟨w.heap.size, 0, none⟩ = some (.int .i64 S) := fun w' he => cells_one rfl w' (Ext.trans ((Ext.refl _).alloc _) he)
  have t1 : ∀ w', Ext ((w.alloc (.cells #[.int .i64 S, .slice A m c] 41)).alloc (.cells #[.int .i64 I] 3)) w' → w'.cell? ⟨w.heap.size, 1, none⟩ = some (.slice A m c) := fun w' he => cells_one rfl w' (Ext.trans ((Ext.refl _).alloc _) he)
  have i0 : ∀ w', Ext ((w.alloc (.cells #[.int .i64 S, .slice A m c] 41)).alloc (.cells #[.int .i64 I] 3)) w' → w'.cell? ⟨w.heap.size + 1, 0, none⟩ = some (.int .i64 I) := fun w' he => he.cell (cells_last (by simp) rfl)
  have hxb : Ext w ((w.alloc (.cells #[.int .i64 S, .slice A m c] 41)).alloc (.cells #[.int .i64 I] 3)) := ((Ext.refl w).alloc _).alloc _
  (repeat (first
    | (go_at_call 43; refine (alive_any _).mono ?_; rintro e w1 ⟨rfl, hx1⟩; have b1 := hx1; simp only [])
    | (go_at_call 21; refine (Hg.out _).mono ?_; rintro e w2 ⟨rfl, hx2⟩; have b2 := b1.trans hx2; simp only [])
    | (go_at_call 31; refine (Hs.out _ (hxb.trans b2)).mono ?_; rintro e w3 ⟨A3, d3, rfl, hi3, hx3⟩; have b3 := b2.trans hx3; simp only [])
    | go_values | go_skip | go_guarded | go_step | go_upon))
  have hw3 := hxb.trans b3
  have t0 : ∀ w', Ext w3 w' → _ := fun w' he => t0 w' (b3.trans he)
  have t1 : ∀ w', Ext w3 w' → _ := fun w' he => t1 w' (b3.trans he)
  have i0 : ∀ w', Ext w3 w' → _ := fun w' he => i0 w' (b3.trans he)
  clear hx1 hx2 hx3 b1 b2 b3 hxb k40 k2 Hs Hg
  rw [natI_len]
  have Hw3 := Lib.hid hw3
  have T0 := Lib.hid t0
  have T1 := Lib.hid t1
  have I0 := Lib.hid i0
  have Hi3 := Lib.hid hi3
  clear hw3 t0 t1 i0 hi3
  generalize w.heap.size + 1 = bi at *
  generalize w.heap.size = bt at *
  go_loopw [42, 10, 11] (fun z v2 v1 wr => ∃ (k : Nat) (oth : List Nat), k ≤ m ∧ z = .int .i64 k ∧ Two w3 wr v1 v2 (clP ms k) oth ∧ oth.Sublist (clP ms k)) (fun z _ _ _ => m - (intOf z).toNat)
  case atStart => exact ⟨0, [], by omega, rfl, Two.start _, List.nil_sublist _⟩
  case round =>
    obtain ⟨k, oth, hk, rfl, htwo, hsub⟩ := hrel
    obtain ⟨A1, c1, rfl⟩ := htwo.o1.form
    obtain ⟨A2, c2, rfl⟩ := htwo.o2.form
    by_cases hlt : k < m
    · clear Hcase Hall
      have hkp : k < ms.length := by rw [← Hm.out]; exact hlt
      obtain ⟨ad, rfl, q0, q1, q2, q3, q4, q5⟩ := Ha.out k hkp
      have hwr := Hw3.out.trans htwo.o1.1
      have q0 : ∀ w', Ext wr w' → _ := fun w' he => q0 w' (hwr.trans he)
      have q1 : ∀ w', Ext wr w' → _ := fun w' he => q1 w' (hwr.trans he)
      have q2 : ∀ w', Ext wr w' → _ := fun w' he => q2 w' (hwr.trans he)
      have q3 : ∀ w', Ext wr w' → _ := fun w' he => q3 w' (hwr.trans he)
      have q4 : ∀ w', Ext wr w' → _ := fun w' he => q4 w' (hwr.trans he)
      have q5 : ∀ w', Ext wr w' → _ := fun w' he => q5 w' (hwr.trans he)
      have hki : (k : Int) < (m : Int) := by omega
      have hcl := Hcl.out k
      have hol := hsub.length_le
      have htk := Htk.out k hkp
      have hsk := Hsk.out k hkp
      have Htk' := Lib.hid htk
      have Hsk' := Lib.hid hsk
      clear htk hsk Htk Hsk Ha hwr Hcl
      generalize hkd : ms[k].kind = kd at *
      generalize ms[k].a = xa at *
      generalize ms[k].b = xb at *
      generalize ms[k].c = xc at *
      generalize ms[k].n = xn at *
      generalize ms[k].m = xm at *
      clear hkd
      by_cases h7 : kd = 7
      · subst h7
        have hcp := Htk'.out rfl
        have htw' := htwo.later ((Ext.refl wr).alloc (.cells #[.int .u8 7, .int .i64 xa, .int .i64 xb, .int .i64 xc, .int .i64 xn, .int .i64 xm] 57))
        obtain ⟨v5, w5, hr5, htw5⟩ := htw'.app1 k 22 (by omega)
        rw [← hcp] at htw5
        have hsz : (wr.alloc (.cells #[.int .u8 7, .int .i64 xa, .int .i64 xb, .int .i64 xc, .int .i64 xn, .int .i64 xm] 57)).heap.size = wr.heap.size + 1 := by simp
        obtain ⟨A5, c5, rfl⟩ := htw5.o1.form
        obtain ⟨v6, w6, hr6, htw6⟩ := htw5.swap.app1 k 22 (by omega)
        obtain ⟨A6, c6, rfl⟩ := htw6.o1.form
        have htw6 := htw6.swap
        rw [show (oth ++ [k]).length = oth.length + 1 by simp] at htw6
        have hsb1 : oth.Sublist (clP ms (k + 1)) := hsub.trans (by rw [hcp]; exact List.sublist_append_left _ _)
        have hsb2 : (oth ++ [k]).Sublist (clP ms (k + 1)) := by rw [hcp]; exact hsub.append (List.Sublist.refl _)
        have Htw5 := Lib.hid htw5
        have Htw6 := Lib.hid htw6
        clear htw5 htw6 hcp Htk' Hsk'
        generalize (clP ms k).length = n1 at *
        (repeat ((fail_if_success at_builtin); (first | go_values | go_skip | go_guarded | go_step | go_upon)))
        rw [← hsz]
        refine Lib.wpList_append_run _ rfl _ _ 22 22 rfl _ _ rfl rfl _ w5 hr5 ?_
        clear hr5 hsz q0 q1 q2 q3 q4 q5 htwo htw'
        (repeat ((fail_if_success at_builtin); (first | go_values | go_skip | go_guarded | go_step | go_upon)))
        all_goals ((repeat ((fail_if_success at_builtin); (first | go_values | go_skip | go_guarded | go_step | go_upon))))
        all_goals first
          | (refine ⟨⟨k + 1, oth, by omega, by go_num, Htw5.out, hsb1⟩, ?_⟩; simp [intOf]; omega)
          | (refine Lib.wpList_append_run _ rfl _ _ 22 22 rfl _ _ rfl rfl _ w6 hr6 ?_; (repeat (first | go_values | go_skip | go_guarded | go_step | go_upon)); refine ⟨⟨k + 1, oth ++ [k], by omega, by go_num, Htw6.out, hsb2⟩, ?_⟩; simp [intOf]; omega)
      · have h7' : (kd == 7) = false := beq_eq_false_iff_ne.2 h7
        have hcp := Hsk'.out h7
        have htw5 := htwo.later ((Ext.refl wr).alloc (.cells #[.int .u8 kd, .int .i64 xa, .int .i64 xb, .int .i64 xc, .int .i64 xn, .int .i64 xm] 57))
        rw [← hcp] at htw5 hsub ⊢
        have Htw5 := Lib.hid htw5
        clear htw5 htwo hcp
        (repeat (first | go_values | go_skip | go_guarded | go_step | go_upon))
        refine ⟨⟨k + 1, oth, by omega, by go_num, Htw5.out, hsub⟩, ?_⟩
        simp [intOf]
        omega
    · obtain rfl : m = k := by omega
      have hall := Hall.out
      rw [hall] at htwo hsub ⊢
      have hi1 : Ints wr A1 (natI (clF ms 0)) := htwo.o1.row
      have hi2 : Ints wr A2 (natI oth) := htwo.o2.row
      have hx3r := htwo.o1.1
      have hwr := Hw3.out.trans hx3r
      have hi3 : Ints wr A3 (natI l) := Ints.ext Hi3.out hx3r
      have hj1 := fun (w' : World) (he : Ext wr w') => Cj.out w' (hwr.trans he) A1 c1 (clF ms 0) (List.Sublist.refl _) (hi1.ext he) bt bi (T0.out w' (hx3r.trans he)) (T1.out w' (hx3r.trans he)) (I0.out w' (hx3r.trans he))
      have hj2 := fun (w' : World) (he : Ext wr w') => Cj.out w' (hwr.trans he) A2 c2 oth hsub (hi2.ext he) bt bi (T0.out w' (hx3r.trans he)) (T1.out w' (hx3r.trans he)) (I0.out w' (hx3r.trans he))
      have hj3 := fun (w' : World) (he : Ext wr w') => Cj.out w' (hwr.trans he) A3 d3 l hlsub (hi3.ext he) bt bi (T0.out w' (hx3r.trans he)) (T1.out w' (hx3r.trans he)) (I0.out w' (hx3r.trans he))
      have hmf : ∀ (fn : Fn) (first cap : Array Value) (w : World), (Instr.makeFunc fn first cap).run Try.prog w = .ok (.func fn first cap) w := fun _ _ _ _ => rfl
      have hcase := Hcase.out
      have hf2 := fun (k : Nat) (hk : k < oth.length) => hi2.some_ (by rw [natI_len]; omega)
      have hf3 := fun (k : Nat) (hk : k < l.length) => hi3.some_ (by rw [natI_len]; omega)
      clear Hcase Hall Cj Ha Htk Hsk Hcl htwo hi1 hi2 hi3 T0 T1 I0 Hi3 hall hlt hk
      rcases hcase with ⟨rfl, rfl, hJ⟩ | ⟨rfl, hJl, hJ⟩
      · rw [hJ _ (List.Sublist.refl _)] at hj1
        have Hj1 := Lib.hid hj1
        clear hj1 hj2 hj3 hJ hf2 hf3
        generalize (clF ms 0).length = n1 at *
        generalize oth.length = n2 at *
        (repeat (first | go_values | go_skip | go_guarded | go_step | go_upon))
        (repeat (first
          | (go_at_call 47; refine (Hj1.out _ (Ext.refl _)).mono ?_; rintro e w5 ⟨rfl, hw5⟩; simp only [])
          | go_values | go_skip | go_guarded | go_step | go_upon))
        go_ret
        exact ⟨rfl, hwr.trans hw5⟩
      · rw [hJl] at hj3
        have Hj3 := Lib.hid hj3
        clear hj1 hj3
        rcases Nat.lt_trichotomy oth.length l.length with hn | hn | hn
        · rw [hJ _ hsub (.inl hn)] at hj2
          have Hj2 := Lib.hid hj2
          have hnd : (oth.length : Int) < (l.length : Int) := by omega
          have hne : ((oth.length : Int) == (l.length : Int)) = false := by simp; omega
          clear hj2 hJ hf2 hf3 hsub hlsub
          generalize (clF ms 0).length = n1 at *
          generalize oth.length = n2 at *
          generalize l.length = n3 at *
          (repeat (first | go_values | go_skip | go_guarded | go_step | go_upon))
          go_at_call 47
          refine (Hj3.out _ (Ext.refl _)).mono ?_
          rintro e w5 ⟨rfl, hw5⟩
          simp only []
          (repeat (first | go_values | go_skip | go_guarded | go_step | go_upon))
          go_at_call 47
          refine (Hj2.out _ hw5).mono ?_
          rintro e w6 ⟨rfl, hw6⟩
          simp only []
          (repeat (first | go_values | go_skip | go_guarded | go_step | go_upon))
          go_ret
          exact ⟨rfl, hwr.trans (hw5.trans hw6)⟩
        · rw [hn] at hj2 hf2
          have hJ2 := fun (h : lexB oth l = true) => hJ _ hsub (.inr ⟨hn, h⟩)
          rw [hn]
          have HJ2 := Lib.hid hJ2
          have Hj2 := Lib.hid hj2
          have Hf2 := Lib.hid hf2
          have Hf3 := Lib.hid hf3
          have Hsame := Lib.hid (fun (h : _) => lexB_same (o := oth) (l := l) hn h)
          have Hlex := Lib.hid (lexB_at oth l)
          have hno : oth.length = l.length := hn
          clear hj2 hJ2 hJ hf2 hf3 hsub hlsub hn
          generalize (clF ms 0).length = n1 at *
          obtain ⟨n, hnl⟩ : ∃ n, n = l.length := ⟨_, rfl⟩
          rw [← hnl] at Hj3 Hj2 Hf2 Hf3 hno hll ⊢
          have Hnl := Lib.hid hnl
          have Hno := Lib.hid hno
          clear hnl hno
          (repeat (first
            | (go_at_call 47; refine (Hj3.out _ (Ext.refl _)).mono ?_; rintro e w5 ⟨rfl, hw5⟩; simp only [])
            | go_values | go_skip | go_guarded | go_step | go_upon))
          obtain ⟨wo, rfl⟩ : ∃ wo : World, wo = wr := ⟨_, rfl⟩
          go_loopw [101, 15] (fun z ev wr => ∃ q : Nat, q ≤ n ∧ z = .int .i64 q ∧ ev = .bool false ∧ Ext wo wr ∧ ∀ j, j < q → oth[j]? = l[j]?) (fun z _ _ => n - (intOf z).toNat)
          case atStart => exact ⟨0, by omega, rfl, by simp, hw5, fun j h => absurd h (by omega)⟩
          case round =>
            obtain ⟨q, hq, rfl, rfl, hx5, hsm⟩ := hrel
            by_cases hlt : q < n
            · have h1 : q < oth.length := by have := Hno.out; have := Hnl.out; omega
              have h2 : q < l.length := by have := Hnl.out; omega
              obtain ⟨a2, rfl, g2⟩ := Hf2.out q hlt
              obtain ⟨a3, rfl, g3⟩ := Hf3.out q hlt
              have g2 : ∀ w', Ext wr w' → w'.cell? (a2.add q) = some (.int .i64 (oth[q] : Int)) := fun w' he => by
                rw [g2 q (by rw [natI_len]; exact h1) w' (hx5.trans he), natI_get h1]
              have g3 : ∀ w', Ext wr w' → w'.cell? (a3.add q) = some (.int .i64 (l[q] : Int)) := fun w' he => by
                rw [g3 q (by rw [natI_len]; exact h2) w' (hx5.trans he), natI_get h2]
              have hlx := Hlex.out q h1 h2 hsm
              have hqi : (q : Int) < (n : Int) := by omega
              have hnx : oth[q] = l[q] → ∀ j, j < q + 1 → oth[j]? = l[j]? := fun h j hj => by
                by_cases hj2 : j < q
                · exact hsm j hj2
                · obtain rfl : j = q := by omega
                  rw [List.getElem?_eq_getElem h1, List.getElem?_eq_getElem h2, h]
              clear hsm Hf2 Hf3 Hsame Hlex
              have HJ3 : ¬ oth[q] = l[q] → oth[q] < l[q] → jamO ms S I oth = true := fun u1 u2 => HJ2.out (by rw [hlx u1]; simpa using u2)
              generalize oth[q] = u at *
              generalize l[q] = v at *
              clear HJ2 hlx
              have Hnx := Lib.hid hnx
              have HJ4 := Lib.hid HJ3
              have Hwr := Lib.hid hwr
              clear hnx HJ3 hwr
              by_cases huv : u = v
              · subst huv
                have hnx := Hnx.out rfl
                have Hnx' := Lib.hid hnx
                clear hnx Hnx HJ4
                (repeat (first | go_values | go_skip | go_guarded | go_step | go_upon))
                refine wp_region_calm 9 (fun _ _ _ _ => True) (fun _ _ _ _ _ _ h => h) (by kernel_rfl) (by kernel_rfl) ?_
                simp only [List.take_succ_cons, List.take_zero, List.drop_succ_cons, List.drop_zero]
                refine calm_quiet calm_mono_final 9 (by kernel_rfl) ?_
                simp only [List.take_succ_cons, List.take_zero, List.drop_succ_cons, List.drop_zero]
                repeat (go_big_quiet_step (fail))
                refine wpQuiet_nil ?_
                refine calm_nil fun w6 hx6 _ => ?_
                (repeat (first | go_values | go_skip | go_guarded | go_step | go_upon))
                refine ⟨⟨q + 1, by omega, by go_num, rfl, hx5.trans hx6, Hnx'.out⟩, ?_⟩
                simp [intOf]
                omega
              · have hne1 : ((u : Int) == (v : Int)) = false := by simp; omega
                have hne2 : ((u : Int) != (v : Int)) = true := by simp; omega
                have hJ4 := HJ4.out huv
                clear HJ4 Hnx
                by_cases huv2 : u < v
                · have hu2 : (u : Int) < (v : Int) := by omega
                  have hj2 := Hj2.out
                  rw [hJ4 huv2] at hj2
                  clear hJ4 Hj2
                  have Hj2 := Lib.hid hj2
                  clear hj2
                  (repeat (first | go_values | go_skip | go_guarded | go_step | go_upon))
                  refine wp_region_calm 9 (fun _ _ _ _ => True) (fun _ _ _ _ _ _ h => h) (by kernel_rfl) (by kernel_rfl) ?_
                  simp only [List.take_succ_cons, List.take_zero, List.drop_succ_cons, List.drop_zero]
                  refine calm_quiet calm_mono_final 9 (by kernel_rfl) ?_
                  simp only [List.take_succ_cons, List.take_zero, List.drop_succ_cons, List.drop_zero]
                  repeat (go_big_quiet_step (fail))
                  refine wpQuiet_nil ?_
                  refine calm_nil fun w6 hx6 _ => ?_
                  have g2 : ∀ w', Ext w6 w' → _ := fun w' he => g2 w' (hx6.trans he)
                  have g3 : ∀ w', Ext w6 w' → _ := fun w' he => g3 w' (hx6.trans he)
                  (repeat (first | go_values | go_skip | go_guarded | go_step | go_upon))
                  refine wp_region_calm 10 (fun _ _ _ _ => True) (fun _ _ _ _ _ _ h => h) (by kernel_rfl) (by kernel_rfl) ?_
                  simp only [List.take_succ_cons, List.take_zero, List.drop_succ_cons, List.drop_zero]
                  refine calm_quiet calm_mono_final 10 (by kernel_rfl) ?_
                  simp only [List.take_succ_cons, List.take_zero, List.drop_succ_cons, List.drop_zero]
                  repeat (go_big_quiet_step (fail))
                  refine wpQuiet_nil ?_
                  refine calm_nil fun w7 hx7 _ => ?_
                  (repeat (first
                    | (go_at_call 47; refine (Hj2.out _ (hx5.trans (hx6.trans hx7))).mono ?_; rintro e w8 ⟨rfl, hw8⟩; simp only [])
                    | go_values | go_skip | go_guarded | go_step | go_upon))
                  go_ret
                  exact ⟨rfl, Hwr.out.trans (hx5.trans (hx6.trans (hx7.trans hw8)))⟩
                · have hu2 : ¬ (u : Int) < (v : Int) := by omega
                  clear hJ4 Hj2
                  (repeat (first | go_values | go_skip | go_guarded | go_step | go_upon))
                  refine wp_region_calm 9 (fun _ _ _ _ => True) (fun _ _ _ _ _ _ h => h) (by kernel_rfl) (by kernel_rfl) ?_
                  simp only [List.take_succ_cons, List.take_zero, List.drop_succ_cons, List.drop_zero]
                  refine calm_quiet calm_mono_final 9 (by kernel_rfl) ?_
                  simp only [List.take_succ_cons, List.take_zero, List.drop_succ_cons, List.drop_zero]
                  repeat (go_big_quiet_step (fail))
                  refine wpQuiet_nil ?_
                  refine calm_nil fun w6 hx6 _ => ?_
                  have g2 : ∀ w', Ext w6 w' → _ := fun w' he => g2 w' (hx6.trans he)
                  have g3 : ∀ w', Ext w6 w' → _ := fun w' he => g3 w' (hx6.trans he)
                  (repeat (first | go_values | go_skip | go_guarded | go_step | go_upon))
                  refine wp_region_calm 10 (fun _ _ _ _ => True) (fun _ _ _ _ _ _ h => h) (by kernel_rfl) (by kernel_rfl) ?_
                  simp only [List.take_succ_cons, List.take_zero, List.drop_succ_cons, List.drop_zero]
                  refine calm_quiet calm_mono_final 10 (by kernel_rfl) ?_
                  simp only [List.take_succ_cons, List.take_zero, List.drop_succ_cons, List.drop_zero]
                  repeat (go_big_quiet_step (fail))
                  refine wpQuiet_nil ?_
                  refine calm_nil fun w7 hx7 _ => ?_
                  (repeat (first | go_values | go_skip | go_guarded | go_step | go_upon))
                  go_ret
                  exact ⟨rfl, Hwr.out.trans (hx5.trans (hx6.trans hx7))⟩
            · obtain rfl : n = q := by omega
              (repeat (first | go_values | go_skip | go_guarded | go_step | go_upon))
              go_ret
              exact ⟨rfl, hwr.trans hx5⟩
        · have hnd : ¬ (oth.length : Int) < (l.length : Int) := by omega
          have hne : ((oth.length : Int) == (l.length : Int)) = false := by simp; omega
          clear hj2 hJ hf2 hf3 hsub hlsub
          generalize (clF ms 0).length = n1 at *
          generalize oth.length = n2 at *
          generalize l.length = n3 at *
          (repeat (first
            | (go_at_call 47; refine (Hj3.out _ (Ext.refl _)).mono ?_; rintro e w5 ⟨rfl, hw5⟩; simp only [])
            | go_values | go_skip | go_guarded | go_step | go_upon))
          go_ret
          exact ⟨rfl, hwr.trans hw5⟩
end Go.Proofs.Ytbclbcldplmppaa
