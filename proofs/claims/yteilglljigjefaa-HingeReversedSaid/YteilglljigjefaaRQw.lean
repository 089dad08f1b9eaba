/- HingeReversed: its two maps as they read. -/
import Derived.Test.YteilglljigjefaaR01
import Derived.Maps.OwnSet
import Derived.WideKeyPair
namespace Go.Proofs.Yteilglljigjefaa
open Go.RowKit Go.Maps
theorem Kint : Keyed Try.prog 3 := int_keyed Try.underlying3
theorem arr2 : WideMaps.ArrKey Try.prog 91 3 2 := ⟨Try.underlying91, by kernel_rfl, by kernel_rfl, by kernel_rfl⟩
theorem Kpair : Keyed Try.prog 91 := Keyed.of_law arr2.law
def kp (p : Int × Int) : Lit := .string (keyBytes [.int .i64 p.1, .int .i64 p.2])
theorem keyOf_kp (p : Int × Int) (wa : (Lit.int .i64 p.1).wf = true) (wb : (Lit.int .i64 p.2).wf = true) : keyOf Try.prog 91 (.agg #[.int .i64 p.1, .int .i64 p.2]) = some (kp p) :=
  WideMaps.keyOf_pair arr2 Try.underlying3 ⟨Try.prog.types.size - 1, by have h : 0 < Try.prog.types.size := of_decide_eq_true (by kernel_rfl); omega⟩ wa wb
theorem zero_bool (w : World) : (zeroValue 4).run Try.prog w = .ok (.bool false) w := by kernel_rfl
theorem zero_int (w : World) : (zeroValue 3).run Try.prog w = .ok (.int .i64 0) w := by kernel_rfl
theorem wf_small {x : Int} (h1 : -1000000 ≤ x) (h2 : x ≤ 1000000) : (Lit.int .i64 x).wf = true := WalkArith.wf_i64 (by omega)
section
variable {H : Type} {P : Program} {w : World} {ops : Array Oper} {rest : List Oper} {o : Oper} {a : Act} {Q : Exit → Act → World → Prop} {k e : TypeId} {b n : Nat} {D : DataW H}
theorem plainElem_bool_inv (he : P.underlying e = some .bool) {v : Value} {z : DataW H × List MemPlace} (h : plainElem P e v = some z) : ∃ x, v = .bool x ∧ z = (.lit (.bool x), []) := by
  unfold plainElem at h
  rw [he] at h
  cases v <;> simp at h
  subst h
  exact ⟨_, rfl, rfl⟩
theorem _root_.Go.World.ownsMap.later {w' : World} {R : Value → Option (DataW H × List MemPlace)} (h : w.ownsMap P k R b n D) (he : Ext w w') : w'.ownsMap P k R b n D := by
  obtain ⟨es, clock, hb, F, hs, hD⟩ := h
  exact ⟨es, clock, he.heap hb, F, hs, hD⟩
/-- A look-up at a key of which it is known what is there. -/
theorem wpList_lookup_bool (hg : o.guard = none) (m x : Operand) (t : TypeId) (hop : o.op = Op.lookup t m x false) (K : Keyed P k) (ht : P.underlying t = some (.map k e)) (he : P.underlying e = some .bool) (hz : (zeroValue e).run P w = .ok (.bool false) w)
    (hm : a.eval m = .map (some b)) (hown : w.ownsMap P k (plainElem P e) b n D) (key : Value) (kl : Lit) (hx : a.eval x = key) (hkey : keyOf P k key = some kl) (c : Bool) (hat : ∀ zd, D.atKey kl zd = .lit (.bool c))
    (hK : wpList P ops Q rest (a.put o.dst (.bool c)) w) : wpList P ops Q (o :: rest) a w := by
  refine wpList_plain hg fun K' hK' => ?_
  obtain ⟨v, ps, hrun, hv⟩ := hown.lookup K ht hz (plainElem_bool he false) hkey
  obtain ⟨y, rfl, hy⟩ := plainElem_bool_inv he hv
  rw [hat] at hy
  simp only [Prod.mk.injEq, DataW.lit.injEq, Lit.bool.injEq] at hy
  obtain ⟨rfl, _⟩ := hy
  unfold Oper.wp
  simp [execOp, hop, hm, hx, hrun, Result.andThen]
  exact hK' _ _ hK
theorem wpList_lookup_int {q : IntKind} (hg : o.guard = none) (m x : Operand) (t : TypeId) (hop : o.op = Op.lookup t m x false) (K : Keyed P k) (ht : P.underlying t = some (.map k e)) (he : P.underlying e = some (.int q)) (hz : (zeroValue e).run P w = .ok (.int q 0) w)
    (hm : a.eval m = .map (some b)) (hown : w.ownsMap P k (plainElem P e) b n D) (key : Value) (kl : Lit) (hx : a.eval x = key) (hkey : keyOf P k key = some kl) (c : Int) (hat : ∀ zd, D.atKey kl zd = .lit (.int q c))
    (hK : wpList P ops Q rest (a.put o.dst (.int q c)) w) : wpList P ops Q (o :: rest) a w := by
  refine wpList_plain hg fun K' hK' => ?_
  obtain ⟨v, hrun, hv, _⟩ := hown.lookup_int K ht he hz hkey
  rw [hat] at hv
  simp only [DataW.lit.injEq, Lit.int.injEq, true_and] at hv
  subst hv
  unfold Oper.wp
  simp [execOp, hop, hm, hx, hrun, Result.andThen]
  exact hK' _ _ hK
end
/-- The map of the opposite angles, of those below n. -/
def OppTo (D : DataW Unit) (n : Nat) : Prop := IsMap D ∧ ∀ x : Nat, x < n → ∀ zd, D.atKey (.int .i64 x) zd = .lit (.int .i64 (oppS x : Nat))
def OppIn (D : DataW Unit) (n m : Nat) : Prop := OppTo D n ∧ (oppS n < m → ∀ zd, D.atKey (.int .i64 n) zd = .lit (.int .i64 (oppS n : Nat)))
theorem OppTo.start : OppTo (.map []) 0 := ⟨isMap_empty, fun x h => absurd h (by omega)⟩
theorem OppTo.in_ {D : DataW Unit} {n : Nat} (h : OppTo D n) : OppIn D n 0 := ⟨h, fun h => absurd h (by omega)⟩
theorem OppIn.same {D : DataW Unit} {n m : Nat} (h : OppIn D n m) (hm : m ≠ oppS n) : OppIn D n (m + 1) := ⟨h.1, fun h1 => h.2 (by omega)⟩
theorem OppIn.hit {D : DataW Unit} {n m : Nat} (h : OppIn D n m) (hm : m = oppS n) : OppIn (D.put (.int .i64 n) (.lit (.int .i64 m))) n (m + 1) := by
  subst hm
  refine ⟨⟨h.1.1.put _ _, fun x hx zd => ?_⟩, fun _ zd => atKey_put_same h.1.1 (show WideAt.IsKeyLit (.int .i64 (n : Int)) from trivial) _ _⟩
  rw [atKey_put_other (by intro e; simp at e; omega)]
  exact h.1.2 x hx zd
theorem OppIn.out {D : DataW Unit} {n : Nat} (h : OppIn D n 36) (hn : n < 36) : OppTo D (n + 1) := by
  refine ⟨h.1.1, fun x hx zd => ?_⟩
  by_cases hxn : x = n
  · subst hxn
    exact h.2 (oppS_ok x hn).1 zd
  · exact h.1.2 x (by omega) zd
/-- .. in memory. -/
def OppM (w0 w : World) (b n : Nat) : Prop := ∃ cnt D, cnt ≤ n * 36 ∧ w.ownsMap Try.prog 3 (plainElem Try.prog 3) b cnt D ∧ OppTo D n ∧ Ext w0 w
def OppN (w0 w : World) (b n m : Nat) : Prop := ∃ cnt D, cnt ≤ n * 36 + m ∧ w.ownsMap Try.prog 3 (plainElem Try.prog 3) b cnt D ∧ OppIn D n m ∧ Ext w0 w
section
variable {w0 w w' : World} {b n m : Nat}
theorem OppM.later (h : OppM w0 w b n) (he : Ext w w') : OppM w0 w' b n := by
  obtain ⟨cnt, D, h1, h2, h3, h4⟩ := h
  exact ⟨cnt, D, h1, h2.later he, h3, h4.trans he⟩
theorem OppN.later (h : OppN w0 w b n m) (he : Ext w w') : OppN w0 w' b n m := by
  obtain ⟨cnt, D, h1, h2, h3, h4⟩ := h
  exact ⟨cnt, D, h1, h2.later he, h3, h4.trans he⟩
theorem OppM.in_ (h : OppM w0 w b n) : OppN w0 w b n 0 := by
  obtain ⟨cnt, D, h1, h2, h3, h4⟩ := h
  exact ⟨cnt, D, h1, h2, h3.in_, h4⟩
theorem OppN.same (h : OppN w0 w b n m) (hm : m ≠ oppS n) : OppN w0 w b n (m + 1) := by
  obtain ⟨cnt, D, h1, h2, h3, h4⟩ := h
  exact ⟨cnt, D, by omega, h2, h3.same hm, h4⟩
theorem OppN.out (h : OppN w0 w b n 36) (hn : n < 36) : OppM w0 w b (n + 1) := by
  obtain ⟨cnt, D, h1, h2, h3, h4⟩ := h
  exact ⟨cnt, D, by omega, h2, h3.out hn, h4⟩
theorem OppM.start (he : Ext w0 w) (hb : b = w.heap.size) : OppM w0 (w.alloc (.map #[] 0)) b 0 := by
  subst hb
  exact ⟨0, _, by omega, World.ownsMap_made w Try.prog _ _, OppTo.start, he.alloc _⟩
theorem OppM.ext (h : OppM w0 w b n) : Ext w0 w := by
  obtain ⟨_, _, _, _, _, h4⟩ := h
  exact h4
theorem OppN.ext (h : OppN w0 w b n m) : Ext w0 w := by
  obtain ⟨_, _, _, _, _, h4⟩ := h
  exact h4
theorem OppN.store {ops : Array Oper} {rest : List Oper} {o : Oper} {a : Act} {Q : Exit → Act → World → Prop} (hg : o.guard = none) (mo x v : Operand) (hop : o.op = Op.mapUpdate 89 mo x v)
    (hm : a.eval mo = .map (some b)) (h : OppN w0 w b n m) (hb : w0.heap.size ≤ b) (hn : n < 36) (hmo : m < 36) (he : m = oppS n) (hx : a.eval x = .int .i64 n) (hv : a.eval v = .int .i64 m)
    (hK : ∀ w', OppN w0 w' b n (m + 1) → wpList Try.prog ops Q rest (a.put o.dst undef) w') : wpList Try.prog ops Q (o :: rest) a w := by
  obtain ⟨cnt, D, h1, h2, h3, h4⟩ := h
  refine wpList_mapUpdate_own w hg mo x v 89 hop 3 3 Kint Try.underlying89 _ b cnt D hm h2 (by unfold maxLen; omega) _ _ (.int .i64 n) hx hv (keyOf_int_mk Try.underlying3 (wf_small (by omega) (by omega))) _ [] (plainElem_int Try.underlying3 (wf_small (by omega) (by omega))) fun w' h5 h6 => ?_
  exact hK w' ⟨cnt + 1, _, by omega, h5, h3.hit he, h4.grown h6 (fun j hj => by cases hj; exact hb)⟩
end
/-- The set of pairs, of those of a list. -/
def SetM (w0 w : World) (b k : Nat) (l : List (Int × Int)) : Prop := ∃ D : DataW Unit, IsMap D ∧ w.ownsMap Try.prog 91 (plainElem Try.prog 4) b k D ∧ (∀ p ∈ l, ∀ zd, D.atKey (kp p) zd = .lit (.bool true)) ∧ Ext w0 w
section
variable {w0 w w' : World} {b k : Nat} {l : List (Int × Int)}
theorem SetM.later (h : SetM w0 w b k l) (he : Ext w w') : SetM w0 w' b k l := by
  obtain ⟨D, h1, h2, h3, h4⟩ := h
  exact ⟨D, h1, h2.later he, h3, h4.trans he⟩
theorem SetM.start (he : Ext w0 w) (hb : b = w.heap.size) : SetM w0 (w.alloc (.map #[] 0)) b 0 [] := by
  subst hb
  exact ⟨_, isMap_empty, World.ownsMap_made w Try.prog _ _, fun p hp => (by cases hp), he.alloc _⟩
theorem SetM.ext (h : SetM w0 w b k l) : Ext w0 w := by
  obtain ⟨_, _, _, _, h4⟩ := h
  exact h4
theorem SetM.store {ops : Array Oper} {rest : List Oper} {o : Oper} {a : Act} {Q : Exit → Act → World → Prop} (hg : o.guard = none) (mo x v : Operand) (hop : o.op = Op.mapUpdate 90 mo x v)
    (hm : a.eval mo = .map (some b)) (h : SetM w0 w b k l) (hb : w0.heap.size ≤ b) (hk : k ≤ 1000) (p : Int × Int) (h1 : -1000 ≤ p.1 ∧ p.1 ≤ 1000) (h2 : -1000 ≤ p.2 ∧ p.2 ≤ 1000) (hx : a.eval x = .agg #[.int .i64 p.1, .int .i64 p.2]) (hv : a.eval v = .bool true)
    (hK : ∀ w', SetM w0 w' b (k + 1) (l ++ [p]) → wpList Try.prog ops Q rest (a.put o.dst undef) w') : wpList Try.prog ops Q (o :: rest) a w := by
  obtain ⟨D, g1, g2, g3, g4⟩ := h
  have hkey := keyOf_kp p (wf_small (by omega) (by omega)) (wf_small (by omega) (by omega))
  refine wpList_mapUpdate_own w hg mo x v 90 hop 91 4 Kpair Try.underlying90 _ b k D hm g2 (by unfold maxLen; omega) _ _ (kp p) hx hv hkey _ [] (plainElem_bool Try.underlying4 true) fun w' h5 h6 => ?_
  refine hK w' ⟨_, g1.put _ _, h5, fun q hq zd => ?_, g4.grown h6 (fun j hj => by cases hj; exact hb)⟩
  by_cases e : kp q = kp p
  · rw [e]
    exact atKey_put_same g1 (Kpair.key hkey) _ _
  · rw [atKey_put_other e]
    rcases List.mem_append.1 hq with h7 | h7
    · exact g3 q h7 zd
    · exact absurd (by rw [List.mem_singleton.1 h7]) e
end
theorem OppM.look {w0 w : World} {b : Nat} {ops : Array Oper} {rest : List Oper} {o : Oper} {a : Act} {Q : Exit → Act → World → Prop} (hg : o.guard = none) (mo x : Operand) (hop : o.op = Op.lookup 89 mo x false)
    (hm : a.eval mo = .map (some b)) (h : OppM w0 w b 36) (n : Nat) (hn : n < 36) (hx : a.eval x = .int .i64 n) (hK : wpList Try.prog ops Q rest (a.put o.dst (.int .i64 (oppS n : Nat))) w) : wpList Try.prog ops Q (o :: rest) a w := by
  obtain ⟨cnt, D, h1, h2, h3, h4⟩ := h
  exact wpList_lookup_int hg mo x 89 hop Kint Try.underlying89 Try.underlying3 (zero_int w) hm h2 _ (.int .i64 n) hx (keyOf_int_mk Try.underlying3 (wf_small (by omega) (by omega))) _ (h3.2 n hn) hK
theorem SetM.look {w0 w : World} {b k : Nat} {l : List (Int × Int)} {ops : Array Oper} {rest : List Oper} {o : Oper} {a : Act} {Q : Exit → Act → World → Prop} (hg : o.guard = none) (mo x : Operand) (hop : o.op = Op.lookup 90 mo x false)
    (hm : a.eval mo = .map (some b)) (h : SetM w0 w b k l) (p : Int × Int) (h1 : -1000 ≤ p.1 ∧ p.1 ≤ 1000) (h2 : -1000 ≤ p.2 ∧ p.2 ≤ 1000) (hp : p ∈ l) (hx : a.eval x = .agg #[.int .i64 p.1, .int .i64 p.2]) (hK : wpList Try.prog ops Q rest (a.put o.dst (.bool true)) w) : wpList Try.prog ops Q (o :: rest) a w := by
  obtain ⟨D, g1, g2, g3, g4⟩ := h
  exact wpList_lookup_bool hg mo x 90 hop Kpair Try.underlying90 Try.underlying4 (zero_bool w) hm g2 _ (kp p) hx (keyOf_kp p (wf_small (by omega) (by omega)) (wf_small (by omega) (by omega))) _ (g3 p hp) hK
end Go.Proofs.Yteilglljigjefaa
