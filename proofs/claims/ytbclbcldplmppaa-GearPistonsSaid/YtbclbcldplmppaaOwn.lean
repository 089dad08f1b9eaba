/- Slices that the call itself makes: make, append, stores, as steps of the walk. -/
import Derived.Test.YtbclbcldplmppaaMem
import Derived.WalkSpells
import Derived.Lib.Hide
import Derived.WalkLawsBesides
import Derived.WalkSmall
import Derived.Deep.LoopGhost
namespace Go.Proofs.Ytbclbcldplmppaa
open Go.RowKit

/-- What the table says of an element type. -/
structure ElemInfo (e : TypeId) (z : Value) (size bytes : Nat) : Prop where
  info : ∃ i, Try.prog.info? e = some i ∧ i.zero = some z ∧ i.size = size ∧ i.bytes = bytes
  zs : z.cells.size = size
  pos : 0 < size

theorem int_elem : ElemInfo 3 (.int .i64 0) 1 8 := ⟨info_parts (by kernel_rfl), rfl, by decide⟩

/-- The slice v is the call's own since w1, and holds xs. -/
def Own (w1 w : World) (e : TypeId) (size : Nat) (v : Value) (n : Nat) (xs : List Value) : Prop := Ext w1 w ∧ w.ownsRow w1.heap.size e size v n xs
abbrev OwnI (w1 w : World) (v : Value) (xs : List Int) : Prop := Own w1 w 3 1 v xs.length (xs.map vint)

section
variable {w1 w w' : World} {e : TypeId} {size : Nat} {v : Value} {n : Nat} {xs : List Value}
theorem Own.ext (h : Own w1 w e size v n xs) : Ext w1 w := h.1
theorem Own.later (h : Own w1 w e size v n xs) (he : Ext w w') : Own w1 w' e size v n xs := ⟨h.1.trans he, he.owns h.2⟩
theorem Own.alloc (h : Own w1 w e size v n xs) (o : Obj) : Own w1 (w.alloc o) e size v n xs := h.later (by simp)
theorem Own.nil (w : World) (e : TypeId) (size : Nat) : Own w w e size (.slice none 0 0) 0 [] := ⟨Ext.refl w, World.ownsRow_nil _ _ _ _⟩
theorem Own.nil' (he : Ext w1 w) (e : TypeId) (size : Nat) : Own w1 w e size (.slice none 0 0) 0 [] := ⟨he, World.ownsRow_nil _ _ _ _⟩
theorem Own.len (h : Own w1 w e size v n xs) : xs.length = n * size := h.2.1
theorem Own.form (h : Own w1 w e size v n xs) : ∃ A c, v = .slice A n c := by
  rcases h.2.2 with ⟨rfl, rfl⟩ | ⟨g, cap, cur, rfl, _⟩
  · exact ⟨none, 0, rfl⟩
  · exact ⟨_, cap, rfl⟩
/-- .. and, where there is an element, where it lies. -/
theorem Own.at_ (h : Own w1 w e size v n xs) (hn : 0 < n) : ∃ g c, v = .slice (some ⟨g, 0, none⟩) n c ∧ w1.heap.size ≤ g ∧ g < w.heap.size := by
  rcases h.2.2 with ⟨rfl, rfl⟩ | ⟨g, cap, cur, rfl, hb, hh, _⟩
  · omega
  · exact ⟨g, cap, rfl, hb, (Array.getElem?_eq_some_iff.1 hh).1⟩
theorem Own.row {A : Option Addr} {m c : Nat} (h : Own w1 w e size (.slice A m c) n xs) : Row w A xs := by
  obtain ⟨A', c', hv⟩ := h.form
  injection hv with h1 h2 h3
  subst h2
  exact Row.of_own h.2
theorem Own.cell {g m c : Nat} (h : Own w1 w e size (.slice (some ⟨g, 0, none⟩) m c) n xs) {j : Nat} (hj : j < xs.length) : w.cell? ⟨g, j, none⟩ = xs[j]? := by
  obtain ⟨A', c', hv⟩ := h.form
  injection hv with h1 h2 h3
  subst h2
  exact World.ownsRow.cellAt h.2 j (by rw [← h.len]; exact hj)
theorem Own.free {g m c : Nat} (h : Own w1 w e size (.slice (some ⟨g, 0, none⟩) m c) n xs) (j : Nat) : w.frozen? ⟨g, j, none⟩ = false := by
  obtain ⟨A', c', hv⟩ := h.form
  injection hv with h1 h2 h3
  subst h2
  exact World.ownsRow.frozenAt h.2 j
theorem Own.ge {g m c : Nat} (h : Own w1 w e size (.slice (some ⟨g, 0, none⟩) m c) n xs) : w1.heap.size ≤ g := (World.ownsRow.lt h.2 g rfl).1
theorem Own.store {g m c : Nat} (h : Own w1 w e size (.slice (some ⟨g, 0, none⟩) m c) n xs) (j : Nat) (u : Value) : Own w1 (w.setCell ⟨g, j, none⟩ u) e size (.slice (some ⟨g, 0, none⟩) m c) n (xs.set j u) := by
  obtain ⟨A', c', hv⟩ := h.form
  injection hv with h1 h2 h3
  subst h2
  exact ⟨h.1.setCell h.ge u, (World.ownsRow.stored h.2 j u).1⟩
/-- A store elsewhere, among what is new since w1. -/
theorem Own.other {p : Addr} (h : Own w1 w e size v n xs) (hp : w1.heap.size ≤ p.block) (hne : v.ownBlock ≠ some p.block) (u : Value) : Own w1 (w.setCell p u) e size v n xs :=
  ⟨h.1.setCell hp u, ownsRow_setCell_other h.2 hne u⟩
/-- Own since w1 is own since before. -/
theorem Own.since {w0 : World} (h : Own w1 w e size v n xs) (he : Ext w0 w1) : Own w0 w e size v n xs := by
  refine ⟨he.trans h.1, h.2.1, ?_⟩
  rcases h.2.2 with h1 | ⟨g, cap, cur, rfl, hb, r⟩
  · exact .inl h1
  · exact .inr ⟨g, cap, cur, rfl, Nat.le_trans he.le hb, r⟩
theorem Own.lit (he : Ext w1 w) (cs : Array Value) (n : Nat) (hm : n ≤ maxLen) (hs : cs.size = n * size) : Own w1 (w.alloc (.cells cs e)) e size (.slice (some ⟨w.heap.size, 0, none⟩) n n) n cs.toList :=
  ⟨he.trans (by simp), World.ownsRow_lit w cs n he.le hm hs⟩
end

theorem OwnI.ints {w1 w : World} {A : Option Addr} {m c : Nat} {xs : List Int} (h : OwnI w1 w (.slice A m c) xs) : Ints w A xs := Own.row h

section
variable {ops : Array Oper} {rest : List Oper} {o : Oper} {a : Act} {Q : Exit → Act → World → Prop} {w1 w : World} {e : TypeId} {z : Value} {size bytes : Nat}

/-- 'make([]T, n)'. -/
theorem own_make (hE : ElemInfo e z size bytes) (hg : o.guard = none) (l : Operand) (t : TypeId) (hop : o.op = Op.makeSlice t l l) (ht : Try.prog.underlying t = some (.slice e)) (L : Int) (n : Nat) (hl : a.eval l = .int .i64 L) (hL : L = (n : Int))
    (hb : bytes * n ≤ 281474976710656) (hn : n ≤ maxLen) (he : Ext w1 w)
    (hK : ∀ w', Own w1 w' e size (.slice (some ⟨w.heap.size, 0, none⟩) n n) n (madeCells z.cells (n * size)).toList → Ext w w' → wpList Try.prog ops Q rest (a.put o.dst (.slice (some ⟨w.heap.size, 0, none⟩) n n)) w') :
    wpList Try.prog ops Q (o :: rest) a w := by
  obtain ⟨i, hi, hz0, hz1, hz2⟩ := hE.info
  refine wpList_make_full w hg l l t hop w1.heap.size e i z size ht hi hz0 hz1 .i64 .i64 L L n hl hl hL hL (by rw [hz2]; exact hb) hn he.le fun w' h1 h2 => ?_
  have hx : Ext w w' := (Ext.refl w).grown h2 (fun k hk => by cases hk)
  exact hK w' ⟨he.trans hx, h1⟩ hx

/-- 'append(out, x)', out the call's own: the new cell has just been laid. -/
theorem own_append (hE : ElemInfo e z size bytes) (hg : o.guard = none) (s x : Operand) (t : TypeId) (hop : o.op = .call { callee := .builtin .append, args := #[s, x], argTypes := #[t, t] }) (ht : Try.prog.underlying t = some (.slice e))
    (v : Value) (n : Nat) (xs : List Value) (hs : a.eval s = v) (hown : Own w1 w e size v n xs) (cs : Array Value) (m : Nat) (hx : a.eval x = .slice (some ⟨w.heap.size, 0, none⟩) m m) (hl : cs.size = m * size) (h1 : ∀ u ∈ cs.toList, u.oneCell' = true)
    (hn : (n + m) * bytes ≤ 140737488355328) (hn2 : n + m ≤ maxLen)
    (hK : ∀ v' w', Own w1 w' e size v' (n + m) (xs ++ cs.toList) → (v' = .slice none 0 0 ↔ v = .slice none 0 0 ∧ m = 0) → wpList Try.prog ops Q rest (a.put o.dst v') w') :
    wpList Try.prog ops Q (o :: rest) a (w.alloc (.cells cs e)) := by
  obtain ⟨i, hi, hz0, hz1, hz2⟩ := hE.info
  refine wpList_append_own (w.alloc (.cells cs e)) hg s x t hop w1.heap.size e i z size bytes ht hi hz0 hz1 hz2 hE.zs hE.pos v n xs hs (hown.2.alloc _) ⟨w.heap.size, 0, none⟩ m m cs.toList hx (by simpa using hl) (fun j u hu => ?_) h1 hn2 hn (by have := hown.1.le; simp; omega) fun v' w' h2 h3 h4 => ?_
  · have hadd : (⟨w.heap.size, 0, none⟩ : Addr).add j = ⟨w.heap.size, j, none⟩ := by unfold Addr.add; split <;> simp_all
    rw [hadd, World.cell?_alloc_at _ _ _ _ rfl]
    simpa using hu
  · refine hK v' w' ⟨?_, h2⟩ h4
    exact (hown.1.trans (Ext.alloc (Ext.refl w) _)).grown h3 (fun k hk => (hown.2.lt k hk).1)

/-- 'append(out, xs...)', out the call's own, xs anywhere. -/
theorem own_append_src (hE : ElemInfo e z size bytes) (hg : o.guard = none) (s x : Operand) (t : TypeId) (hop : o.op = .call { callee := .builtin .append, args := #[s, x], argTypes := #[t, t] }) (ht : Try.prog.underlying t = some (.slice e))
    (v : Value) (n : Nat) (xs : List Value) (hs : a.eval s = v) (hown : Own w1 w e size v n xs) (ad : Addr) (m c : Nat) (news : List Value) (hx : a.eval x = .slice (some ad) m c) (hl : news.length = m * size) (hr : Row w (some ad) news) (h1 : ∀ u ∈ news, u.oneCell' = true)
    (hn : (n + m) * bytes ≤ 140737488355328) (hn2 : n + m ≤ maxLen)
    (hK : ∀ v' w', Own w1 w' e size v' (n + m) (xs ++ news) → w.grownBy w' v.ownBlock → wpList Try.prog ops Q rest (a.put o.dst v') w') :
    wpList Try.prog ops Q (o :: rest) a w := by
  obtain ⟨i, hi, hz0, hz1, hz2⟩ := hE.info
  refine wpList_append_own w hg s x t hop w1.heap.size e i z size bytes ht hi hz0 hz1 hz2 hE.zs hE.pos v n xs hs hown.2 ad m c news hx hl (fun j u hu => ?_) h1 hn2 hn hown.1.le fun v' w' h2 h3 h4 => ?_
  · have hj := (List.getElem?_eq_some_iff.1 hu).1
    obtain ⟨ad', he, hc⟩ := hr j hj
    rw [Option.some.inj he]
    exact hc.trans hu
  · exact hK v' w' ⟨hown.1.grown h3 (fun k hk => (hown.2.lt k hk).1), h2⟩ h3

/-- .. one number. -/
theorem own_append_int (hg : o.guard = none) (s x : Operand) (hop : o.op = .call { callee := .builtin .append, args := #[s, x], argTypes := #[22, 22] })
    (v : Value) (n : Nat) (xs : List Value) (hs : a.eval s = v) (hown : Own w1 w 3 1 v n xs) (y : Int) (hx : a.eval x = .slice (some ⟨w.heap.size, 0, none⟩) 1 1) (hn : n ≤ 1000000)
    (hK : ∀ v' w', Own w1 w' 3 1 v' (n + 1) (xs ++ [vint y]) → wpList Try.prog ops Q rest (a.put o.dst v') w') :
    wpList Try.prog ops Q (o :: rest) a (w.alloc (.cells #[.int .i64 y] 3)) :=
  own_append int_elem hg s x 22 hop Try.underlying22 v n xs hs hown #[.int .i64 y] 1 hx rfl (by intro u hu; simp at hu; subst hu; rfl) (by omega) (by unfold maxLen; omega) fun v' w' h _ => hK v' w' h
end
end Go.Proofs.Ytbclbcldplmppaa
