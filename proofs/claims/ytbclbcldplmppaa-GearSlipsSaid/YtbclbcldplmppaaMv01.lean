/- Worlds that only grow, and regions whose operations read, call functions that only make new memory, and make new memory: one walk of the text's order serves every order. No program in sight. -/
import Derived.Test.YtbclbcldplmppaaProg
import Derived.WalkKit
import Derived.Deep.QuietTactic
import Derived.BigQuiet
import Derived.StillTailTactics
import Derived.WalkSpells
import Derived.Lib.Hide
import Derived.WalkLawsBesides
import Derived.WalkSmall
import Derived.Deep.LoopGhost
import Derived.Test.YtbclbcldplmppaaRows
import Derived.ProofKit
import Derived.OpenShut
import Derived.ChangeOld
import Derived.Below
import Derived.Deep.Slices
import Derived.Deep.Fields
import Derived.ChangeSame
import Derived.Lib.SmallJoins
namespace Go.Proofs.Ytbclbcldplmppaa
open Go.RowKit

/-- w' holds all that w holds. -/
def Ext (w w' : World) : Prop := Below w.heap.size w w'

section
variable {w w' a b c : World}
@[simp, go_sem] theorem Ext.refl (w : World) : Ext w w := Below.refl _ _
theorem Ext.trans (h : Ext a b) (k : Ext b c) : Ext a c := Below.trans h (Below.mono k h.size)
theorem Ext.le (h : Ext a b) : a.heap.size ≤ b.heap.size := Below.size h
@[simp, go_sem] theorem Ext.drew (h : Ext a w) : Ext a w.drew := Below.drew h
@[simp, go_sem] theorem Ext.drewN (h : Ext a w) (n : Nat) : Ext a (w.drewN n) := ⟨h.os, h.tape, h.output, h.size, h.block⟩
theorem Ext.drawn (h : Ext a w) (n : Nat) : Ext a { w with drawn := n } := ⟨h.os, h.tape, h.output, h.size, h.block⟩
@[simp, go_sem] theorem Ext.alloc (h : Ext a w) (o : Obj) : Ext a (w.alloc o) := Below.alloc h h.size o
theorem Ext.setCell (h : Ext a w) {p : Addr} (hp : a.heap.size ≤ p.block) (u : Value) : Ext a (w.setCell p u) := Below.setCell h hp u
theorem Ext.grown {row : Option Nat} (h : Ext a w) (hg : w.grownBy w' row) (hr : ∀ k, row = some k → a.heap.size ≤ k) : Ext a w' := Below.grown h hg h.size hr
theorem Ext.cell {p : Addr} {v : Value} (h : Ext a w) (hc : a.cell? p = some v) : w.cell? p = some v := by
  rw [Below.cell h (World.block_lt_of_cell? _ _ hc)]; exact hc
theorem Ext.cells {p : Addr} {v : Value} (hc : a.cell? p = some v) : ∀ w, Ext a w → w.cell? p = some v := fun _ h => h.cell hc
theorem Ext.frozen {p : Addr} (h : Ext a w) (hp : p.block < a.heap.size) : w.frozen? p = a.frozen? p := Below.frozen h hp
theorem Ext.heap {k : Nat} {o : Obj} (h : Ext a w) (hk : a.heap[k]? = some o) : w.heap[k]? = some o :=
  (h.block k (Array.getElem?_eq_some_iff.1 hk).1).trans hk
theorem Ext.owns {base : Nat} {e : TypeId} {size : Nat} {v : Value} {n : Nat} {xs : List Value} (h : Ext a w) (ho : a.ownsRow base e size v n xs) : w.ownsRow base e size v n xs := by
  refine ⟨ho.1, ?_⟩
  rcases ho.2 with h1 | ⟨g, cap, cur, hv, hg, hh, r⟩
  · exact .inl h1
  · exact .inr ⟨g, cap, cur, hv, hg, h.heap hh, r⟩
end


/-- A world that holds what w0 holds. -/
structure Later (w0 : World) where
  w : World
  ext : Ext w0 w
@[simp, go_sem] theorem Later.ext_ {w0 : World} (x : Later w0) : Ext w0 x.w := x.ext

instance (w0 : World) : Nonempty (Later w0) := ⟨⟨w0, Ext.refl w0⟩⟩

theorem wrap_nat (n : Nat) (h : n ≤ 9223372036854775807) : IntKind.i64.wrap (n : Int) = (n : Int) := by rw [IntKind.wrap_i64]; omega

/-! ### The theory -/

abbrev Fx := Nat → World → Prop
def Fx.put (F : Fx) (i : Nat) (R : World → Prop) : Fx := fun k w => F k w ∧ (k = i → R w)

def befB (ops : Array Oper) : Nat → Nat → Nat → Bool
  | 0, _, _ => false
  | n + 1, j, k => match ops[j]? with
    | some o => o.after.any fun e => Region.binds .any e && (e.on == k || befB ops n e.on k)
    | none => false

def facts (ops : Array Oper) (F : Fx) (j : Nat) (w : World) : Prop := ∀ k, befB ops 3 j k = true → F k w

def Sat (w0 : World) (F : Fx) : Prop := ∃ w, Ext w0 w ∧ ∀ k, F k w

abbrev Spec := Nat → Array Value → Value → World → Prop

def calmUpon (P : Program) (w : World) (Sj : Array Value → Value → World → Prop) : Result Next → Prop
  | .ok (.value _) w' => Ext w w'
  | .ok .skip w' => Ext w w'
  | .ok (.enter f args) w' => Calls P f args w' (fun e w'' => ∃ v, e = .returned v ∧ Ext w w'' ∧ Sj args v w'')
  | _ => False

def gives (Sj : Array Value → Value → World → Prop) (v : Value) (w' : World) : Result Next → Prop
  | .ok (.value u) w2 => v = u ∧ Ext w2 w'
  | .ok .skip w2 => v = undef ∧ Ext w2 w'
  | .ok (.enter _ args) _ => Sj args v w'
  | _ => False

section
variable (P : Program) (ops : Array Oper) (S : Spec) (w0 : World)

def Rel (x : Sem Next) (fj : World → Prop) (Sj : Array Value → Value → World → Prop) (v : Value) (w' : World) : Prop :=
  ∃ w1, Ext w0 w1 ∧ fj w1 ∧ gives Sj v w' (x.run P w1)

def YC (j : Nat) (o : Oper) (a : Act) (F : Fx) : Prop :=
  Region.wanted o (yielded ops a.tmps) = true → ∀ w, Ext w0 w → facts ops F j w → calmUpon P w (S j) ((execOp a.eval o).run P w)

def Cont (j : Nat) (o : Oper) (a : Act) (F : Fx) (K : Act → Fx → Prop) : Prop :=
  (Region.wanted o (yielded ops a.tmps) = true → ∀ v, Sat w0 (F.put j (Rel P w0 (execOp a.eval o) (facts ops F j) (S j) v)) →
    K (a.put o.dst v) (F.put j (Rel P w0 (execOp a.eval o) (facts ops F j) (S j) v))) ∧
  (Region.wanted o (yielded ops a.tmps) = false → K (a.put o.dst undef) F)

def cOp (j : Nat) (K : Act → Fx → Prop) (a : Act) (F : Fx) : Prop :=
  ∃ o, ops[j]? = some o ∧ YC P ops S w0 j o a F ∧ Cont P ops S w0 j o a F K

def wpCalm (Q : Act → Fx → Prop) : List Oper → Nat → Act → Fx → Prop
  | [], _, a, F => Q a F
  | o :: rest, k, a, F => YC P ops S w0 k o a F ∧ Cont P ops S w0 k o a F (wpCalm Q rest (k + 1))

def wpAnyC (n : Nat) (L : Array Bool → Act → Fx → Prop) : Nat → Array Bool → Act → Fx → Prop
  | 0, listed, a, F => L listed a F
  | f + 1, listed, a, F =>
    Region.ready .any ops listed ≠ [] ∧ ∀ i ∈ Region.ready .any ops listed, i < n ∧ cOp P ops S w0 i (wpAnyC n L f (listed.setIfInBounds i true)) a F
end

def StableF (F : Fx) : Prop := ∀ k w w', Ext w w' → F k w → F k w'
def StableS (S : Spec) : Prop := ∀ j args v w w', Ext w w' → S j args v w → S j args v w'

section
variable {P : Program} {ops : Array Oper} {S : Spec} {w0 : World}

theorem gives_stable {Sj : Array Value → Value → World → Prop} (hS : ∀ args v w w', Ext w w' → Sj args v w → Sj args v w') {v : Value} {w w' : World} {r : Result Next} (he : Ext w w') (h : gives Sj v w r) : gives Sj v w' r := by
  unfold gives at *
  split at h
  · exact ⟨h.1, h.2.trans he⟩
  · exact ⟨h.1, h.2.trans he⟩
  · exact hS _ _ _ _ he h
  · exact h.elim

theorem StableF.put {F : Fx} (h : StableF F) {i : Nat} {R : World → Prop} (hR : ∀ w w', Ext w w' → R w → R w') : StableF (F.put i R) :=
  fun k w w' he hk => ⟨h k w w' he hk.1, fun e => hR _ _ he (hk.2 e)⟩

theorem rel_stable (hS : StableS S) {x : Sem Next} {fj : World → Prop} {j : Nat} {v : Value} : ∀ w w', Ext w w' → Rel P w0 x fj (S j) v w → Rel P w0 x fj (S j) v w' :=
  fun _ _ he ⟨w1, h1, h2, h3⟩ => ⟨w1, h1, h2, gives_stable (hS j) he h3⟩

/-- From an actual world: the operation runs, and what comes out is related. -/
theorem wp_of_calm {o : Oper} {a : Act} {w : World} {j : Nat} {fj : World → Prop} {K' : Act → World → Prop} {Q' : Exit → Act → World → Prop}
    (he : Ext w0 w) (hf : fj w) (hu : calmUpon P w (S j) ((execOp a.eval o).run P w))
    (h : ∀ v w', Ext w w' → Rel P w0 (execOp a.eval o) fj (S j) v w' → K' (a.put o.dst v) w') : o.wp P a w K' Q' := by
  have h' : ∀ v w', Ext w w' → gives (S j) v w' ((execOp a.eval o).run P w) → K' (a.put o.dst v) w' := fun v w' h1 h2 => h v w' h1 ⟨w, he, hf, h2⟩
  clear h
  unfold Oper.wp
  generalize (execOp a.eval o).run P w = r at *
  cases r with
  | ok n w' =>
    cases n <;> simp only [calmUpon] at hu <;> simp only [Oper.upon]
    case value u => exact h' _ _ hu ⟨rfl, Ext.refl _⟩
    case skip => exact h' _ _ hu ⟨rfl, Ext.refl _⟩
    case enter f args => exact hu.mono fun e w'' ⟨v, he', hx, hs⟩ => by subst he'; exact h' _ _ hx hs
  | halt x w' => simp only [calmUpon] at hu

/-- There is a value that comes out. -/
theorem exists_of_calm {x : Sem Next} {w : World} {j : Nat} {fj : World → Prop} (he : Ext w0 w) (hf : fj w) (hu : calmUpon P w (S j) (x.run P w)) :
    ∃ v w', Ext w w' ∧ Rel P w0 x fj (S j) v w' := by
  have key : ∃ v w', Ext w w' ∧ gives (S j) v w' (x.run P w) := by
    generalize x.run P w = r at *
    cases r with
    | ok n w' =>
      cases n <;> simp only [calmUpon] at hu
      case value u => exact ⟨u, w', hu, rfl, Ext.refl _⟩
      case skip => exact ⟨undef, w', hu, rfl, Ext.refl _⟩
      case enter f args =>
        obtain ⟨e, w'', _, ⟨v, _, hx, hs⟩, _⟩ := hu []
        exact ⟨v, w'', hx, hs⟩
    | halt x w' => simp only [calmUpon] at hu
  obtain ⟨v, w', h1, h2⟩ := key
  exact ⟨v, w', h1, w, he, hf, h2⟩

theorem wpOp_of_cOp {j : Nat} {a : Act} {F : Fx} {w : World} {K : Act → Fx → Prop} {K' : Act → World → Prop} {Q' : Exit → Act → World → Prop} (hS : StableS S)
    (he : Ext w0 w) (hF : ∀ k, F k w) (hst : StableF F) (h : ∀ a F w', Ext w0 w' → (∀ k, F k w') → StableF F → K a F → K' a w') (hc : cOp P ops S w0 j K a F) : wpOp P ops Q' j K' a w := by
  obtain ⟨o, ho, hy, hn⟩ := hc
  unfold wpOp
  simp only [ho]
  cases hw : Region.wanted o (yielded ops a.tmps) with
  | true =>
    simp only [if_true]
    refine .inl (wp_of_calm (S := S) (j := j) (fj := facts ops F j) he (fun k _ => hF k) (hy hw w he (fun k _ => hF k)) fun v w' hx hr => ?_)
    have hx0 := he.trans hx
    have hF' : ∀ k, (F.put j (Rel P w0 (execOp a.eval o) (facts ops F j) (S j) v)) k w' := fun k => ⟨hst _ _ _ hx (hF k), fun _ => hr⟩
    exact h _ _ _ hx0 hF' (hst.put (rel_stable hS)) (hn.1 hw v ⟨w', hx0, hF'⟩)
  | false =>
    simp only [Bool.false_eq_true, if_false]
    exact h _ _ _ he hF hst (hn.2 hw)

theorem wpAny_of_headC {n g : Nat} {L : Array Bool → Act → Fx → Prop} {Q' : Exit → Act → World → Prop} (hS : StableS S)
    (hL : ∀ listed a F w, Ext w0 w → (∀ k, F k w) → L listed a F → wpAny P .any ops Q' g listed a w) :
    ∀ (f : Nat) (listed : Array Bool) (a : Act) (F : Fx) (w : World), Ext w0 w → (∀ k, F k w) → StableF F → wpAnyC P ops S w0 n L f listed a F → wpAny P .any ops Q' (f + g) listed a w
  | 0, listed, a, F, w, he, hF, _, h => by rw [Nat.zero_add]; exact hL _ _ _ _ he hF h
  | f + 1, listed, a, F, w, he, hF, hst, h => by
    rw [show f + 1 + g = (f + g) + 1 by omega]
    exact ⟨fun h0 => absurd h0 h.1, fun i hi => wpOp_of_cOp hS he hF hst (fun a' F' w' he' hF' hst' h' => wpAny_of_headC hS hL f _ a' F' w' he' hF' hst' h') (h.2 i hi).2⟩

theorem befB_listed {listed : Array Bool} (hcl : ∀ j oj, ops[j]? = some oj → listed.getD j false = true → ∀ e ∈ oj.after, Region.binds .any e = true → listed.getD e.on false = true) :
    ∀ (n j k : Nat), (∀ oj, ops[j]? = some oj → ∀ e ∈ oj.after, Region.binds .any e = true → listed.getD e.on false = true) → befB ops n j k = true → listed.getD k false = true
  | 0, _, _, _, h => by cases h
  | n + 1, j, k, hj, h => by
    unfold befB at h
    split at h
    · rename_i o ho
      obtain ⟨e, he, hb⟩ := Array.any_eq_true'.1 h
      simp only [Bool.and_eq_true, Bool.or_eq_true, beq_iff_eq] at hb
      have hl := hj o ho e he hb.1
      rcases hb.2 with h1 | h1
      · rw [← h1]; exact hl
      · exact befB_listed hcl n e.on k (fun oj hoj e' he' hb' => hcl e.on oj hoj hl e' he' hb') h1
    · cases h

theorem facts_put {F : Fx} {i j : Nat} {R : World → Prop} (h : befB ops 3 j i = false) : facts ops (F.put i R) j = facts ops F j := by
  funext w
  apply propext
  constructor
  · exact fun hh k hk => (hh k hk).1
  · exact fun hh k hk => ⟨hh k hk, fun e => by subst e; rw [h] at hk; cases hk⟩

theorem Fx.put_comm (F : Fx) (i j : Nat) (R T : World → Prop) : (F.put i R).put j T = (F.put j T).put i R := by
  funext k w
  apply propext
  constructor
  · rintro ⟨⟨h1, h2⟩, h3⟩; exact ⟨⟨h1, h3⟩, h2⟩
  · rintro ⟨⟨h1, h2⟩, h3⟩; exact ⟨⟨h1, h3⟩, h2⟩

structure InvC (ops : Array Oper) (n : Nat) (listed : Array Bool) : Prop where
  head : HeadInv .any ops n listed

theorem not_bef {n i j : Nat} {listed : Array Bool} (inv : HeadInv .any ops n listed) (hj : j ∈ Region.ready .any ops listed) (hi : listed.getD i true = false) : befB ops 3 j i = false := by
  cases h : befB ops 3 j i with
  | false => rfl
  | true =>
    obtain ⟨_, oj, hoj, hall⟩ := mem_ready.1 hj
    have := befB_listed inv.closed 3 j i (fun o ho e he hb => by
      have : o = oj := Option.some.inj (ho.symm.trans hoj)
      subst this
      exact hall e he hb) h
    rw [getD_both hi] at this
    cases this

theorem wpAnyC_first {n i : Nat} {oi : Oper} {L : Array Bool → Act → Fx → Prop} (hS : StableS S) (hi : ops[i]? = some oi) (hsel : ∀ (j : Nat) (o : Oper) cs b, ops[j]? = some o → o.op ≠ .select cs b)
    (htail : ∀ listed, HeadInv .any ops n listed → ∀ i, i < n → listed.getD i true = false → ∀ t, n ≤ t → t ∉ Region.ready .any ops listed) (hin : i < n)
    (hdone : ∀ listed a F, L listed a F → ∀ j ∈ Region.ready .any ops listed, n ≤ j) :
    ∀ (f : Nat) (listed : Array Bool) (a : Act) (F : Fx), HeadInv .any ops n listed →
      (∀ j oj, ops[j]? = some oj → j ≠ i → listed.getD j true = false → (∀ e ∈ oj.after, Region.binds .any e = true → e.on ≠ i) → oi.apart ops oj = true) →
      i ∈ Region.ready .any ops listed → Sat w0 F → StableF F → YC P ops S w0 i oi a F →
      Cont P ops S w0 i oi a F (wpAnyC P ops S w0 n L f (listed.setIfInBounds i true)) → wpAnyC P ops S w0 n L (f + 1) listed a F := by
  intro f
  induction f with
  | zero =>
    intro listed a F inv _ hr hsat hst hy H
    have hun := (mem_ready.1 hr).1
    refine ⟨fun h => (by rw [h] at hr; cases hr), fun j hj => ?_⟩
    have hjn : j < n := by
      rcases Nat.lt_or_ge j n with h | h
      · exact h
      · exact absurd hj (htail listed inv i hin hun j h)
    refine ⟨hjn, ?_⟩
    by_cases hji : j = i
    · subst hji; exact ⟨oi, hi, hy, H⟩
    · exfalso
      have hL : ∃ a' F', L (listed.setIfInBounds i true) a' F' := by
        cases hw : Region.wanted oi (yielded ops a.tmps) with
        | true =>
          obtain ⟨w, he, hF⟩ := hsat
          obtain ⟨v, w', hx, hrel⟩ := exists_of_calm (fj := facts ops F i) he (fun k _ => hF k) (hy hw w he (fun k _ => hF k))
          exact ⟨_, _, H.1 hw v ⟨w', he.trans hx, fun k => ⟨hst _ _ _ hx (hF k), fun _ => hrel⟩⟩⟩
        | false => exact ⟨_, _, H.2 hw⟩
      obtain ⟨a', F', hl⟩ := hL
      have := hdone _ _ _ hl j (ready_mono hj hji)
      omega
  | succ f ih =>
    intro listed a F inv hfree hr hsat hst hy H
    have hun := (mem_ready.1 hr).1
    refine ⟨fun h => (by rw [h] at hr; cases hr), fun j hj => ?_⟩
    have hjn : j < n := by
      rcases Nat.lt_or_ge j n with h | h
      · exact h
      · exact absurd hj (htail listed inv i hin hun j h)
    refine ⟨hjn, ?_⟩
    by_cases hji : j = i
    · subst hji; exact ⟨oi, hi, hy, H⟩
    · obtain ⟨hjun, oj, hoj, hall⟩ := mem_ready.1 hj
      have hnot : ∀ e ∈ oj.after, Region.binds .any e = true → e.on ≠ i := fun e he hb heq => by
        have h1 := hall e he hb
        rw [heq, getD_both hun] at h1
        cases h1
      obtain ⟨p1, p2, p3⟩ := Oper.apart_spec (hfree j oj hoj hji hjun hnot)
      have hsi := fun cs b => hsel i oi cs b hi
      have hsj := fun cs b => hsel j oj cs b hoj
      have bji : befB ops 3 j i = false := not_bef inv hj hun
      have bij : befB ops 3 i j = false := not_bef inv hr hjun
      -- what the head's continuation says of operation j behind operation i, at whatever value
      have after_i : ∀ a' F', wpAnyC P ops S w0 n L (f + 1) (listed.setIfInBounds i true) a' F' → YC P ops S w0 j oj a' F' ∧ Cont P ops S w0 j oj a' F' (wpAnyC P ops S w0 n L f ((listed.setIfInBounds i true).setIfInBounds j true)) := by
        intro a' F' h
        obtain ⟨_, o, ho, h1, h2⟩ := h.2 j (ready_mono hj hji)
        have : o = oj := Option.some.inj (ho.symm.trans hoj)
        subst this
        exact ⟨h1, h2⟩
      have wj : ∀ u, Region.wanted oj (yielded ops (a.put oi.dst u).tmps) = Region.wanted oj (yielded ops a.tmps) := fun u => wanted_put oj a oi.dst u p1
      have xj : ∀ u, execOp (a.put oi.dst u).eval oj = execOp a.eval oj := fun u => execOp_put oj hsj a oi.dst u p1
      have wi : ∀ u, Region.wanted oi (yielded ops (a.put oj.dst u).tmps) = Region.wanted oi (yielded ops a.tmps) := fun u => wanted_put oi a oj.dst u p3
      have xi : ∀ u, execOp (a.put oj.dst u).eval oi = execOp a.eval oi := fun u => execOp_put oi hsi a oj.dst u p3
      -- operation j yields now, too
      have yj : YC P ops S w0 j oj a F := by
        intro hwj
        cases hw : Region.wanted oi (yielded ops a.tmps) with
        | true =>
          obtain ⟨w, he, hF⟩ := hsat
          obtain ⟨v, w', hx, hrel⟩ := exists_of_calm (fj := facts ops F i) he (fun k _ => hF k) (hy hw w he (fun k _ => hF k))
          have h1 := (after_i _ _ (H.1 hw v ⟨w', he.trans hx, fun k => ⟨hst _ _ _ hx (hF k), fun _ => hrel⟩⟩)).1
          unfold YC at h1
          rw [wj, xj, facts_put bji] at h1
          exact h1 hwj
        | false =>
          have h1 := (after_i _ _ (H.2 hw)).1
          unfold YC at h1
          rw [wj, xj] at h1
          exact h1 hwj
      have hfree' : ∀ k ok, ops[k]? = some ok → k ≠ i → (listed.setIfInBounds j true).getD k true = false →
          (∀ e ∈ ok.after, Region.binds .any e = true → e.on ≠ i) → oi.apart ops ok = true := fun k ok hk hki hun' hno => by
        refine hfree k ok hk hki ?_ hno
        by_cases hjk : j = k
        · subst hjk; exact hjun
        · rw [getD_set_ne true hjk] at hun'; exact hun'
      refine ⟨oj, hoj, yj, fun hwj u hsu => ?_, fun hwj => ?_⟩
      · -- operation j is taken, with u
        generalize hFj : F.put j (Rel P w0 (execOp a.eval oj) (facts ops F j) (S j) u) = Fj at *
        have hfi : facts ops Fj i = facts ops F i := by rw [← hFj]; exact facts_put bij
        have hstj : StableF Fj := by rw [← hFj]; exact hst.put (rel_stable hS)
        refine ih (listed.setIfInBounds j true) (a.put oj.dst u) Fj (inv.set hj hjn) hfree' (ready_mono hr (Ne.symm hji)) hsu hstj ?_ ⟨fun hwi v hsv => ?_, fun hwi => ?_⟩
        · unfold YC
          rw [wi, xi, hfi]
          exact hy
        · rw [wi] at hwi
          rw [xi, hfi] at hsv ⊢
          obtain ⟨w, he, hw⟩ := hsv
          have hsi : Sat w0 (F.put i (Rel P w0 (execOp a.eval oi) (facts ops F i) (S i) v)) := by
            refine ⟨w, he, fun k => ⟨?_, fun e => (hw k).2 e⟩⟩
            have := (hw k).1
            rw [← hFj] at this
            exact this.1
          have h2 := (after_i _ _ (H.1 hwi v hsi)).2.1
          rw [wj, xj, facts_put bji] at h2
          have h3 := h2 hwj u ⟨w, he, fun k => ⟨⟨by have := (hw k).1; rw [← hFj] at this; exact this.1, fun e => (hw k).2 e⟩, fun e => by have := (hw k).1; rw [← hFj] at this; exact this.2 e⟩⟩
          rw [Array.setIfInBounds_comm _ _ hji, ← hFj, Fx.put_comm, Act.put_comm a u v (fun d hd hd' => p2 d hd' hd)]
          exact h3
        · rw [wi] at hwi
          have h2 := (after_i _ _ (H.2 hwi)).2.1
          rw [wj, xj] at h2
          have h3 := h2 hwj u (by rw [hFj]; exact hsu)
          rw [Array.setIfInBounds_comm _ _ hji, ← hFj, Act.put_comm a u undef (fun d hd hd' => p2 d hd' hd)]
          exact h3
      · refine ih (listed.setIfInBounds j true) (a.put oj.dst undef) F (inv.set hj hjn) hfree' (ready_mono hr (Ne.symm hji)) hsat hst ?_ ⟨fun hwi v hsv => ?_, fun hwi => ?_⟩
        · unfold YC
          rw [wi, xi]
          exact hy
        · rw [wi] at hwi
          rw [xi] at hsv ⊢
          have h2 := (after_i _ _ (H.1 hwi v hsv)).2.2
          rw [wj] at h2
          have h3 := h2 hwj
          rw [Array.setIfInBounds_comm _ _ hji, Act.put_comm a undef v (fun d hd hd' => p2 d hd' hd)]
          exact h3
        · rw [wi] at hwi
          have h2 := (after_i _ _ (H.2 hwi)).2.2
          rw [wj] at h2
          have h3 := h2 hwj
          rw [Array.setIfInBounds_comm _ _ hji, Act.put_comm a undef undef (fun d hd hd' => p2 d hd' hd)]
          exact h3
end

/-! ### The order of the text, and a tail that is forced -/

section
variable {P : Program} {ops : Array Oper} {S : Spec} {w0 : World}

/-- 'lexTailB' (Derived/StillTail.lean) with a tail, or with none. -/
def calmB (ops : Array Oper) (n : Nat) : Bool :=
  Region.noSelect ops && (decide (n = ops.size) || (decide (n < ops.size) && Region.sinkB .any ops n && Region.chainB .any ops n)) && Region.lexHead .any ops (ops.size - n) n 0 (Array.replicate ops.size false)

theorem calm_tail {n : Nat} (h : n = ops.size ∨ (n < ops.size ∧ Region.sinkB .any ops n = true ∧ Region.chainB .any ops n = true)) :
    ∀ listed, HeadInv .any ops n listed → ∀ i, i < n → listed.getD i true = false → ∀ t, n ≤ t → t ∉ Region.ready .any ops listed := by
  intro listed inv i hi hun t ht
  rcases h with h | ⟨h1, h2, h3⟩
  · intro hr
    obtain ⟨_, o, ho, _⟩ := mem_ready.1 hr
    have := (Array.getElem?_eq_some_iff.1 ho).1
    omega
  · exact tail_waits h2 h3 h1 inv _ i rfl hi hun t ht

theorem Cont.sat {K K' : Act → Fx → Prop} {j : Nat} {o : Oper} {a : Act} {F : Fx} (hS : StableS S) (hst : StableF F) (h : ∀ a F, Sat w0 F → StableF F → K a F → K' a F) (hs : Sat w0 F) (hc : Cont P ops S w0 j o a F K) : Cont P ops S w0 j o a F K' :=
  ⟨fun hw v hv => h _ _ hv (hst.put (rel_stable hS)) (hc.1 hw v hv), fun hw => h _ _ hs hst (hc.2 hw)⟩

theorem wpAnyC_lex {n g : Nat} {Lq : Act → Fx → Prop} (hS : StableS S) (hsel : Region.noSelect ops = true)
    (htail : ∀ listed, HeadInv .any ops n listed → ∀ i, i < n → listed.getD i true = false → ∀ t, n ≤ t → t ∉ Region.ready .any ops listed) :
    ∀ (l : List Oper) (k : Nat) (listed : Array Bool) (a : Act) (F : Fx), (∀ j, j < l.length → l[j]? = ops[k + j]?) → k + l.length = n → HeadInv .any ops n listed →
    Region.lexHead .any ops g l.length k listed = true → Sat w0 F → StableF F → wpCalm P ops S w0 Lq l k a F →
    wpAnyC P ops S w0 n (fun listed' a' F' => Region.seqB .any ops g n listed' = true ∧ Lq a' F') l.length listed a F
  | [], k, listed, a, F, _, hk, _, hB, _, _, h => by
    have : k = n := by simpa using hk
    subst this
    exact ⟨by simpa [Region.lexHead] using hB, h⟩
  | o :: l, k, listed, a, F, hl, hk, inv, hB, hs, hst, h => by
    have h0 : ops[k]? = some o := by simpa using (hl 0 (by simp)).symm
    simp only [List.length_cons, Region.lexHead, Bool.and_eq_true] at hB
    obtain ⟨⟨hr, hf⟩, hB'⟩ := hB
    have hkn : k < n := by simp only [List.length_cons] at hk; omega
    have hr' : k ∈ Region.ready .any ops listed := by simpa using hr
    refine wpAnyC_first hS h0 (Region.noSelect_spec hsel) htail hkn (fun listed' a' F' hL => seqB_ready hL.1) l.length listed a F inv (Region.free_spec h0 hf) hr' hs hst h.1 ?_
    exact Cont.sat hS hst (fun a' F' hs' hst' hK => wpAnyC_lex hS hsel htail l (k + 1) _ a' F' (fun j hj => by have := hl (j + 1) (by simp; omega); simpa [Nat.add_assoc, Nat.add_comm 1 j] using this)
      (by simp only [List.length_cons] at hk; omega) (inv.set hr' hkn) hB' hs' hst' hK) hs h.2

theorem wp_region_calm {id : Nat} {Q : Exit → Act → World → Prop} {a : Act} {w : World} {l : List Oper} (n : Nat) (S : Spec) (hS : StableS S) (hm : P.follows .mixedOrders = true) (hB : calmB l.toArray n = true)
    (h : wpCalm P l.toArray S w (fun a' F => ∀ w', Ext w w' → (∀ k, F k w') → wpList P l.toArray Q (l.drop n) a' w') (l.take n) 0 a (fun _ _ => True)) : (Code.region id l.toArray true).wp P Q a w := by
  simp only [calmB, Bool.and_eq_true, Bool.or_eq_true, decide_eq_true_eq] at hB
  obtain ⟨⟨hsel, hn⟩, hlex⟩ := hB
  have hn' : n ≤ l.length := by
    rcases hn with h1 | h1
    · rw [h1]; simp
    · have := h1.1.1; simp at this; omega
  have htl : (l.take n).length = n := by simp; omega
  have hdl : (l.drop n).length = l.toArray.size - n := by simp
  have htail := calm_tail (ops := l.toArray) (n := n) (by rcases hn with h1 | h1; exact .inl h1; exact .inr ⟨h1.1.1, h1.1.2, h1.2⟩)
  have inv0 : HeadInv .any l.toArray n (Array.replicate l.toArray.size false) :=
    ⟨by simp, fun j oj _ hl => (by rw [getD_replicate_false] at hl; cases hl), fun t _ ht => getD_in (by simpa using ht) (getD_replicate_false _ _)⟩
  have H := wpAnyC_lex (g := l.toArray.size - n) hS hsel htail (l.take n) 0 _ a _ (fun j hj => by
    have hj' : j < n := by rw [htl] at hj; exact hj
    simp [hj']) (by simpa using htl) inv0 (by rw [htl]; exact hlex) ⟨w, Ext.refl _, fun _ => trivial⟩ (fun _ _ _ _ h => h) h
  refine wp_region_any hm ?_
  have := wpAny_of_headC (P := P) (ops := l.toArray) (S := S) (w0 := w) (n := n) (Q' := Q) (g := l.toArray.size - n) hS (fun listed a' F w1 he hF hL => by
    have := wpAny_of_seq (md := .any) (Q' := Q) (l.drop n) n listed a' w1 (fun j => by simp [List.getElem?_drop]) (by rw [hdl]; exact hL.1) (hL.2 w1 he hF)
    rwa [hdl] at this) (l.take n).length (Array.replicate l.toArray.size false) a (fun _ _ => True) { w with drawn := w.drawn + 1 } ((Ext.refl w).drawn _) (fun _ => trivial) (fun _ _ _ _ h => h) H
  rw [htl, show n + (l.toArray.size - n) = l.toArray.size by omega] at this
  exact this

/-! ### Steps -/

/-- More facts do no harm. -/
def MonoQ (Q : Act → Fx → Prop) : Prop := ∀ a F F', (∀ k w, F' k w → F k w) → Q a F → Q a F'

theorem wpCalm_mono {Q : Act → Fx → Prop} (hQ : MonoQ Q) : ∀ (l : List Oper) (k : Nat) (a : Act) (F F' : Fx), (∀ k w, F' k w → F k w) → wpCalm P ops S w0 Q l k a F → wpCalm P ops S w0 Q l k a F'
  | [], _, a, F, F', h, hh => hQ a F F' h hh
  | o :: l, k, a, F, F', h, ⟨hy, hn⟩ => by
    have hf : ∀ w, facts ops F' k w → facts ops F k w := fun w hf i hi => h _ _ (hf i hi)
    have hr : ∀ v w, Rel P w0 (execOp a.eval o) (facts ops F' k) (S k) v w → Rel P w0 (execOp a.eval o) (facts ops F k) (S k) v w := fun v w ⟨w1, h1, h2, h3⟩ => ⟨w1, h1, hf _ h2, h3⟩
    have hp : ∀ v, ∀ i w, (F'.put k (Rel P w0 (execOp a.eval o) (facts ops F' k) (S k) v)) i w → (F.put k (Rel P w0 (execOp a.eval o) (facts ops F k) (S k) v)) i w := fun v i w hh => ⟨h _ _ hh.1, fun e => hr _ _ (hh.2 e)⟩
    exact ⟨fun hw w he hf' => hy hw w he (hf w hf'), fun hw v ⟨w, he, hs⟩ => wpCalm_mono hQ l (k + 1) _ _ _ (hp v) (hn.1 hw v ⟨w, he, fun i => hp v i w (hs i)⟩), fun hw => wpCalm_mono hQ l (k + 1) _ _ _ h (hn.2 hw)⟩

theorem calm_mono_final {Q : Act → World → Prop} : MonoQ (fun a F => ∀ w', Ext w0 w' → (∀ k, F k w') → Q a w') := fun _ _ _ h hq w' he hF => hq w' he (fun k => h _ _ (hF k))

/-- No call of a Go function. -/
def quietKind (o : Oper) : Bool := match o.op with
  | .call { callee := .builtin .len, .. } | .call { callee := .builtin .min, .. } | .call { callee := .builtin .max, .. } | .call { callee := .builtin .cap, .. } => true
  | .move _ | .assign _ | .pick .. | .load .. | .binOp .. | .unOp .. | .convert .. | .fieldAddr .. | .field .. | .indexAddr .. | .index .. | .slice .. | .extract .. | .lookup .. => true
  | _ => false

def noEnter : Result Next → Prop
  | .ok (.enter _ _) _ => False
  | _ => True

theorem noEnter_v (s : Sem Value) (w : World) : noEnter ((do pure (Next.value (← s)) : Sem Next).run P w) := by
  simp only [Sem.run_bind, Sem.run_pure]
  cases s.run P w <;> simp [Result.andThen, noEnter]

theorem noEnter_of_quietKind {o : Oper} (h : quietKind o = true) (ρ : Operand → Value) (w : World) : noEnter ((execOp ρ o).run P w) := by
  unfold quietKind at h
  unfold execOp
  split at h <;> rename_i heq <;> simp only [heq]
  all_goals first
    | exact noEnter_v _ w
    | (simp only [resolve, invoke, builtin, Sem.run_bind, Sem.run_pure]; exact noEnter_v _ w)
    | (simp only [Sem.run_pure]; trivial)
    | (simp at h; done)
    | skip
  all_goals (simp only [Sem.run_bind, Sem.run_pure]; generalize Sem.run P _ w = r; cases r <;> simp [Result.andThen, noEnter])

/-- Operations that leave the world alone: by the quiet walk (Derived/Deep/Quiet.lean), in the class of all worlds that hold what w0 holds. -/
theorem calm_chunk {Q : Act → Fx → Prop} (hQ : MonoQ Q) : ∀ (l l2 : List Oper) (k : Nat) (a : Act) (F : Fx), (l.all fun o => quietKind o) = true →
    wpQuiet P ops (fun w => ∃ x : Later w0, w = x.w) (fun a' => wpCalm P ops S w0 Q l2 (k + l.length) a' F) l a → wpCalm P ops S w0 Q (l ++ l2) k a F := by
  intro l
  induction l with
  | nil => intro l2 k a F _ h; exact h
  | cons o l ih =>
    intro l2 k a F hk h
    simp only [List.all_cons, Bool.and_eq_true] at hk
    unfold wpQuiet at h
    have hlen : k + (o :: l).length = (k + 1) + l.length := by simp only [List.length_cons]; omega
    rw [hlen] at h
    cases hw : Region.wanted o (yielded ops a.tmps) with
    | true =>
      rw [hw, if_pos rfl] at h
      obtain ⟨v, h1, h2⟩ := h
      -- what comes out, in any world: v, and nothing else has happened, or (for a row of the model's own) a call
      refine ⟨fun _ w he _ => ?_, fun _ u hu => ?_, fun hf => by rw [hw] at hf; cases hf⟩
      · have h3 := h1 w ⟨⟨w, he⟩, rfl⟩
        have hne := noEnter_of_quietKind (P := P) hk.1 a.eval w
        unfold Oper.quietAt at h3
        generalize (execOp a.eval o).run P w = r at *
        cases r with
        | ok n w' =>
          cases n <;> simp only [Oper.quietUpon] at h3 <;> simp only [calmUpon]
          case value x => obtain ⟨e, _⟩ := h3; rw [e]; exact Ext.refl _
          case skip => obtain ⟨e, _⟩ := h3; rw [e]; exact Ext.refl _
          case enter f args => exact hne.elim
        | halt x w' => simp only [Oper.quietUpon] at h3
      · obtain ⟨w, he, hs⟩ := hu
        obtain ⟨w1, he1, _, hg⟩ := (hs k).2 rfl
        have h3 := h1 w1 ⟨⟨w1, he1⟩, rfl⟩
        have hne := noEnter_of_quietKind (P := P) hk.1 a.eval w1
        have huv : u = v := by
          unfold Oper.quietAt at h3
          generalize (execOp a.eval o).run P w1 = r at *
          cases r with
          | ok n w' =>
            cases n <;> simp only [Oper.quietUpon] at h3 <;> simp only [gives] at hg
            case value x => rw [hg.1, h3.2]
            case skip => rw [hg.1, h3.2]
            case enter f args => exact hne.elim
          | halt x w' => simp only [Oper.quietUpon] at h3
        subst huv
        exact wpCalm_mono hQ _ _ _ F _ (fun _ _ hh => hh.1) (ih l2 (k + 1) _ F hk.2 h2)
    | false =>
      rw [hw] at h
      exact ⟨fun hf => (by rw [hw] at hf; cases hf), fun hf => (by rw [hw] at hf; cases hf), fun _ => ih l2 (k + 1) _ F hk.2 h⟩

theorem calm_nil {Q : Act → Fx → Prop} {k : Nat} {a : Act} {F : Fx} (h : Q a F) : wpCalm P ops S w0 Q [] k a F := h

/-- A call of a Go function: its result is any value that S lets by. -/
theorem calm_call {Q : Act → Fx → Prop} {o : Oper} {l : List Oper} {k : Nat} {a : Act} {F : Fx} (hQ : MonoQ Q) (f : FuncId) (args : Array Value) (hw : Region.wanted o (yielded ops a.tmps) = true)
    (hrun : ∀ w, (execOp a.eval o).run P w = .ok (.enter f args) w)
    (hcall : ∀ w, Ext w0 w → facts ops F k w → Calls P f args w (fun e w'' => ∃ v, e = .returned v ∧ Ext w w'' ∧ S k args v w''))
    (hn : ∀ v w', Ext w0 w' → S k args v w' → wpCalm P ops S w0 Q l (k + 1) (a.put o.dst v) (F.put k (S k args v))) : wpCalm P ops S w0 Q (o :: l) k a F := by
  refine ⟨fun _ w he hf => ?_, fun _ v hv => ?_, fun hf => by rw [hw] at hf; cases hf⟩
  · rw [hrun]; exact hcall w he hf
  · have hS : ∀ w', Rel P w0 (execOp a.eval o) (facts ops F k) (S k) v w' → S k args v w' := fun w' ⟨w1, _, _, h⟩ => by rw [hrun] at h; exact h
    obtain ⟨w', he, hs⟩ := hv
    exact wpCalm_mono hQ _ _ _ _ _ (fun i w h => ⟨h.1, fun e => hS _ (h.2 e)⟩) (hn v w' he (hS _ ((hs k).2 rfl)))

/-- New memory: its block's number is not told. -/
theorem calm_alloc {Q : Act → Fx → Prop} {o : Oper} {l : List Oper} {k : Nat} {a : Act} {F : Fx} (hQ : MonoQ Q) (mk : Nat → Value) (ob : Obj) (hinj : ∀ b c, mk c = mk b → c = b) (hw : Region.wanted o (yielded ops a.tmps) = true)
    (hrun : ∀ w, (execOp a.eval o).run P w = .ok (.value (mk w.heap.size)) (w.alloc ob))
    (hn : ∀ b, w0.heap.size ≤ b → wpCalm P ops S w0 Q l (k + 1) (a.put o.dst (mk b)) (F.put k (fun w => w.heap[b]? = some ob))) : wpCalm P ops S w0 Q (o :: l) k a F := by
  refine ⟨fun _ w he hf => ?_, fun _ v hv => ?_, fun hf => by rw [hw] at hf; cases hf⟩
  · rw [hrun]; exact (Ext.refl w).alloc ob
  · have hS : ∀ w', Rel P w0 (execOp a.eval o) (facts ops F k) (S k) v w' → ∃ b, w0.heap.size ≤ b ∧ v = mk b ∧ w'.heap[b]? = some ob := fun w' ⟨w1, he, _, h⟩ => by
      rw [hrun] at h
      exact ⟨w1.heap.size, he.le, h.1, h.2.heap (heap_alloc_new w1 ob)⟩
    obtain ⟨w', he, hs⟩ := hv
    obtain ⟨b, hb, rfl, hh⟩ := hS _ ((hs k).2 rfl)
    exact wpCalm_mono hQ _ _ _ _ _ (fun i w h => ⟨h.1, fun e => by obtain ⟨c, _, hc, hh'⟩ := hS _ (h.2 e); rw [← hinj b c hc.symm]; exact hh'⟩) (hn b hb)

/-- The chunk, with its number of operations. -/
theorem calm_quiet {Q : Act → Fx → Prop} (hQ : MonoQ Q) (m : Nat) {l : List Oper} {k : Nat} {a : Act} {F : Fx} (hk : ((l.take m).all fun o => quietKind o) = true)
    (h : wpQuiet P ops (fun w => ∃ x : Later w0, w = x.w) (fun a' => wpCalm P ops S w0 Q (l.drop m) (k + (l.take m).length) a' F) (l.take m) a) : wpCalm P ops S w0 Q l k a F := by
  rw [← List.take_append_drop m l]
  exact calm_chunk hQ _ _ _ _ _ hk h
end
end Go.Proofs.Ytbclbcldplmppaa

/- Slices that read as lists of numbers. No program in sight. -/
namespace Go.Proofs.Ytbclbcldplmppaa
open Go.RowKit

theorem block_of_add (a : Addr) (n : Nat) : (a.add n).block = a.block := by unfold Addr.add; split <;> rfl
theorem add_of_add (a : Addr) (i j : Nat) : (a.add i).add j = a.add (i + j) := by
  unfold Addr.add
  by_cases hi : i = 0 <;> by_cases hj : j = 0 <;> simp [hi, hj, Nat.add_assoc]

/-- The slice with this address, of as many cells as there are values, holds them. -/
def Row (w : World) (A : Option Addr) (xs : List Value) : Prop := ∀ k, k < xs.length → ∃ ad, A = some ad ∧ w.cell? (ad.add k) = xs[k]?

abbrev vint (x : Int) : Value := .int .i64 x
def Ints (w : World) (A : Option Addr) (xs : List Int) : Prop := Row w A (xs.map vint)

/-- The number at a place, behind a name that the walk does not open. -/
def getI (xs : List Int) (k : Nat) : Int := xs[k]?.getD 0
theorem getI_eq {xs : List Int} {k : Nat} (h : k < xs.length) : getI xs k = xs[k] := by simp [getI, h]

theorem Row.ext {w w' : World} {A : Option Addr} {xs : List Value} (h : Row w A xs) (he : Ext w w') : Row w' A xs := fun k hk => by
  obtain ⟨ad, ha, hc⟩ := h k hk
  refine ⟨ad, ha, ?_⟩
  rw [List.getElem?_eq_getElem hk] at hc ⊢
  exact he.cell hc
theorem Ints.ext {w w' : World} {A : Option Addr} {xs : List Int} (h : Ints w A xs) (he : Ext w w') : Ints w' A xs := Row.ext h he
theorem Row.nil (w : World) (A : Option Addr) : Row w A [] := fun k hk => absurd hk (by simp)
theorem Ints.nil (w : World) (A : Option Addr) : Ints w A [] := Row.nil w A

theorem Ints.at_ {w : World} {A : Option Addr} {xs : List Int} (h : Ints w A xs) {k : Nat} (hk : k < xs.length) : ∃ ad, A = some ad ∧ w.cell? (ad.add k) = some (.int .i64 (getI xs k)) := by
  obtain ⟨ad, ha, hc⟩ := h k (by simpa using hk)
  refine ⟨ad, ha, ?_⟩
  rw [hc]
  simp [getI, hk]
/-- The cells of a slice that is not empty, for every world that holds what w holds. -/
theorem Ints.some_ {w : World} {A : Option Addr} {xs : List Int} (h : Ints w A xs) (hn : 0 < xs.length) : ∃ ad, A = some ad ∧ ∀ k, k < xs.length → ∀ w', Ext w w' → w'.cell? (ad.add k) = some (.int .i64 (getI xs k)) := by
  obtain ⟨ad, ha, _⟩ := h.at_ hn
  refine ⟨ad, ha, fun k hk w' he => ?_⟩
  obtain ⟨ad', ha', hc⟩ := h.at_ hk
  rw [ha] at ha'
  injection ha' with ha'
  subst ha'
  exact he.cell hc

theorem add_zero_ (ad : Addr) : ad.add 0 = ad := by unfold Addr.add; simp
/-- .. and the first one, as the walk writes it. -/
theorem Ints.some0 {w : World} {A : Option Addr} {xs : List Int} (h : Ints w A xs) (hn : 0 < xs.length) :
    ∃ ad, A = some ad ∧ (∀ k, k < xs.length → ∀ w', Ext w w' → w'.cell? (ad.add k) = some (.int .i64 (getI xs k))) ∧ ∀ w', Ext w w' → w'.cell? ad = some (.int .i64 (getI xs 0)) := by
  obtain ⟨ad, ha, hc⟩ := h.some_ hn
  exact ⟨ad, ha, hc, fun w' he => by have := hc 0 hn w' he; rwa [add_zero_] at this⟩

theorem Row.of_own {w : World} {base : Nat} {e : TypeId} {size : Nat} {A : Option Addr} {n c : Nat} {xs : List Value} (h : w.ownsRow base e size (.slice A n c) n xs) : Row w A xs := by
  intro k hk
  rcases h.2 with ⟨hv, hn⟩ | ⟨g, cap, cur, hv, _, hh, _, _, _, htake⟩
  · have := h.1; rw [hn] at this; omega
  · injection hv with h1 h2 h3
    subst h1
    refine ⟨_, rfl, ?_⟩
    exact (World.ownsRow.cells h (g := g) rfl k _ (List.getElem?_eq_getElem hk)).trans (List.getElem?_eq_getElem hk).symm

theorem add_lit (a : Addr) (j : Nat) (h : j ≠ 0) : a.add j = ⟨a.block, a.off + j, none⟩ := by unfold Addr.add; rw [if_neg h]

/-! ### Slices of structs: rows of cells -/

theorem flatten_get (size : Nat) : ∀ (rows : List (List Value)), (∀ r ∈ rows, r.length = size) → ∀ k j, j < size → (hk : k < rows.length) → rows.flatten[k * size + j]? = rows[k][j]?
  | [], _, _, _, _, hk => by simp at hk
  | r :: rows, h, 0, j, hj, _ => by
    have hr := h r (by simp)
    simp [List.getElem?_append, hr, hj]
  | r :: rows, h, k + 1, j, hj, hk => by
    have hr := h r (by simp)
    have ih := flatten_get size rows (fun x hx => h x (by simp [hx])) k j hj (by simpa using hk)
    rw [List.flatten_cons, List.getElem?_append_right (by rw [hr, Nat.add_mul]; omega), hr, show (k + 1) * size + j - size = k * size + j by rw [Nat.add_mul]; omega]
    simpa using ih
theorem flatten_len (size : Nat) : ∀ (rows : List (List Value)), (∀ r ∈ rows, r.length = size) → rows.flatten.length = rows.length * size
  | [], _ => by simp
  | r :: rows, h => by
    rw [List.flatten_cons, List.length_append, h r (by simp), flatten_len size rows (fun x hx => h x (by simp [hx])), List.length_cons, Nat.add_mul]
    omega

/-- Element k's cells, for every world that holds what w holds. -/
theorem Row.struct {w : World} {A : Option Addr} {rows : List (List Value)} {size : Nat} (h : Row w A rows.flatten) (hs : ∀ r ∈ rows, r.length = size) {k : Nat} (hk : k < rows.length) (hpos : 0 < size) :
    ∃ ad, A = some ad ∧ ∀ j (hj : j < size), ∀ w', Ext w w' → w'.cell? ((ad.add (k * size)).add j) = some (rows[k][j]'(by rw [hs _ (List.getElem_mem hk)]; exact hj)) := by
  have hlen := flatten_len size rows hs
  have hlt : ∀ j, j < size → k * size + j < rows.flatten.length := fun j hj => by
    rw [hlen]
    have : (k + 1) * size ≤ rows.length * size := Nat.mul_le_mul_right _ hk
    rw [Nat.add_mul] at this
    omega
  obtain ⟨ad, ha, _⟩ := h _ (hlt 0 hpos)
  refine ⟨ad, ha, fun j hj w' he => ?_⟩
  obtain ⟨ad', ha', hc⟩ := h _ (hlt j hj)
  rw [ha] at ha'
  injection ha' with ha'
  subst ha'
  rw [add_of_add]
  refine he.cell (hc.trans ?_)
  rw [flatten_get size rows hs k j hj hk, List.getElem?_eq_getElem]
end Go.Proofs.Ytbclbcldplmppaa

/- Pistons: what the code's functions compute. -/
namespace Go.Proofs.Ytbclbcldplmppaa
open Go.RowKit

theorem ret_i {a b : Int} (h : a = b) : Ending.returned (.int .i64 a) = .returned (.int .i64 b) := by rw [h]
theorem ret_b {a b : Bool} (h : a = b) : Ending.returned (.bool a) = .returned (.bool b) := by rw [h]

def withinB (n lo hi : Int) : Bool := decide (lo ≤ n) && decide (n ≤ hi)
theorem withinB_true {n lo hi : Int} : withinB n lo hi = true ↔ lo ≤ n ∧ n ≤ hi := by simp [withinB]
theorem withinB_false {n lo hi : Int} : withinB n lo hi = false ↔ ¬(lo ≤ n ∧ n ≤ hi) := by rw [← withinB_true]; cases withinB n lo hi <;> simp

theorem within_any (n lo hi : Int) (w : World) :
    Calls Try.prog 54 #[.int .i64 n, .int .i64 lo, .int .i64 hi] w fun e w' => e = .returned (.bool (withinB n lo hi)) ∧ w = w' := by
  go_enter Try.func54, Try.ntmps54
  go_wp2
  all_goals go_ret
  all_goals exact ⟨ret_b (by simp [withinB]; omega), rfl⟩

def minTo (xs : List Int) (k : Nat) : Int := ((xs.take k).drop 1).foldl min (getI xs 0)
def maxTo (xs : List Int) (k : Nat) : Int := ((xs.take k).drop 1).foldl max (getI xs 0)

def tickS (lift : List Int) (op st at_ : Int) (t : Nat) : Int := if op ≤ getI lift ((t - 1) % lift.length) then min (at_ + 1) st else max (at_ - 1) 0

set_option maxHeartbeats 400000 in
theorem tick_any (A : Option Addr) (c : Nat) (lift : List Int) (op st x : Int) (t : Nat) (w : World) (hA : Ints w A lift) (hn : 0 < lift.length) (hn2 : lift.length ≤ 100000) (ht : 1 ≤ t) (ht2 : t ≤ 1000000)
    (hx : 0 ≤ x) (hx2 : x ≤ 1000000) :
    Calls Try.prog 52 #[.agg #[.slice A lift.length c, .int .i64 op, .int .i64 st], .int .i64 x, .int .i64 t] w fun e w' => e = .returned (.int .i64 (tickS lift op st x t)) ∧ Ext w w' := by
  obtain ⟨ad, rfl, hc⟩ := hA.some_ hn
  have hc1 := hc ((t - 1) % lift.length) (Nat.mod_lt _ hn)
  clear hc hA
  have b1 := Nat.mod_lt (t - 1) hn
  have hfin : tickS lift op st x t = if op ≤ getI lift ((t - 1) % lift.length) then min (x + 1) st else max (x - 1) 0 := rfl
  generalize hj : (t - 1) % lift.length = j at *
  generalize lift.length = n at *
  generalize getI lift j = y at *
  have Hfin := Lib.hid hfin
  clear hfin
  have e1 : IntKind.i64.wrap ((t : Int) - 1) = ((t - 1 : Nat) : Int) := by rw [IntKind.wrap_i64]; omega
  have e2 : (((t - 1 : Nat) : Int)).tmod (n : Int) = (j : Int) := by
    rw [Int.tmod_eq_emod_of_nonneg (by omega), ← hj]; exact (Int.natCast_emod _ _).symm
  have e3 : ((n : Int) = 0) = False := by simp; omega
  have b2 : (j : Int) < n := by omega
  have e4 : IntKind.i64.wrap (x + 1) = x + 1 := by rw [IntKind.wrap_i64]; omega
  have e5 : IntKind.i64.wrap (x - 1) = x - 1 := by rw [IntKind.wrap_i64]; omega
  clear hj
  go_enter Try.func52, Try.ntmps52
  go_wp2
  go_quiet (fail)
  go_wp2
  all_goals go_ret
  all_goals exact ⟨ret_i (by rw [Hfin.out]; split <;> omega), by simp⟩

theorem foldl_take_succ (f : Int → Int → Int) (xs : List Int) (k : Nat) (hk : k < xs.length) (h1 : 1 ≤ k) (z : Int) : ((xs.take (k + 1)).drop 1).foldl f z = f (((xs.take k).drop 1).foldl f z) (getI xs k) := by
  rw [List.take_succ_eq_append_getElem hk, List.drop_append_of_le_length (by simp; omega), List.foldl_append, getI_eq hk]
  rfl
theorem minTo_succ (xs : List Int) (k : Nat) (hk : k < xs.length) (h1 : 1 ≤ k) : minTo xs (k + 1) = min (minTo xs k) (getI xs k) := foldl_take_succ min xs k hk h1 _
theorem maxTo_succ (xs : List Int) (k : Nat) (hk : k < xs.length) (h1 : 1 ≤ k) : maxTo xs (k + 1) = max (maxTo xs k) (getI xs k) := foldl_take_succ max xs k hk h1 _
theorem minTo_one (xs : List Int) : minTo xs 1 = getI xs 0 := by cases xs <;> simp [minTo]
theorem maxTo_one (xs : List Int) : maxTo xs 1 = getI xs 0 := by cases xs <;> simp [maxTo]
theorem minTo_ge (xs : List Int) (b : Int) : ∀ k, 1 ≤ k → k ≤ xs.length → (b ≤ minTo xs k ↔ ∀ i, i < k → b ≤ getI xs i)
  | 0, h, _ => by omega
  | 1, _, _ => by rw [minTo_one]; exact ⟨fun h i hi => by rw [show i = 0 by omega]; exact h, fun h => h 0 (by omega)⟩
  | k + 2, _, h2 => by
    rw [minTo_succ xs (k + 1) (by omega) (by omega)]
    have ih := minTo_ge xs b (k + 1) (by omega) (by omega)
    constructor
    · intro h i hi
      by_cases hi' : i = k + 1
      · subst hi'; omega
      · exact ih.1 (by omega) i (by omega)
    · intro h
      have h1 := ih.2 (fun i hi => h i (by omega))
      have h2 := h (k + 1) (by omega)
      omega
theorem maxTo_le (xs : List Int) (b : Int) : ∀ k, 1 ≤ k → k ≤ xs.length → (maxTo xs k ≤ b ↔ ∀ i, i < k → getI xs i ≤ b)
  | 0, h, _ => by omega
  | 1, _, _ => by rw [maxTo_one]; exact ⟨fun h i hi => by rw [show i = 0 by omega]; exact h, fun h => h 0 (by omega)⟩
  | k + 2, _, h2 => by
    rw [maxTo_succ xs (k + 1) (by omega) (by omega)]
    have ih := maxTo_le xs b (k + 1) (by omega) (by omega)
    constructor
    · intro h i hi
      by_cases hi' : i = k + 1
      · subst hi'; omega
      · exact ih.1 (by omega) i (by omega)
    · intro h
      have h1 := ih.2 (fun i hi => h i (by omega))
      have h2 := h (k + 1) (by omega)
      omega

set_option maxHeartbeats 400000 in
theorem min_any (A : Option Addr) (c : Nat) (xs : List Int) (w : World) (hA : Ints w A xs) (hn : 0 < xs.length) (hn2 : xs.length ≤ 100000) :
    Calls Try.prog 56 #[.slice A xs.length c] w fun e w' => e = .returned (.int .i64 (minTo xs xs.length)) ∧ w = w' := by
  obtain ⟨ad, rfl, hc, hc0⟩ := hA.some0 hn
  generalize hl : xs.length = n at *
  have Hl := Lib.hid hl
  clear hl
  go_enter Try.func56, Try.ntmps56
  go_wp2
  go_loop [3, 4] (fun m i => ∃ k : Nat, 1 ≤ k ∧ k ≤ n ∧ i = .int .i64 k ∧ m = .int .i64 (minTo xs k)) (fun _ i => n - (intOf i).toNat)
  case atStart => exact ⟨1, by omega, by omega, rfl, by rw [minTo_one]⟩
  case round =>
    obtain ⟨k, hk1, hk2, rfl, rfl⟩ := hrel
    by_cases hlt : k < n
    · have hck := hc k hlt
      have hs := minTo_succ xs k (by rw [Hl.out]; exact hlt) hk1
      have Hs := Lib.hid hs
      clear hs
      go_wp2
      all_goals
        go_round
        case rel => exact ⟨k + 1, by omega, by omega, by go_num, by rw [Hs.out]; congr 1; omega⟩
        case measure => simp [intOf]; omega
    · go_wp2
      go_ret
      exact ⟨ret_i (by rw [show k = n by omega]), rfl⟩

set_option maxHeartbeats 400000 in
theorem max_any (A : Option Addr) (c : Nat) (xs : List Int) (w : World) (hA : Ints w A xs) (hn : 0 < xs.length) (hn2 : xs.length ≤ 100000) :
    Calls Try.prog 57 #[.slice A xs.length c] w fun e w' => e = .returned (.int .i64 (maxTo xs xs.length)) ∧ w = w' := by
  obtain ⟨ad, rfl, hc, hc0⟩ := hA.some0 hn
  generalize hl : xs.length = n at *
  have Hl := Lib.hid hl
  clear hl
  go_enter Try.func57, Try.ntmps57
  go_wp2
  go_loop [3, 4] (fun m i => ∃ k : Nat, 1 ≤ k ∧ k ≤ n ∧ i = .int .i64 k ∧ m = .int .i64 (maxTo xs k)) (fun _ i => n - (intOf i).toNat)
  case atStart => exact ⟨1, by omega, by omega, rfl, by rw [maxTo_one]⟩
  case round =>
    obtain ⟨k, hk1, hk2, rfl, rfl⟩ := hrel
    by_cases hlt : k < n
    · have hck := hc k hlt
      have hs := maxTo_succ xs k (by rw [Hl.out]; exact hlt) hk1
      have Hs := Lib.hid hs
      clear hs
      go_wp2
      all_goals
        go_round
        case rel => exact ⟨k + 1, by omega, by omega, by go_num, by rw [Hs.out]; congr 1; omega⟩
        case measure => simp [intOf]; omega
    · go_wp2
      go_ret
      exact ⟨ret_i (by rw [show k = n by omega]), rfl⟩

def vpP (lift : List Int) (op st : Int) : Prop := 1 ≤ lift.length ∧ lift.length ≤ 24 ∧ (∀ i, i < lift.length → 0 ≤ getI lift i ∧ getI lift i ≤ 100) ∧ 0 ≤ op ∧ op ≤ 100 ∧ 1 ≤ st ∧ st ≤ 20
instance (lift : List Int) (op st : Int) : Decidable (vpP lift op st) := by unfold vpP; infer_instance
def vpB (lift : List Int) (op st : Int) : Bool := decide (vpP lift op st)
def cpS (lift : List Int) (op st : Int) : Int := if vpB lift op st = true then 0 else 2

theorem cp_bad {lift : List Int} {op st : Int} (h : ¬ vpP lift op st) : (2 : Int) = cpS lift op st := by simp [cpS, vpB, h]
theorem cp_good {lift : List Int} {op st : Int} (h : vpP lift op st) : (0 : Int) = cpS lift op st := by simp [cpS, vpB, h]

set_option maxHeartbeats 400000 in
theorem check_piston (A : Option Addr) (c : Nat) (lift : List Int) (op st : Int) (w : World) (hA : Ints w A lift) (hn2 : lift.length ≤ 100000) :
    Calls Try.prog 17 #[.agg #[.slice A lift.length c, .int .i64 op, .int .i64 st]] w fun e w' => e = .returned (.int .i64 (cpS lift op st)) ∧ Ext w w' := by
  by_cases hn : 0 < lift.length
  · have hmin := minTo_ge lift 0 lift.length hn (Nat.le_refl _)
    have hmax := maxTo_le lift 100 lift.length hn (Nat.le_refl _)
    have good : lift.length ≤ 24 → 0 ≤ minTo lift lift.length → maxTo lift lift.length ≤ 100 → 0 ≤ op → op ≤ 100 → 1 ≤ st → st ≤ 20 → (0 : Int) = cpS lift op st :=
      fun h1 h2 h3 h4 h5 h6 h7 => cp_good ⟨hn, h1, fun i hi => ⟨hmin.1 h2 i hi, hmax.1 h3 i hi⟩, h4, h5, h6, h7⟩
    have bad : ¬ (lift.length ≤ 24 ∧ 0 ≤ minTo lift lift.length ∧ maxTo lift lift.length ≤ 100 ∧ 0 ≤ op ∧ op ≤ 100 ∧ 1 ≤ st ∧ st ≤ 20) → (2 : Int) = cpS lift op st :=
      fun h => cp_bad fun hh => h ⟨hh.2.1, hmin.2 fun i hi => (hh.2.2.1 i hi).1, hmax.2 fun i hi => (hh.2.2.1 i hi).2, hh.2.2.2⟩
    have cmin := fun (w' : World) (he : Ext w w') => min_any A c lift w' (hA.ext he) hn hn2
    have cmax := fun (w' : World) (he : Ext w w') => max_any A c lift w' (hA.ext he) hn hn2
    have Good := Lib.hid good
    have Bad := Lib.hid bad
    have Cmin := Lib.hid cmin
    have Cmax := Lib.hid cmax
    clear good bad cmin cmax hmin hmax hA
    generalize minTo lift lift.length = m1 at *
    generalize maxTo lift lift.length = m2 at *
    generalize lift.length = n at *
    go_enter Try.func17, Try.ntmps17
    go_wp2_with (first
      | (go_at_call 56; refine (Cmin.out _ (by simp)).mono ?_; rintro e w' ⟨rfl, rfl⟩)
      | (go_at_call 57; refine (Cmax.out _ (by simp)).mono ?_; rintro e w' ⟨rfl, rfl⟩))
    all_goals go_ret
    all_goals refine ⟨ret_i ?_, by simp⟩
    all_goals first | exact Bad.out (by omega) | exact Good.out (by omega) (by omega) (by omega) (by omega) (by omega) (by omega) (by omega)
  · have h0 : lift.length = 0 := by omega
    have hbad : (2 : Int) = cpS lift op st := cp_bad fun h => hn h.1
    have Bad := Lib.hid hbad
    clear hbad
    rw [h0]
    go_enter Try.func17, Try.ntmps17
    go_wp2
    go_ret
    exact ⟨ret_i Bad.out, by simp⟩
end Go.Proofs.Ytbclbcldplmppaa

/- Pistons, second text: places, by the code and by the reference. -/
namespace Go.Proofs.Ytbclbcldplmppaa
open Go.RowKit

theorem vpB_eq {lift : List Int} {op st : Int} {b : Bool} (h : b = true ↔ vpP lift op st) : b = vpB lift op st := by
  cases b <;> simp [vpB] at h ⊢ <;> exact h

set_option maxHeartbeats 400000 in
theorem valid_piston (A : Option Addr) (c : Nat) (lift : List Int) (op st : Int) (w : World) (hA : Ints w A lift) (hn2 : lift.length ≤ 100000) :
    Calls Try.prog 53 #[.agg #[.slice A lift.length c, .int .i64 op, .int .i64 st]] w fun e w' => e = .returned (.bool (vpB lift op st)) ∧ Ext w w' := by
  cases h1 : withinB (lift.length : Int) 1 24
  · have hb : false = vpB lift op st := vpB_eq ⟨fun h => (by cases h), fun h => by rw [withinB_false] at h1; have := h.1; have := h.2.1; omega⟩
    have Hb := Lib.hid hb
    clear hb
    generalize lift.length = n at *
    go_enter Try.func53, Try.ntmps53
    go_wp2_with (go_at_call 54; refine (within_any _ _ _ _).mono ?_; rintro e w' ⟨rfl, rfl⟩)
    go_ret
    exact ⟨ret_b Hb.out, by simp⟩
  cases h2 : withinB op 0 100
  · have hb : false = vpB lift op st := vpB_eq ⟨fun h => (by cases h), fun h => by rw [withinB_false] at h2; have := h.2.2.2; omega⟩
    have Hb := Lib.hid hb
    clear hb
    generalize lift.length = n at *
    go_enter Try.func53, Try.ntmps53
    go_wp2_with (go_at_call 54; refine (within_any _ _ _ _).mono ?_; rintro e w' ⟨rfl, rfl⟩)
    go_ret
    exact ⟨ret_b Hb.out, by simp⟩
  cases h3 : withinB st 1 20
  · have hb : false = vpB lift op st := vpB_eq ⟨fun h => (by cases h), fun h => by rw [withinB_false] at h3; have := h.2.2.2; omega⟩
    have Hb := Lib.hid hb
    clear hb
    generalize lift.length = n at *
    go_enter Try.func53, Try.ntmps53
    go_wp2_with (go_at_call 54; refine (within_any _ _ _ _).mono ?_; rintro e w' ⟨rfl, rfl⟩)
    go_ret
    exact ⟨ret_b Hb.out, by simp⟩
  have hw1 := withinB_true.1 h1
  have hw2 := withinB_true.1 h2
  have hw3 := withinB_true.1 h3
  obtain ⟨ad, rfl, hc, hc0⟩ := hA.some0 (by omega)
  have hgood : (∀ i, i < lift.length → withinB (getI lift i) 0 100 = true) → true = vpB lift op st := fun h => vpB_eq ⟨fun _ => ⟨by omega, by omega, fun i hi => withinB_true.1 (h i hi), by omega, by omega, hw3⟩, fun _ => rfl⟩
  have hbad : ∀ i, i < lift.length → withinB (getI lift i) 0 100 = false → false = vpB lift op st := fun i hi h => vpB_eq ⟨fun h => (by cases h), fun hh => by rw [withinB_false] at h; exact absurd (hh.2.2.1 i hi) h⟩
  have Good := Lib.hid hgood
  have Bad := Lib.hid hbad
  have hn : 0 < lift.length := by omega
  clear hgood hbad hA hw1 hw2 hw3
  generalize lift.length = n at *
  go_enter Try.func53, Try.ntmps53
  go_wp2_with (go_at_call 54; refine (within_any _ _ _ _).mono ?_; rintro e w' ⟨rfl, rfl⟩)
  go_loop [3] (fun i => ∃ k : Nat, k ≤ n ∧ i = .int .i64 k ∧ ∀ j, j < k → withinB (getI lift j) 0 100 = true) (fun i => n - (intOf i).toNat)
  case atStart => exact ⟨0, by omega, rfl, fun j hj => by omega⟩
  case round =>
    obtain ⟨k, hk2, rfl, hall⟩ := hrel
    have Hall := Lib.hid hall
    clear hall
    by_cases hlt : k < n
    · have hck := hc k hlt
      cases hy : withinB (getI lift k) 0 100
      · go_wp2_with (go_at_call 54; refine (within_any _ _ _ _).mono ?_; rintro e w' ⟨rfl, rfl⟩)
        go_ret
        exact ⟨ret_b (Bad.out k hlt hy), by simp⟩
      · go_wp2_with (go_at_call 54; refine (within_any _ _ _ _).mono ?_; rintro e w' ⟨rfl, rfl⟩)
        go_round
        case rel => exact ⟨k + 1, by omega, by go_num, fun j hj => by
          by_cases hjk : j = k
          · rw [hjk]; exact hy
          · exact Hall.out j (by omega)⟩
        case measure => simp [intOf]; omega
    · go_wp2
      go_ret
      exact ⟨ret_b (Good.out fun i hi => Hall.out i (by omega)), by simp⟩

theorem check_piston_ref (A : Option Addr) (c : Nat) (lift : List Int) (op st : Int) (w : World) (hA : Ints w A lift) (hn2 : lift.length ≤ 100000) :
    Calls Try.prog 18 #[.agg #[.slice A lift.length c, .int .i64 op, .int .i64 st]] w fun e w' => e = .returned (.int .i64 (cpS lift op st)) ∧ Ext w w' := by
  have c1 := fun (w' : World) (he : Ext w w') => valid_piston A c lift op st w' (hA.ext he) hn2
  have C1 := Lib.hid c1
  clear c1
  cases hv : vpB lift op st
  all_goals
    have hb : cpS lift op st = cpS lift op st := rfl
    conv at hb => lhs; unfold cpS; rw [hv]
    simp at hb
    have Hb := Lib.hid hb
    clear hb
    generalize lift.length = n at *
    go_enter Try.func18, Try.ntmps18
    go_wp2_with (go_at_call 53; refine (C1.out _ (by simp)).mono ?_; rintro e w' ⟨rfl, h1⟩)
    go_ret
    exact ⟨ret_i Hb.out, Ext.trans (by simp) h1⟩
end Go.Proofs.Ytbclbcldplmppaa

/- Slices that the call itself makes: make, append, stores, as steps of the walk. -/
namespace Go.Proofs.Ytbclbcldplmppaa
open Go.RowKit

/-- What the table says of an element type. -/
structure ElemInfo (e : TypeId) (z : Value) (size bytes : Nat) : Prop where
  info : ∃ i, Try.prog.info? e = some i ∧ i.zero = some z ∧ i.size = size ∧ i.bytes = bytes
  zs : z.cells.size = size
  pos : 0 < size

theorem int_elem : ElemInfo 3 (.int .i64 0) 1 8 := ⟨info_parts (by kernel_rfl), rfl, by decide⟩

/-- The slice v is the call's own since w1, and holds xs. -/
def Own (w1 w : World) (e : TypeId) (size : Nat) (v : Value) (n : Nat) (xs : List Value) : Prop := Ext w1 w ∧ w.ownsRow w1.heap.size e size v n xs
abbrev OwnI (w1 w : World) (v : Value) (xs : List Int) : Prop := Own w1 w 3 1 v xs.length (xs.map vint)

section
variable {w1 w w' : World} {e : TypeId} {size : Nat} {v : Value} {n : Nat} {xs : List Value}
theorem Own.ext (h : Own w1 w e size v n xs) : Ext w1 w := h.1
theorem Own.later (h : Own w1 w e size v n xs) (he : Ext w w') : Own w1 w' e size v n xs := ⟨h.1.trans he, he.owns h.2⟩
theorem Own.alloc (h : Own w1 w e size v n xs) (o : Obj) : Own w1 (w.alloc o) e size v n xs := h.later (by simp)
theorem Own.nil (w : World) (e : TypeId) (size : Nat) : Own w w e size (.slice none 0 0) 0 [] := ⟨Ext.refl w, World.ownsRow_nil _ _ _ _⟩
theorem Own.nil' (he : Ext w1 w) (e : TypeId) (size : Nat) : Own w1 w e size (.slice none 0 0) 0 [] := ⟨he, World.ownsRow_nil _ _ _ _⟩
theorem Own.len (h : Own w1 w e size v n xs) : xs.length = n * size := h.2.1
theorem Own.form (h : Own w1 w e size v n xs) : ∃ A c, v = .slice A n c := by
  rcases h.2.2 with ⟨rfl, rfl⟩ | ⟨g, cap, cur, rfl, _⟩
  · exact ⟨none, 0, rfl⟩
  · exact ⟨_, cap, rfl⟩
/-- .. and, where there is an element, where it lies. -/
theorem Own.at_ (h : Own w1 w e size v n xs) (hn : 0 < n) : ∃ g c, v = .slice (some ⟨g, 0, none⟩) n c ∧ w1.heap.size ≤ g ∧ g < w.heap.size := by
  rcases h.2.2 with ⟨rfl, rfl⟩ | ⟨g, cap, cur, rfl, hb, hh, _⟩
  · omega
  · exact ⟨g, cap, rfl, hb, (Array.getElem?_eq_some_iff.1 hh).1⟩
theorem Own.row {A : Option Addr} {m c : Nat} (h : Own w1 w e size (.slice A m c) n xs) : Row w A xs := by
  obtain ⟨A', c', hv⟩ := h.form
  injection hv with h1 h2 h3
  subst h2
  exact Row.of_own h.2
theorem Own.cell {g m c : Nat} (h : Own w1 w e size (.slice (some ⟨g, 0, none⟩) m c) n xs) {j : Nat} (hj : j < xs.length) : w.cell? ⟨g, j, none⟩ = xs[j]? := by
  obtain ⟨A', c', hv⟩ := h.form
  injection hv with h1 h2 h3
  subst h2
  exact World.ownsRow.cellAt h.2 j (by rw [← h.len]; exact hj)
theorem Own.free {g m c : Nat} (h : Own w1 w e size (.slice (some ⟨g, 0, none⟩) m c) n xs) (j : Nat) : w.frozen? ⟨g, j, none⟩ = false := by
  obtain ⟨A', c', hv⟩ := h.form
  injection hv with h1 h2 h3
  subst h2
  exact World.ownsRow.frozenAt h.2 j
theorem Own.ge {g m c : Nat} (h : Own w1 w e size (.slice (some ⟨g, 0, none⟩) m c) n xs) : w1.heap.size ≤ g := (World.ownsRow.lt h.2 g rfl).1
theorem Own.store {g m c : Nat} (h : Own w1 w e size (.slice (some ⟨g, 0, none⟩) m c) n xs) (j : Nat) (u : Value) : Own w1 (w.setCell ⟨g, j, none⟩ u) e size (.slice (some ⟨g, 0, none⟩) m c) n (xs.set j u) := by
  obtain ⟨A', c', hv⟩ := h.form
  injection hv with h1 h2 h3
  subst h2
  exact ⟨h.1.setCell h.ge u, (World.ownsRow.stored h.2 j u).1⟩
/-- A store elsewhere, among what is new since w1. -/
theorem Own.other {p : Addr} (h : Own w1 w e size v n xs) (hp : w1.heap.size ≤ p.block) (hne : v.ownBlock ≠ some p.block) (u : Value) : Own w1 (w.setCell p u) e size v n xs :=
  ⟨h.1.setCell hp u, ownsRow_setCell_other h.2 hne u⟩
/-- Own since w1 is own since before. -/
theorem Own.since {w0 : World} (h : Own w1 w e size v n xs) (he : Ext w0 w1) : Own w0 w e size v n xs := by
  refine ⟨he.trans h.1, h.2.1, ?_⟩
  rcases h.2.2 with h1 | ⟨g, cap, cur, rfl, hb, r⟩
  · exact .inl h1
  · exact .inr ⟨g, cap, cur, rfl, Nat.le_trans he.le hb, r⟩
theorem Own.lit (he : Ext w1 w) (cs : Array Value) (n : Nat) (hm : n ≤ maxLen) (hs : cs.size = n * size) : Own w1 (w.alloc (.cells cs e)) e size (.slice (some ⟨w.heap.size, 0, none⟩) n n) n cs.toList :=
  ⟨he.trans (by simp), World.ownsRow_lit w cs n he.le hm hs⟩
end

theorem OwnI.ints {w1 w : World} {A : Option Addr} {m c : Nat} {xs : List Int} (h : OwnI w1 w (.slice A m c) xs) : Ints w A xs := Own.row h

section
variable {ops : Array Oper} {rest : List Oper} {o : Oper} {a : Act} {Q : Exit → Act → World → Prop} {w1 w : World} {e : TypeId} {z : Value} {size bytes : Nat}

/-- 'make([]T, n)'. -/
theorem own_make (hE : ElemInfo e z size bytes) (hg : o.guard = none) (l : Operand) (t : TypeId) (hop : o.op = Op.makeSlice t l l) (ht : Try.prog.underlying t = some (.slice e)) (L : Int) (n : Nat) (hl : a.eval l = .int .i64 L) (hL : L = (n : Int))
    (hb : bytes * n ≤ 281474976710656) (hn : n ≤ maxLen) (he : Ext w1 w)
    (hK : ∀ w', Own w1 w' e size (.slice (some ⟨w.heap.size, 0, none⟩) n n) n (madeCells z.cells (n * size)).toList → Ext w w' → wpList Try.prog ops Q rest (a.put o.dst (.slice (some ⟨w.heap.size, 0, none⟩) n n)) w') :
    wpList Try.prog ops Q (o :: rest) a w := by
  obtain ⟨i, hi, hz0, hz1, hz2⟩ := hE.info
  refine wpList_make_full w hg l l t hop w1.heap.size e i z size ht hi hz0 hz1 .i64 .i64 L L n hl hl hL hL (by rw [hz2]; exact hb) hn he.le fun w' h1 h2 => ?_
  have hx : Ext w w' := (Ext.refl w).grown h2 (fun k hk => by cases hk)
  exact hK w' ⟨he.trans hx, h1⟩ hx

/-- 'append(out, x)', out the call's own: the new cell has just been laid. -/
theorem own_append (hE : ElemInfo e z size bytes) (hg : o.guard = none) (s x : Operand) (t : TypeId) (hop : o.op = .call { callee := .builtin .append, args := #[s, x], argTypes := #[t, t] }) (ht : Try.prog.underlying t = some (.slice e))
    (v : Value) (n : Nat) (xs : List Value) (hs : a.eval s = v) (hown : Own w1 w e size v n xs) (cs : Array Value) (m : Nat) (hx : a.eval x = .slice (some ⟨w.heap.size, 0, none⟩) m m) (hl : cs.size = m * size) (h1 : ∀ u ∈ cs.toList, u.oneCell' = true)
    (hn : (n + m) * bytes ≤ 140737488355328) (hn2 : n + m ≤ maxLen)
    (hK : ∀ v' w', Own w1 w' e size v' (n + m) (xs ++ cs.toList) → (v' = .slice none 0 0 ↔ v = .slice none 0 0 ∧ m = 0) → wpList Try.prog ops Q rest (a.put o.dst v') w') :
    wpList Try.prog ops Q (o :: rest) a (w.alloc (.cells cs e)) := by
  obtain ⟨i, hi, hz0, hz1, hz2⟩ := hE.info
  refine wpList_append_own (w.alloc (.cells cs e)) hg s x t hop w1.heap.size e i z size bytes ht hi hz0 hz1 hz2 hE.zs hE.pos v n xs hs (hown.2.alloc _) ⟨w.heap.size, 0, none⟩ m m cs.toList hx (by simpa using hl) (fun j u hu => ?_) h1 hn2 hn (by have := hown.1.le; simp; omega) fun v' w' h2 h3 h4 => ?_
  · have hadd : (⟨w.heap.size, 0, none⟩ : Addr).add j = ⟨w.heap.size, j, none⟩ := by unfold Addr.add; split <;> simp_all
    rw [hadd, World.cell?_alloc_at _ _ _ _ rfl]
    simpa using hu
  · refine hK v' w' ⟨?_, h2⟩ h4
    exact (hown.1.trans (Ext.alloc (Ext.refl w) _)).grown h3 (fun k hk => (hown.2.lt k hk).1)

/-- 'append(out, xs...)', out the call's own, xs anywhere. -/
theorem own_append_src (hE : ElemInfo e z size bytes) (hg : o.guard = none) (s x : Operand) (t : TypeId) (hop : o.op = .call { callee := .builtin .append, args := #[s, x], argTypes := #[t, t] }) (ht : Try.prog.underlying t = some (.slice e))
    (v : Value) (n : Nat) (xs : List Value) (hs : a.eval s = v) (hown : Own w1 w e size v n xs) (ad : Addr) (m c : Nat) (news : List Value) (hx : a.eval x = .slice (some ad) m c) (hl : news.length = m * size) (hr : Row w (some ad) news) (h1 : ∀ u ∈ news, u.oneCell' = true)
    (hn : (n + m) * bytes ≤ 140737488355328) (hn2 : n + m ≤ maxLen)
    (hK : ∀ v' w', Own w1 w' e size v' (n + m) (xs ++ news) → w.grownBy w' v.ownBlock → wpList Try.prog ops Q rest (a.put o.dst v') w') :
    wpList Try.prog ops Q (o :: rest) a w := by
  obtain ⟨i, hi, hz0, hz1, hz2⟩ := hE.info
  refine wpList_append_own w hg s x t hop w1.heap.size e i z size bytes ht hi hz0 hz1 hz2 hE.zs hE.pos v n xs hs hown.2 ad m c news hx hl (fun j u hu => ?_) h1 hn2 hn hown.1.le fun v' w' h2 h3 h4 => ?_
  · have hj := (List.getElem?_eq_some_iff.1 hu).1
    obtain ⟨ad', he, hc⟩ := hr j hj
    rw [Option.some.inj he]
    exact hc.trans hu
  · exact hK v' w' ⟨hown.1.grown h3 (fun k hk => (hown.2.lt k hk).1), h2⟩ h3

/-- .. one number. -/
theorem own_append_int (hg : o.guard = none) (s x : Operand) (hop : o.op = .call { callee := .builtin .append, args := #[s, x], argTypes := #[22, 22] })
    (v : Value) (n : Nat) (xs : List Value) (hs : a.eval s = v) (hown : Own w1 w 3 1 v n xs) (y : Int) (hx : a.eval x = .slice (some ⟨w.heap.size, 0, none⟩) 1 1) (hn : n ≤ 1000000)
    (hK : ∀ v' w', Own w1 w' 3 1 v' (n + 1) (xs ++ [vint y]) → wpList Try.prog ops Q rest (a.put o.dst v') w') :
    wpList Try.prog ops Q (o :: rest) a (w.alloc (.cells #[.int .i64 y] 3)) :=
  own_append int_elem hg s x 22 hop Try.underlying22 v n xs hs hown #[.int .i64 y] 1 hx rfl (by intro u hu; simp at hu; subst hu; rfl) (by omega) (by unfold maxLen; omega) fun v' w' h _ => hK v' w' h
end
end Go.Proofs.Ytbclbcldplmppaa

/- Pistons, third text: the places, by the code (stores into a made slice) and by the reference (appends). -/
namespace Go.Proofs.Ytbclbcldplmppaa
open Go.RowKit

def placeS (lift : List Int) (op st : Int) : Nat → Int
  | 0 => 0
  | t + 1 => tickS lift op st (placeS lift op st t) (t + 1)

/-- The first t of n numbers are those of f, the others are 0. -/
def fill (f : Nat → Int) (n t : Nat) : List Int := (List.range n).map fun i => if i < t then f i else 0
theorem fill_length (f : Nat → Int) (n t : Nat) : (fill f n t).length = n := by simp [fill]
theorem fill_get (f : Nat → Int) (n t i : Nat) (hi : i < n) (ht : i < t) : getI (fill f n t) i = f i := by simp [getI, fill, hi, ht]
theorem fill_set (f : Nat → Int) (n t : Nat) : (fill f n t).set t (f t) = fill f n (t + 1) := by
  apply List.ext_getElem
  · simp [fill]
  · intro i h1 h2
    simp only [fill, List.getElem_set, List.getElem_map, List.getElem_range]
    by_cases hi : t = i
    · subst hi; simp
    · rw [if_neg hi]
      by_cases h3 : i < t
      · rw [if_pos h3, if_pos (by omega)]
      · rw [if_neg h3, if_neg (by omega)]
theorem fill_zero (f : Nat → Int) (n : Nat) : (madeCells (Value.cells (.int .i64 0)) (n * 1)).toList = (fill f n 0).map vint := by
  apply List.ext_getElem
  · simp [fill, madeCells]
  · intro i h1 h2
    simp [fill, madeCells, Value.cells, Nat.mod_one]
theorem fill_all (f : Nat → Int) (n : Nat) : fill f n n = (List.range n).map f := by
  apply List.map_congr_left
  intro i hi
  rw [if_pos (by simpa using hi)]
theorem fill_one (f : Nat → Int) (n : Nat) (h0 : f 0 = 0) : fill f n 0 = fill f n 1 := by
  apply List.map_congr_left
  intro i hi
  by_cases h : i = 0
  · subst h; simp [h0]
  · rw [if_neg (by omega), if_neg (by omega)]

theorem tick_bd (lift : List Int) (op st x : Int) (t : Nat) (h0 : 0 ≤ x) (h1 : x ≤ st) (hs : 1 ≤ st) : 0 ≤ tickS lift op st x t ∧ tickS lift op st x t ≤ st := by
  unfold tickS
  split <;> omega
theorem place_bd (lift : List Int) (op st : Int) (hs : 1 ≤ st) : ∀ t, 0 ≤ placeS lift op st t ∧ placeS lift op st t ≤ st
  | 0 => by simp [placeS]; omega
  | t + 1 => by
    have := place_bd lift op st hs t
    exact tick_bd lift op st _ _ this.1 this.2 hs

def placesL (lift : List Int) (op st : Int) (n : Nat) : List Int := (List.range n).map (placeS lift op st)

set_option maxHeartbeats 400000 in
theorem places_bad (A : Option Addr) (c : Nat) (lift : List Int) (op st : Int) (ticks : Int) (w : World) (hA : Ints w A lift) (hn2 : lift.length ≤ 100000) (hbad : ¬ (vpB lift op st = true ∧ 0 ≤ ticks ∧ ticks ≤ 10000)) :
    Calls Try.prog 14 #[.agg #[.slice A lift.length c, .int .i64 op, .int .i64 st], .int .i64 ticks] w fun e w' => e = .returned (.tuple #[.slice none 0 0, .int .i64 2]) ∧ Ext w w' := by
  have c1 := fun (w' : World) (he : Ext w w') => check_piston A c lift op st w' (hA.ext he) hn2
  have C1 := Lib.hid c1
  clear c1
  generalize lift.length = n at *
  cases hv : vpB lift op st
  · have hb : cpS lift op st = 2 := by simp [cpS, hv]
    rw [hb] at C1
    clear hb
    go_enter Try.func14, Try.ntmps14
    go_wp2_with (go_at_call 17; refine (C1.out _ (by simp)).mono ?_; rintro e w' ⟨rfl, h1⟩)
    go_ret2
    exact ⟨rfl, Ext.trans (by simp) h1⟩
  · have hb : cpS lift op st = 0 := by simp [cpS, hv]
    rw [hb] at C1
    clear hb
    have h10 : 0 ≤ ticks → 10000 < ticks := fun h => by
      rcases Int.lt_or_le 10000 ticks with h' | h'
      · exact h'
      · exact absurd ⟨hv, h, h'⟩ hbad
    clear hbad
    by_cases h0 : 0 ≤ ticks
    · have h1 := h10 h0
      clear h10
      go_enter Try.func14, Try.ntmps14
      go_wp2_with (go_at_call 17; refine (C1.out _ (by simp)).mono ?_; rintro e w' ⟨rfl, h1⟩)
      go_ret2
      exact ⟨rfl, Ext.trans (by simp) h1⟩
    · clear h10
      go_enter Try.func14, Try.ntmps14
      go_wp2_with (go_at_call 17; refine (C1.out _ (by simp)).mono ?_; rintro e w' ⟨rfl, h1⟩)
      go_ret2
      exact ⟨rfl, Ext.trans (by simp) h1⟩

set_option maxHeartbeats 400000 in
theorem places_good (A : Option Addr) (c : Nat) (lift : List Int) (op st : Int) (ticks : Nat) (w : World) (hA : Ints w A lift) (hn2 : lift.length ≤ 100000) (hv : vpB lift op st = true) (ht : ticks ≤ 10000) :
    Calls Try.prog 14 #[.agg #[.slice A lift.length c, .int .i64 op, .int .i64 st], .int .i64 ticks] w fun e w' => ∃ v, e = .returned (.tuple #[v, .int .i64 0]) ∧ OwnI w w' v (placesL lift op st (ticks + 1)) := by
  have hvp : vpP lift op st := by simpa [vpB] using hv
  have hn : 0 < lift.length := by have := hvp.1; omega
  have c1 := fun (w' : World) (he : Ext w w') => check_piston A c lift op st w' (hA.ext he) hn2
  have hb : cpS lift op st = 0 := by simp [cpS, hv]
  rw [hb] at c1
  have c2 := fun (x : Int) (t : Nat) (h1 : 1 ≤ t) (h2 : t ≤ 1000000) (h3 : 0 ≤ x) (h4 : x ≤ 1000000) (w' : World) (he : Ext w w') => tick_any A c lift op st x t w' (hA.ext he) hn hn2 h1 h2 h3 h4
  have C1 := Lib.hid c1
  have C2 := Lib.hid c2
  clear c1 c2 hb hv
  generalize lift.length = n at *
  go_enter Try.func14, Try.ntmps14
  go_wp2_with (first
    | (go_at_call 17; refine (C1.out _ (by simp)).mono ?_; rintro e w1 ⟨rfl, h1⟩)
    | (refine own_make (w1 := w1) int_elem rfl _ _ rfl Try.underlying22 _ (ticks + 1) rfl (by omega) (by omega) (by unfold maxLen; omega) (Ext.refl _) ?_; intro w2 hown hx))
  have hp0 : ∀ w', Ext w1 w' → w'.cell? ⟨w.heap.size, 0, none⟩ = some (.slice A n c) := fun w' he => (h1.trans he).cell (by simp)
  have hp1 : ∀ w', Ext w1 w' → w'.cell? ⟨w.heap.size, 1, none⟩ = some (.int .i64 op) := fun w' he => (h1.trans he).cell (by simp)
  have hp2 : ∀ w', Ext w1 w' → w'.cell? ⟨w.heap.size, 2, none⟩ = some (.int .i64 st) := fun w' he => (h1.trans he).cell (by simp)
  have hw1 : Ext w w1 := Ext.trans (by simp) h1
  have hown1 : Own w1 w2 3 1 (.slice (some ⟨w1.heap.size, 0, none⟩) (ticks + 1) (ticks + 1)) (ticks + 1) ((fill (placeS lift op st) (ticks + 1) 1).map vint) := by
    rw [← fill_one (placeS lift op st) _ rfl, ← fill_zero]; exact hown
  clear hown
  go_loopw [7] (fun i wr => ∃ k : Nat, 1 ≤ k ∧ k ≤ ticks + 1 ∧ i = .int .i64 k ∧ Own w1 wr 3 1 (.slice (some ⟨w1.heap.size, 0, none⟩) (ticks + 1) (ticks + 1)) (ticks + 1) ((fill (placeS lift op st) (ticks + 1) k).map vint)) (fun i _ => ticks + 1 - (intOf i).toNat)
  case atStart => exact ⟨1, by omega, by omega, rfl, hown1⟩
  case round =>
    obtain ⟨k, hk1, hk2, rfl, hown⟩ := hrel
    by_cases hlt : k ≤ ticks
    · have hex := hown.ext
      have hck : ∀ w', Ext wr w' → w'.cell? ⟨w1.heap.size, k - 1, none⟩ = some (.int .i64 (placeS lift op st (k - 1))) := fun w' he => he.cell (by
        rw [hown.cell (by simp [fill_length]; omega)]
        rw [show (List.map vint (fill (placeS lift op st) (ticks + 1) k))[k - 1]? = some (vint (getI (fill (placeS lift op st) (ticks + 1) k) (k - 1))) by simp [getI, fill_length, show k - 1 < ticks + 1 by omega]]
        rw [fill_get _ _ _ _ (by omega) (by omega)])
      have hp0 : ∀ w', Ext wr w' → w'.cell? ⟨w.heap.size, 0, none⟩ = some (.slice A n c) := fun w' he => hp0 w' (hex.trans he)
      have hp1 : ∀ w', Ext wr w' → w'.cell? ⟨w.heap.size, 1, none⟩ = some (.int .i64 op) := fun w' he => hp1 w' (hex.trans he)
      have hp2 : ∀ w', Ext wr w' → w'.cell? ⟨w.heap.size, 2, none⟩ = some (.int .i64 st) := fun w' he => hp2 w' (hex.trans he)
      have e2 : IntKind.i64.wrap ((k : Int) - 1) = ((k - 1 : Nat) : Int) := by rw [IntKind.wrap_i64]; omega
      have b1 : ((k - 1 : Nat) : Int) < ((ticks + 1 : Nat) : Int) := by omega
      have hbd := place_bd lift op st hvp.2.2.2.2.2.1 (k - 1)
      have hst := hvp.2.2.2.2.2.2
      have hs : placeS lift op st k = tickS lift op st (placeS lift op st (k - 1)) k := by
        obtain ⟨j, rfl⟩ : ∃ j, k = j + 1 := ⟨k - 1, by omega⟩
        rfl
      have Hs := Lib.hid hs
      clear hs
      go_wp2
      refine wp_region_calm 10 (fun _ _ v _ => v = .int .i64 (placeS lift op st k)) (fun _ _ _ _ _ _ h => h) (by kernel_rfl) (by kernel_rfl) ?_
      simp only [List.take_succ_cons, List.take_zero, List.drop_succ_cons, List.drop_zero]
      refine calm_quiet calm_mono_final 9 (by kernel_rfl) ?_
      simp only [List.take_succ_cons, List.take_zero, List.drop_succ_cons, List.drop_zero]
      repeat (go_big_quiet_step (fail))
      refine wpQuiet_nil ?_
      refine calm_call calm_mono_final 52 #[.agg #[.slice A n c, .int .i64 op, .int .i64 st], .int .i64 (placeS lift op st (k - 1)), .int .i64 k] rfl (fun w => ?_) (fun w he _ => ?_) ?_
      · go_simp
      · exact (C2.out _ _ hk1 (by omega) (by omega) (by omega) w (hw1.trans (hex.trans he))).mono fun e w'' ⟨he', hx⟩ => ⟨_, he', hx, by rw [Hs.out]⟩
      rintro _ _ _ rfl
      refine calm_nil fun w3 he3 _ => ?_
      have hown3 := hown.later he3
      obtain ⟨z, hz⟩ : ∃ z, w3.cell? ⟨w1.heap.size, k, none⟩ = some z := ⟨_, (hown3.cell (j := k) (by simp [fill_length]; omega)).trans (List.getElem?_eq_getElem (by simp [fill_length]; omega))⟩
      have hf := hown3.free k
      have b2 : (k : Int) < ((ticks + 1 : Nat) : Int) := by omega
      go_wp2
      go_roundw
      case rel => 
        refine ⟨k + 1, by omega, by omega, by go_num, ?_⟩
        rw [← fill_set, List.map_set]
        exact hown3.store k _
      case measure => simp [intOf]; omega
    · go_wp2
      go_ret2
      have hk : k = ticks + 1 := by omega
      subst hk
      refine ⟨_, rfl, ?_⟩
      rw [fill_all] at hown
      have hown := hown.since hw1
      simpa [OwnI, placesL] using hown
end Go.Proofs.Ytbclbcldplmppaa

/- Pistons, fourth text: the reference's places (appends), two lists compared. -/
namespace Go.Proofs.Ytbclbcldplmppaa
open Go.RowKit

theorem placesL_succ (lift : List Int) (op st : Int) (n : Nat) : placesL lift op st (n + 1) = placesL lift op st n ++ [placeS lift op st n] := by simp [placesL, List.range_succ]
theorem placesL_length (lift : List Int) (op st : Int) (n : Nat) : (placesL lift op st n).length = n := by simp [placesL]
theorem placesL_get (lift : List Int) (op st : Int) (n i : Nat) (h : i < n) : getI (placesL lift op st n) i = placeS lift op st i := by simp [getI, placesL, h]

theorem moved_step {lift : List Int} {op st : Int} {w1 w' : World} {v : Value} {x : Int} {k : Nat} (h : Own w1 w' 3 1 v (k + 1) ((placesL lift op st k).map vint ++ (#[vint x] : Array Value).toList)) (hx : x = placeS lift op st k) :
    Own w1 w' 3 1 v (k + 1) ((placesL lift op st (k + 1)).map vint) := by
  rw [placesL_succ, List.map_append]
  subst hx
  exact h

set_option maxHeartbeats 800000 in
theorem moved_any (A : Option Addr) (c : Nat) (lift : List Int) (op st : Int) (ticks : Nat) (w : World) (hA : Ints w A lift) (hn2 : lift.length ≤ 100000) (hv : vpB lift op st = true) (ht : ticks ≤ 200000) :
    Calls Try.prog 55 #[.agg #[.slice A lift.length c, .int .i64 op, .int .i64 st], .int .i64 ticks] w fun e w' => ∃ v, e = .returned v ∧ OwnI w w' v (placesL lift op st (ticks + 1)) := by
  have hvp : vpP lift op st := by simpa [vpB] using hv
  have hn : 0 < lift.length := by have := hvp.1; omega
  have hst : st ≤ 20 := hvp.2.2.2.2.2.2
  have hst1 : 1 ≤ st := hvp.2.2.2.2.2.1
  obtain ⟨ad, rfl, hc⟩ := hA.some_ hn
  have htk : ∀ x t, tickS lift op st x t = if op ≤ getI lift ((t - 1) % lift.length) then min (x + 1) st else max (x - 1) 0 := fun _ _ => rfl
  have Htk := Lib.hid htk
  have hpl : ∀ t, 1 ≤ t → placeS lift op st t = tickS lift op st (placeS lift op st (t - 1)) t := fun t h => by
    obtain ⟨j, rfl⟩ : ∃ j, t = j + 1 := ⟨t - 1, by omega⟩
    rfl
  have Hpl := Lib.hid hpl
  have hbd := place_bd lift op st hst1
  have Hbd := Lib.hid hbd
  clear hvp hA hv htk hpl hbd
  obtain ⟨lw, hlw⟩ : ∃ lw, lw = lift.length := ⟨_, rfl⟩
  rw [← hlw] at Htk hc hn2 hn ⊢
  have Hlw := Lib.hid hlw
  clear hlw
  go_enter Try.func55, Try.ntmps55
  go_wp2
  have hw1 : Ext w (w.alloc (.cells #[.slice (some ad) lw c, .int .i64 op, .int .i64 st] 24)) := by simp
  have hp0 : ∀ w', Ext (w.alloc (.cells #[.slice (some ad) lw c, .int .i64 op, .int .i64 st] 24)) w' → w'.cell? ⟨w.heap.size, 0, none⟩ = some (.slice (some ad) lw c) := fun w' he => he.cell (by simp)
  have hp1 : ∀ w', Ext (w.alloc (.cells #[.slice (some ad) lw c, .int .i64 op, .int .i64 st] 24)) w' → w'.cell? ⟨w.heap.size, 1, none⟩ = some (.int .i64 op) := fun w' he => he.cell (by simp)
  have hp2 : ∀ w', Ext (w.alloc (.cells #[.slice (some ad) lw c, .int .i64 op, .int .i64 st] 24)) w' → w'.cell? ⟨w.heap.size, 2, none⟩ = some (.int .i64 st) := fun w' he => he.cell (by simp)
  have hsz : (w.alloc (.cells #[.slice (some ad) lw c, .int .i64 op, .int .i64 st] 24)).heap.size = w.heap.size + 1 := by simp
  generalize w.alloc (.cells #[.slice (some ad) lw c, .int .i64 op, .int .i64 st] 24) = w1 at *
  have hown0 : Own w1 (w1.alloc (.cells #[.int .i64 0] 3)) 3 1 (.slice (some ⟨w.heap.size + 1, 0, none⟩) 1 1) 1 ((placesL lift op st 1).map vint) := by
    rw [← hsz]; exact Own.lit (Ext.refl _) #[.int .i64 0] 1 (by unfold maxLen; omega) rfl
  clear hsz
  go_loopw [5, 6] (fun v i wr => ∃ k : Nat, 1 ≤ k ∧ k ≤ ticks + 1 ∧ i = .int .i64 k ∧ Own w1 wr 3 1 v k ((placesL lift op st k).map vint)) (fun _ i _ => ticks + 1 - (intOf i).toNat)
  case atStart => exact ⟨1, by omega, by omega, rfl, hown0⟩
  case round =>
    obtain ⟨k, hk1, hk2, rfl, hown⟩ := hrel
    obtain ⟨g, cp, rfl, hge, hlt⟩ := hown.at_ (by omega)
    by_cases hle : k ≤ ticks
    · have hex := hown.ext
      have hgt := hown.cell (j := k - 1) (by simp [placesL_length]; omega)
      rw [show (List.map vint (placesL lift op st k))[k - 1]? = some (vint (getI (placesL lift op st k) (k - 1))) by simp [getI, placesL_length, show k - 1 < k by omega], placesL_get _ _ _ _ _ (by omega)] at hgt
      have hj := Nat.mod_lt (k - 1) hn
      have hcj := fun w' (he : Ext wr w') => hc ((k - 1) % lw) hj w' (hw1.trans (hex.trans he))
      have q0 : ∀ w', Ext wr w' → w'.cell? ⟨w.heap.size, 0, none⟩ = some (.slice (some ad) lw c) := fun w' he => hp0 w' (hex.trans he)
      have q1 : ∀ w', Ext wr w' → w'.cell? ⟨w.heap.size, 1, none⟩ = some (.int .i64 op) := fun w' he => hp1 w' (hex.trans he)
      have q2 : ∀ w', Ext wr w' → w'.cell? ⟨w.heap.size, 2, none⟩ = some (.int .i64 st) := fun w' he => hp2 w' (hex.trans he)
      have hb := Hbd.out (k - 1)
      have hfin : ∀ y, (if op ≤ getI lift ((k - 1) % lw) then min (placeS lift op st (k - 1) + 1) st else max (placeS lift op st (k - 1) - 1) 0) = y → y = placeS lift op st k := fun y h => by rw [Hpl.out k hk1, Htk.out]; exact h.symm
      have Hfin := Lib.hid hfin
      clear hfin
      have e1 : IntKind.i64.wrap ((k : Int) - 1) = ((k - 1 : Nat) : Int) := by rw [IntKind.wrap_i64]; omega
      have e2 : (((k - 1 : Nat) : Int)).tmod (lw : Int) = (((k - 1) % lw : Nat) : Int) := by
        rw [Int.tmod_eq_emod_of_nonneg (by omega)]; exact (Int.natCast_emod _ _).symm
      have e3 : ((lw : Int) = 0) = False := by simp; omega
      have b2 : (((k - 1) % lw : Nat) : Int) < lw := by omega
      have b3 : ((k - 1 : Nat) : Int) < (k : Int) := by omega
      generalize (k - 1) % lw = j at *
      generalize placeS lift op st (k - 1) = x at *
      generalize getI lift j = y at *
      have e4 : IntKind.i64.wrap (x + 1) = x + 1 := by rw [IntKind.wrap_i64]; omega
      have e5 : IntKind.i64.wrap (x - 1) = x - 1 := by rw [IntKind.wrap_i64]; omega
      go_wp2
      go_quiet (fail)
      go_wp2_with (at_builtin; refine own_append_int (w := wr.drewN nq) rfl _ _ rfl (.slice (some ⟨g, 0, none⟩) k cp) k _ rfl (hown.later (by simp)) _ rfl (by omega) ?_; intro v' w2 hown2)
      all_goals
        go_roundw
        case rel => exact ⟨k + 1, by omega, by omega, by go_num, moved_step hown2 (Hfin.out _ (by split <;> omega))⟩
        case measure => simp [intOf]; omega
    · go_wp2
      go_ret
      have hk : k = ticks + 1 := by omega
      subst hk
      exact ⟨_, rfl, by simpa [OwnI, placesL] using hown.since hw1⟩
end Go.Proofs.Ytbclbcldplmppaa

/- Lists of numbers compared and copied; the reference's Places. -/
namespace Go.Proofs.Ytbclbcldplmppaa
open Go.RowKit

def sameB (xs ys : List Int) : Bool := decide (xs = ys)
theorem sameB_true {xs ys : List Int} (hl : xs.length = ys.length) (h : ∀ j, j < xs.length → getI xs j = getI ys j) : true = sameB xs ys := by
  have : xs = ys := by
    apply List.ext_getElem hl
    intro i h1 h2
    have := h i h1
    rwa [getI_eq h1, getI_eq h2] at this
  simp [sameB, this]
theorem sameB_len {xs ys : List Int} (hl : xs.length ≠ ys.length) : false = sameB xs ys := by
  have : xs ≠ ys := fun h => hl (by rw [h])
  simp [sameB, this]
theorem sameB_at {xs ys : List Int} (j : Nat) (h : getI xs j ≠ getI ys j) : false = sameB xs ys := by
  have : xs ≠ ys := fun h' => h (by rw [h'])
  simp [sameB, this]

set_option maxHeartbeats 400000 in
theorem same_ints (A B : Option Addr) (c d : Nat) (xs ys : List Int) (w : World) (hA : Ints w A xs) (hB : Ints w B ys) (hx : xs.length ≤ 1000000) :
    Calls Try.prog 16 #[.slice A xs.length c, .slice B ys.length d] w fun e w' => e = .returned (.bool (sameB xs ys)) ∧ Ext w w' := by
  by_cases hl : xs.length = ys.length
  · have ht := fun h => sameB_true hl h
    have hf := fun j h => sameB_at (xs := xs) (ys := ys) j h
    have Ht := Lib.hid ht
    have Hf := Lib.hid hf
    have ca := fun (k : Nat) (hk : k < xs.length) => hA.some_ (by omega)
    have cb := fun (k : Nat) (hk : k < xs.length) => hB.some_ (by omega)
    have Ca := Lib.hid ca
    have Cb := Lib.hid cb
    clear ca cb ht hf hA hB
    rw [← hl] at Cb ⊢
    clear hl
    generalize xs.length = n at *
    go_enter Try.func16, Try.ntmps16
    go_wp2
    go_loopw [5] (fun i wr => ∃ k : Nat, k ≤ n ∧ i = .int .i64 k ∧ Ext w wr ∧ ∀ j, j < k → getI xs j = getI ys j) (fun i _ => n - (intOf i).toNat)
    case atStart => exact ⟨0, by omega, rfl, Ext.refl _, fun j hj => by omega⟩
    case round =>
      obtain ⟨k, hk, rfl, hex, hall⟩ := hrel
      have Hall := Lib.hid hall
      clear hall
      by_cases hlt : k < n
      · obtain ⟨ad, rfl, hca⟩ := Ca.out k hlt
        obtain ⟨bd, rfl, hcb⟩ := Cb.out k hlt
        have c1 := hca k hlt wr hex
        have c2 := hcb k hlt wr hex
        have b1 : (k : Int) < (n : Int) := by omega
        clear hca hcb
        go_wp2
        go_quiet (fail)
        go_wp2
        · go_ret
          exact ⟨ret_b (Hf.out k (by simp_all)), hex.trans (by simp)⟩
        · go_roundw
          case rel => exact ⟨k + 1, by omega, by go_num, hex.trans (by simp), fun j hj => by
            by_cases hjk : j = k
            · subst hjk; simp_all
            · exact Hall.out j (by omega)⟩
          case measure => simp [intOf]; omega
      · go_wp2
        go_ret
        exact ⟨ret_b (Ht.out fun j hj => Hall.out j (by omega)), hex⟩
  · have hf := sameB_len hl
    have hne : ((xs.length : Int) != (ys.length : Int)) = true := by rw [bne_iff_ne]; omega
    have Hf := Lib.hid hf
    clear hf hl hA hB
    generalize xs.length = n at *
    generalize ys.length = m at *
    go_enter Try.func16, Try.ntmps16
    go_wp2
    go_ret
    exact ⟨ret_b Hf.out, by simp⟩
set_option maxHeartbeats 400000 in
theorem equal_ints (A B : Option Addr) (c d : Nat) (xs ys : List Int) (w : World) (hA : Ints w A xs) (hB : Ints w B ys) (hx : xs.length ≤ 1000000) :
    Calls Try.prog 60 #[.slice A xs.length c, .slice B ys.length d] w fun e w' => e = .returned (.bool (sameB xs ys)) ∧ Ext w w' := by
  by_cases hl : xs.length = ys.length
  · have ht := fun h => sameB_true hl h
    have hf := fun j h => sameB_at (xs := xs) (ys := ys) j h
    have Ht := Lib.hid ht
    have Hf := Lib.hid hf
    have ca := fun (k : Nat) (hk : k < xs.length) => hA.some_ (by omega)
    have cb := fun (k : Nat) (hk : k < xs.length) => hB.some_ (by omega)
    have Ca := Lib.hid ca
    have Cb := Lib.hid cb
    clear ca cb ht hf hA hB
    rw [← hl] at Cb ⊢
    clear hl
    generalize xs.length = n at *
    go_enter Try.func60, Try.ntmps60
    go_wp2
    go_loopw [13] (fun i wr => ∃ k : Nat, k ≤ n ∧ i = .int .i64 k ∧ Ext w wr ∧ ∀ j, j < k → getI xs j = getI ys j) (fun i _ => n - (intOf i).toNat)
    case atStart => exact ⟨0, by omega, rfl, Ext.refl _, fun j hj => by omega⟩
    case round =>
      obtain ⟨k, hk, rfl, hex, hall⟩ := hrel
      have Hall := Lib.hid hall
      clear hall
      by_cases hlt : k < n
      · obtain ⟨ad, rfl, hca⟩ := Ca.out k hlt
        obtain ⟨bd, rfl, hcb⟩ := Cb.out k hlt
        have c1 := hca k hlt wr hex
        have c2 := hcb k hlt wr hex
        have b1 : (k : Int) < (n : Int) := by omega
        clear hca hcb
        go_wp2
        go_quiet (fail)
        go_wp2
        · go_ret
          exact ⟨ret_b (Hf.out k (by simp_all)), hex.trans (by simp)⟩
        · go_roundw
          case rel => exact ⟨k + 1, by omega, by go_num, hex.trans (by simp), fun j hj => by
            by_cases hjk : j = k
            · subst hjk; simp_all
            · exact Hall.out j (by omega)⟩
          case measure => simp [intOf]; omega
      · go_wp2
        go_ret
        exact ⟨ret_b (Ht.out fun j hj => Hall.out j (by omega)), hex⟩
  · have hf := sameB_len hl
    have hne : ((xs.length : Int) != (ys.length : Int)) = true := by rw [bne_iff_ne]; omega
    have Hf := Lib.hid hf
    clear hf hl hA hB
    generalize xs.length = n at *
    generalize ys.length = m at *
    go_enter Try.func60, Try.ntmps60
    go_wp2
    go_ret
    exact ⟨ret_b Hf.out, by simp⟩

/-- slices.Clone: a copy of its own. -/
theorem clone_ints (A : Option Addr) (c : Nat) (xs : List Int) (w : World) (hA : Ints w A xs) (hx : xs.length ≤ 1000000) (hpos : 0 < xs.length) :
    Calls Try.prog 59 #[.slice A xs.length c] w fun e w' => ∃ v, e = .returned v ∧ OwnI w w' v xs := by
  obtain ⟨ad, rfl, _⟩ := hA.some_ hpos
  have HA := Lib.hid hA
  obtain ⟨n, hn⟩ : ∃ n, n = xs.length := ⟨_, rfl⟩
  rw [← hn] at hx hpos ⊢
  have Hn := Lib.hid hn
  clear hn hA
  have hnil := fun W => Lib.run_eql_slice_nil (P := Try.prog) W 22 3 (some ad) n c 0 0 Try.underlying22
  go_enter Try.func59, Try.ntmps59
  have hown0 : Own w (w.alloc (.cells #[] 3)) 3 1 (.slice (some ⟨w.heap.size, 0, none⟩) 0 0) 0 [] := Own.lit (Ext.refl _) #[] 0 (Nat.zero_le _) rfl
  have hrow : Row (w.alloc (.cells #[] 3)) (some ad) (xs.map vint) := Row.ext HA.out (by simp)
  have k1 : (xs.map vint).length = n * 1 := by simp [Hn.out]
  have k2 : ∀ u ∈ xs.map vint, u.oneCell' = true := by intro u hu; simp at hu; obtain ⟨x, _, rfl⟩ := hu; rfl
  have K1 := Lib.hid k1
  have K2 := Lib.hid k2
  clear k1 k2
  go_wp2_with (at_builtin; refine own_append_src (w1 := w) int_elem rfl _ _ 22 rfl Try.underlying22 (.slice (some ⟨w.heap.size, 0, none⟩) 0 0) 0 [] rfl hown0 ad n c (xs.map vint) rfl K1.out hrow K2.out (by omega) (by unfold maxLen; omega) ?_; intro v' w2 hown2 _)
  go_ret
  rw [Nat.zero_add, List.nil_append, Hn.out] at hown2
  exact ⟨_, rfl, hown2⟩
end Go.Proofs.Ytbclbcldplmppaa

/- Pistons, fifth text: the reference's Places; the greatest common divisor; slices of pistons. -/
namespace Go.Proofs.Ytbclbcldplmppaa
open Go.RowKit

set_option maxHeartbeats 400000 in
theorem places_ref_bad (A : Option Addr) (c : Nat) (lift : List Int) (op st : Int) (ticks : Int) (w : World) (hA : Ints w A lift) (hn2 : lift.length ≤ 100000) (hbad : ¬ (vpB lift op st = true ∧ 0 ≤ ticks ∧ ticks ≤ 10000)) :
    Calls Try.prog 15 #[.agg #[.slice A lift.length c, .int .i64 op, .int .i64 st], .int .i64 ticks] w fun e w' => e = .returned (.tuple #[.slice none 0 0, .int .i64 2]) ∧ Ext w w' := by
  have c1 := fun (w' : World) (he : Ext w w') => valid_piston A c lift op st w' (hA.ext he) hn2
  have C1 := Lib.hid c1
  clear c1
  cases hv : vpB lift op st
  · generalize lift.length = n at *
    rw [hv] at C1
    go_enter Try.func15, Try.ntmps15
    go_wp2_with (go_at_call 53; refine (C1.out _ (by simp)).mono ?_; rintro e w' ⟨rfl, h1⟩)
    go_ret2
    exact ⟨rfl, Ext.trans (by simp) h1⟩
  · have hw : withinB ticks 0 10000 = false := withinB_false.2 fun h => hbad ⟨hv, h.1, h.2⟩
    clear hbad
    generalize lift.length = n at *
    rw [hv] at C1
    clear hv
    go_enter Try.func15, Try.ntmps15
    go_wp2_with (first
      | (go_at_call 53; refine (C1.out _ (by simp)).mono ?_; rintro e w' ⟨rfl, h1⟩)
      | (go_at_call 54; refine (within_any _ _ _ _).mono ?_; rintro e w' ⟨rfl, rfl⟩))
    go_ret2
    exact ⟨rfl, Ext.trans (by simp) h1⟩

set_option maxHeartbeats 400000 in
theorem places_ref_good (A : Option Addr) (c : Nat) (lift : List Int) (op st : Int) (ticks : Nat) (w : World) (hA : Ints w A lift) (hn2 : lift.length ≤ 100000) (hv : vpB lift op st = true) (ht : ticks ≤ 10000) :
    Calls Try.prog 15 #[.agg #[.slice A lift.length c, .int .i64 op, .int .i64 st], .int .i64 ticks] w fun e w' => ∃ v, e = .returned (.tuple #[v, .int .i64 0]) ∧ OwnI w w' v (placesL lift op st (ticks + 1)) := by
  have c1 := fun (w' : World) (he : Ext w w') => valid_piston A c lift op st w' (hA.ext he) hn2
  have c2 := fun (w' : World) (he : Ext w w') => moved_any A c lift op st ticks w' (hA.ext he) hn2 hv (by omega)
  rw [hv] at c1
  have C1 := Lib.hid c1
  have C2 := Lib.hid c2
  have hw : withinB ticks 0 10000 = true := withinB_true.2 ⟨by omega, by omega⟩
  clear c1 c2 hv
  generalize lift.length = n at *
  have hp0 : ∀ (w1 : World), Ext (w.alloc (.cells #[.slice A n c, .int .i64 op, .int .i64 st] 24)) w1 → w1.cell? ⟨w.heap.size, 0, none⟩ = some (.slice A n c) := fun w' he => he.cell (by simp)
  have hp1 : ∀ (w1 : World), Ext (w.alloc (.cells #[.slice A n c, .int .i64 op, .int .i64 st] 24)) w1 → w1.cell? ⟨w.heap.size, 1, none⟩ = some (.int .i64 op) := fun w' he => he.cell (by simp)
  have hp2 : ∀ (w1 : World), Ext (w.alloc (.cells #[.slice A n c, .int .i64 op, .int .i64 st] 24)) w1 → w1.cell? ⟨w.heap.size, 2, none⟩ = some (.int .i64 st) := fun w' he => he.cell (by simp)
  go_enter Try.func15, Try.ntmps15
  go_wp2_with (first
    | (go_at_call 53; refine (C1.out _ (by simp)).mono ?_; rintro e w1 ⟨rfl, h1⟩)
    | (go_at_call 54; refine (within_any _ _ _ _).mono ?_; rintro e w' ⟨rfl, rfl⟩)
    | (go_at_call 55; refine (C2.out _ (Ext.trans (by simp) h1)).mono ?_; rintro e w2 ⟨v, rfl, hown⟩))
  go_ret2
  exact ⟨_, rfl, hown.since (Ext.trans (by simp) h1)⟩

/-! ### The greatest common divisor -/

def dvS (a b : Int) : Int := (if b < 0 then -1 else 1) * (Int.gcd a b : Int)

theorem gcd_tmod (x y : Int) : Int.gcd y (x.tmod y) = Int.gcd x y := by
  show Nat.gcd y.natAbs (x.tmod y).natAbs = Nat.gcd x.natAbs y.natAbs
  rw [Int.natAbs_tmod, Nat.gcd_comm x.natAbs y.natAbs, Nat.gcd_comm, ← Nat.gcd_rec]

set_option maxHeartbeats 400000 in
theorem divisor_any (a b : Int) (w : World) (hb1 : -9223372036854775807 ≤ b) (hb2 : b ≤ 9223372036854775807) (ha : b = 0 → -9223372036854775807 ≤ a ∧ a ≤ 9223372036854775807) :
    Calls Try.prog 58 #[.int .i64 a, .int .i64 b] w fun e w' => e = .returned (.int .i64 (dvS a b)) ∧ Ext w w' := by
  have hfin : ∀ x s : Int, (Int.gcd x 0 = Int.gcd a b) → s = (if b < 0 then -1 else 1) → s * max x (-x) = dvS a b := fun x s h1 h2 => by
    unfold dvS
    rw [← h1, h2]
    congr 1
    simp [Int.gcd]
    omega
  have Hfin := Lib.hid hfin
  clear hfin
  have a1 : b = 0 → -9223372036854775807 ≤ a := fun h => (ha h).1
  have a2 : b = 0 → a ≤ 9223372036854775807 := fun h => (ha h).2
  have A1 := Lib.hid a1
  have A2 := Lib.hid a2
  clear ha a1 a2
  go_enter Try.func58, Try.ntmps58
  go_wp2
  all_goals
    go_loopw [0, 1] (fun u v wr => ∃ x y : Int, u = .int .i64 x ∧ v = .int .i64 y ∧ Ext w wr ∧ Int.gcd x y = Int.gcd a b ∧ -9223372036854775807 ≤ y ∧ y ≤ 9223372036854775807 ∧ (y = 0 → -9223372036854775807 ≤ x) ∧ (y = 0 → x ≤ 9223372036854775807)) (fun _ v _ => (intOf v).natAbs)
    case atStart => exact ⟨a, b, rfl, rfl, Ext.refl _, rfl, hb1, hb2, A1.out, A2.out⟩
    case round =>
      obtain ⟨x, y, rfl, rfl, hex, hg, h1, h2, h3, h4⟩ := hrel
      have Hg := Lib.hid hg
      have H3 := Lib.hid h3
      have H4 := Lib.hid h4
      clear hg h3 h4
      by_cases hy : y = 0
      · subst hy
        have h3 := H3.out rfl
        have h4 := H4.out rfl
        go_wp2
        all_goals go_ret
        all_goals refine ⟨ret_i ?_, hex⟩
        all_goals first
          | (rw [← Hfin.out x 1 Hg.out (by rw [if_neg (by omega)])]; omega)
          | (rw [← Hfin.out x (-1) Hg.out (by rw [if_pos (by omega)])]; omega)
      · have hy' : (y == 0) = false := beq_eq_false_iff_ne.2 hy
        have hy2 : (y != 0) = true := by rw [bne_iff_ne]; exact hy
        have hab : (x.tmod y).natAbs < y.natAbs := by rw [Int.natAbs_tmod]; exact Nat.mod_lt _ (by omega)
        have hg2 := gcd_tmod x y
        have Hg2 := Lib.hid hg2
        clear hg2
        go_wp2
        go_quiet (fail)
        go_wp2
        go_roundw
        case rel => exact ⟨y, x.tmod y, rfl, rfl, hex.trans (by simp), Hg2.out.trans Hg.out, by omega, by omega, fun _ => by omega, fun _ => by omega⟩
        case measure => simp [intOf]; exact Nat.mod_lt _ (by omega)
end Go.Proofs.Ytbclbcldplmppaa

/- Pistons, sixth text: the period, by the reference. -/
namespace Go.Proofs.Ytbclbcldplmppaa
open Go.RowKit

structure Pis where
  a : Option Addr
  c : Nat
  lift : List Int
  op : Int
  st : Int
def Pis.cells (p : Pis) : List Value := [.slice p.a p.lift.length p.c, vint p.op, vint p.st]
def Pis.val (p : Pis) : Value := .agg #[.slice p.a p.lift.length p.c, vint p.op, vint p.st]
def Pis.ok (p : Pis) : Bool := vpB p.lift p.op p.st
/-- A slice of pistons, each with its own lifts (of a modest number). -/
structure PRow (w : World) (A : Option Addr) (ps : List Pis) : Prop where
  row : Row w A (ps.map Pis.cells).flatten
  lifts : ∀ p ∈ ps, Ints w p.a p.lift
  small : ∀ p ∈ ps, p.lift.length ≤ 100000
theorem PRow.ext {w w' : World} {A : Option Addr} {ps : List Pis} (h : PRow w A ps) (he : Ext w w') : PRow w' A ps := ⟨h.row.ext he, fun p hp => (h.lifts p hp).ext he, h.small⟩

theorem PRow.at_ {w : World} {A : Option Addr} {ps : List Pis} (h : PRow w A ps) {k : Nat} (hk : k < ps.length) :
    ∃ ad, A = some ad ∧ (∀ w', Ext w w' → w'.cell? (ad.add (k * 3)) = some (.slice ps[k].a ps[k].lift.length ps[k].c)) ∧
      (∀ w', Ext w w' → w'.cell? ⟨(ad.add (k * 3)).block, (ad.add (k * 3)).off + 1, none⟩ = some (.int .i64 ps[k].op)) ∧ (∀ w', Ext w w' → w'.cell? ⟨(ad.add (k * 3)).block, (ad.add (k * 3)).off + 2, none⟩ = some (.int .i64 ps[k].st)) ∧ Ints w ps[k].a ps[k].lift := by
  obtain ⟨ad, ha, hc⟩ := h.row.struct (size := 3) (by simp [Pis.cells]) (k := k) (by simpa using hk) (by omega)
  refine ⟨ad, ha, fun w' he => ?_, fun w' he => ?_, fun w' he => ?_, h.lifts _ (List.getElem_mem hk)⟩
  · have := hc 0 (by omega) w' he
    rw [add_zero_] at this
    simpa [Pis.cells] using this
  · have := hc 1 (by omega) w' he
    rw [add_lit _ _ (by omega)] at this
    simpa [Pis.cells] using this
  · have := hc 2 (by omega) w' he
    rw [add_lit _ _ (by omega)] at this
    simpa [Pis.cells] using this

/-- Whether n is a multiple of all numbers of entries, or above 5000. -/
def fitsB (ps : List Pis) (n : Nat) : Bool := decide (∀ p ∈ ps, n % p.lift.length = 0) || decide (5000 < n)
theorem fitsB_all {ps : List Pis} {n : Nat} (h : ∀ i (hi : i < ps.length), n % ps[i].lift.length = 0) : true = fitsB ps n := by
  have : ∀ p ∈ ps, n % p.lift.length = 0 := fun p hp => by
    obtain ⟨i, hi, rfl⟩ := List.getElem_of_mem hp
    exact h i hi
  simp only [fitsB, decide_eq_true this, Bool.true_or]
theorem fitsB_not {ps : List Pis} {n i : Nat} (hi : i < ps.length) (h : n % ps[i].lift.length ≠ 0) : decide (5000 < n) = fitsB ps n := by
  have : ¬ ∀ p ∈ ps, n % p.lift.length = 0 := fun hh => h (hh _ (List.getElem_mem hi))
  simp only [fitsB, decide_eq_false this, Bool.false_or]

theorem ret_dec {p q : Prop} [Decidable p] [Decidable q] (h : p ↔ q) : decide p = decide q := by simp [h]
theorem mod_ne {n q : Nat} (h : ((n : Int) % (q : Int) != 0) = true) : n % q ≠ 0 := by
  rw [bne_iff_ne] at h
  intro h'
  exact h (by rw [← Int.natCast_emod, h']; rfl)
theorem mod_eq {n q : Nat} (h : ((n : Int) % (q : Int) != 0) = false) : n % q = 0 := by
  have h' : (n : Int) % (q : Int) = 0 := by simpa using h
  rw [← Int.natCast_emod] at h'
  omega

set_option maxHeartbeats 400000 in
theorem fits_any (A : Option Addr) (c : Nat) (ps : List Pis) (n : Nat) (w : World) (hA : PRow w A ps) (hl : ps.length ≤ 1000) (hn : n ≤ 1000000) (hpos : ∀ p ∈ ps, 0 < p.lift.length) :
    Calls Try.prog 91 #[.slice A ps.length c, .int .i64 n] w fun e w' => e = .returned (.bool (fitsB ps n)) ∧ w = w' := by
  have hr := fun k (hk : k < ps.length) => hA.at_ hk
  have ha := fitsB_all (ps := ps) (n := n)
  have hno := fun i (hi : i < ps.length) h => fitsB_not (ps := ps) (n := n) hi h
  have hp := fun i (hi : i < ps.length) => hpos _ (List.getElem_mem hi)
  have hsm := fun i (hi : i < ps.length) => hA.small _ (List.getElem_mem hi)
  have Hr := Lib.hid hr
  have Ha := Lib.hid ha
  have Hno := Lib.hid hno
  have Hp := Lib.hid hp
  have Hsm := Lib.hid hsm
  clear hr ha hno hp hA hpos hsm
  obtain ⟨m, hm⟩ : ∃ m, m = ps.length := ⟨_, rfl⟩
  rw [← hm] at hl ⊢
  have Hm := Lib.hid hm
  clear hm
  go_enter Try.func91, Try.ntmps91
  go_wp2
  go_loop [5] (fun i => ∃ k : Nat, k ≤ m ∧ i = .int .i64 k ∧ ∀ j (hj : j < ps.length), j < k → n % ps[j].lift.length = 0) (fun i => m - (intOf i).toNat)
  case atStart => exact ⟨0, by omega, rfl, fun j _ hj => by omega⟩
  case round =>
    obtain ⟨k, hk, rfl, hall⟩ := hrel
    have Hall := Lib.hid hall
    clear hall
    by_cases hlt : k < m
    · have hkp : k < ps.length := by rw [← Hm.out]; exact hlt
      obtain ⟨ad, rfl, h0, h1, h2, _⟩ := Hr.out k hkp
      have hpk := Hp.out k hkp
      have hsk := Hsm.out k hkp
      have hno := Hno.out k hkp
      have hstep : n % ps[k].lift.length = 0 → ∀ j (hj : j < ps.length), j < k + 1 → n % ps[j].lift.length = 0 := fun h j hj hjk => by
        by_cases e : j = k
        · subst e; exact h
        · exact Hall.out j hj (by omega)
      have e2 : ((n : Int)).tmod (ps[k].lift.length : Int) = ((n % ps[k].lift.length : Nat) : Int) := (Int.tmod_eq_emod_of_nonneg (by omega)).trans (Int.natCast_emod _ _).symm
      generalize ps[k].lift.length = q at *
      have e3 : ((q : Int) = 0) = False := by simp; omega
      have Hno' := Lib.hid hno
      have Hst := Lib.hid hstep
      clear hno hstep
      go_wp2
      · go_ret
        exact ⟨ret_b ((ret_dec (by omega)).trans (Hno'.out (mod_ne (by assumption)))), rfl⟩
      · go_round
        case rel => exact ⟨k + 1, by omega, by go_num, Hst.out (mod_eq (by assumption))⟩
        case measure => simp [intOf]; omega
    · go_wp2
      go_ret
      exact ⟨ret_b (Ha.out fun i hi => Hall.out i hi (by rw [← Hm.out] at hi; omega)), rfl⟩

/-! ### The least period -/

theorem fits_big (ps : List Pis) : fitsB ps 5001 = true := by simp [fitsB]
/-- The least number from k on that fits; the search ends at 5001. -/
def perFrom (ps : List Pis) : Nat → Nat → Nat
  | 0, k => k
  | f + 1, k => if fitsB ps k = true then k else perFrom ps f (k + 1)
def perS (ps : List Pis) : Nat := perFrom ps 5000 1
theorem perFrom_spec (ps : List Pis) : ∀ f k, fitsB ps (k + f) = true → fitsB ps (perFrom ps f k) = true ∧ k ≤ perFrom ps f k ∧ perFrom ps f k ≤ k + f ∧ ∀ j, k ≤ j → j < perFrom ps f k → fitsB ps j = false
  | 0, k, h => ⟨h, Nat.le_refl _, Nat.le_refl _, fun j h1 h2 => by simp [perFrom] at h2; omega⟩
  | f + 1, k, h => by
    unfold perFrom
    split
    · rename_i hk
      exact ⟨hk, Nat.le_refl _, by omega, fun j h1 h2 => by omega⟩
    · rename_i hk
      obtain ⟨h1, h2, h3, h4⟩ := perFrom_spec ps f (k + 1) (by rw [show k + 1 + f = k + (f + 1) by omega]; exact h)
      refine ⟨h1, by omega, by omega, fun j hj1 hj2 => ?_⟩
      by_cases e : j = k
      · subst e; simpa using hk
      · exact h4 j (by omega) hj2
theorem perS_spec (ps : List Pis) : fitsB ps (perS ps) = true ∧ 1 ≤ perS ps ∧ perS ps ≤ 5001 ∧ ∀ j, 1 ≤ j → j < perS ps → fitsB ps j = false := perFrom_spec ps 5000 1 (fits_big ps)

set_option maxHeartbeats 400000 in
theorem period_any (A : Option Addr) (c : Nat) (ps : List Pis) (w : World) (hA : PRow w A ps) (hl : ps.length ≤ 1000) (hpos : ∀ p ∈ ps, 0 < p.lift.length) :
    Calls Try.prog 61 #[.slice A ps.length c] w fun e w' => e = .returned (.int .i64 (perS ps)) ∧ w = w' := by
  have c1 := fun n (hn : n ≤ 1000000) => fits_any A c ps n w hA hl hn hpos
  have sp := perS_spec ps
  have C1 := Lib.hid c1
  have Sp := Lib.hid sp
  clear c1 sp hpos hA
  generalize ps.length = m at *
  go_enter Try.func61, Try.ntmps61
  go_wp2
  go_loop [3] (fun i => ∃ k : Nat, 1 ≤ k ∧ k ≤ perS ps ∧ i = .int .i64 k) (fun i => 6000 - (intOf i).toNat)
  case atStart => exact ⟨1, by omega, Sp.out.2.1, rfl⟩
  case round =>
    obtain ⟨k, hk1, hk2, rfl⟩ := hrel
    have hle : k ≤ 5001 := by have := Sp.out.2.2.1; omega
    have h5 := Sp.out.2.2.1
    by_cases hlt : k < perS ps
    · have hf := Sp.out.2.2.2 k hk1 hlt
      go_wp2_with (go_at_call 91; refine (C1.out _ (by omega)).mono ?_; rintro e w' ⟨rfl, rfl⟩)
      go_round
      case rel => exact ⟨k + 1, by omega, by omega, by go_num⟩
      case measure => simp [intOf]; omega
    · have hk : k = perS ps := by omega
      have hf : fitsB ps k = true := by rw [hk]; exact Sp.out.1
      have Hk := Lib.hid hk
      clear hk
      go_wp2_with (go_at_call 91; refine (C1.out _ (by omega)).mono ?_; rintro e w' ⟨rfl, rfl⟩)
      go_ret
      exact ⟨ret_i (by rw [Hk.out]), rfl⟩
end Go.Proofs.Ytbclbcldplmppaa

/- The arguments of the laws, opened: what the reader calls readable, as lists of numbers and of pistons. -/
namespace Go.Proofs.Ytbclbcldplmppaa
open Go.ChangeShapes Go.WideShapes Go.ChangeAt Go.RowKit Go.Deep

theorem own_knob : ownKnob Try.prog.godebug = none := by kernel_rfl
theorem laid_out : laidOutB Try.prog = true := by kernel_rfl

section
variable {H : Type} {enc : TypeId × Value → H} {w : World} {base : Nat} {held : Bool}

theorem i64_bounds {n : Int} (h : (Lit.int .i64 n).wf = true) : -9223372036854775808 ≤ n ∧ n ≤ 9223372036854775807 := by
  have := h
  simp [Lit.wf, IntKind.min, IntKind.max, IntKind.signed, IntKind.bits] at this
  omega

theorem ints_of {n : Nat} {v : Value} {y : DataW H × List MemPlace} (h : DataW.trod enc Try.prog w base (fun _ => true) held n 22 [v] = some y) :
    ∃ (A : Option Addr) (c : Nat) (xs : List Int), v = .slice A xs.length c ∧ Ints w A xs ∧ xs.length ≤ 9223372036854775807 ∧ ∀ x ∈ xs, -9223372036854775808 ≤ x ∧ x ≤ 9223372036854775807 := by
  rcases open_ints Try.underlying22 Try.underlying3 (by kernel_rfl) h with ⟨hcs, _⟩ | ⟨x, l, c, zs, hcs, _, hl, hm, hz, _, hcell, hwz⟩
  · simp at hcs
    subst hcs
    exact ⟨none, 0, [], rfl, Ints.nil _ _, by simp, by simp⟩
  · simp at hcs hz
    subst hcs
    have hlen : (zs.take l).length = l := by rw [List.length_take]; omega
    refine ⟨some x, c, zs.take l, by rw [hlen], fun k hk => ⟨x, rfl, ?_⟩, by rw [hlen]; unfold maxLen at hm; omega, fun z hz' => i64_bounds (hwz z (List.mem_of_mem_take hz'))⟩
    have hk' : k < l := by rw [List.length_map, hlen] at hk; exact hk
    rw [hcell k (by omega)]
    simp [hk', List.getD]
    rw [List.getElem?_eq_getElem (by omega)]
    simp

theorem int_of {n : Nat} {v : Value} {y : DataW H × List MemPlace} (h : DataW.trod enc Try.prog w base (fun _ => true) held n 3 [v] = some y) : ∃ x, v = .int .i64 x ∧ (Lit.int .i64 x).wf = true := by
  obtain ⟨x, hv, _, hw⟩ := DataW.trod_int Try.underlying3 h
  simp at hv
  exact ⟨x, hv, hw⟩

/-- A slice of structs: for every element and field the cell, and the field's own reading. -/
theorem open_slice_fields {P : Program} {spare : Nat → Bool} {t e : TypeId} {fs : Array Field} {fuel : Nat} {cs : List Value} {x : DataW H × List MemPlace} (ht : P.underlying t = some (.slice e)) (he : P.underlying e = some (.struct fs))
    (hone : oneCellFields P fs = true) (hC : P.cellsOf e = fs.size) (h : DataW.trod enc P w base spare held fuel t cs = some x) :
    (cs = [.slice none 0 0] ∧ x = (.nil, [])) ∨
    ∃ (a : Addr) (len cap : Nat), cs = [.slice (some a) len cap] ∧ len ≤ cap ∧ cap ≤ maxLen ∧
      ∀ i, i < len → ∃ (n : Nat), ∀ (j : Nat) (f : Field), fs[j]? = some f → ∃ (v : Value) (y : DataW H × List MemPlace), w.cell? (a.add (i * fs.size + j)) = some v ∧ DataW.trod enc P w base spare held n f.type [v] = some y := by
  rcases open_slice ht h with h0 | ⟨a, len, cap, m, n, D, Pl, hcs, hb, hl, hm, hmm, hx, hi⟩
  · exact .inl h0
  · refine .inr ⟨a, len, cap, hcs, hl, hm, fun i him => ?_⟩
    obtain ⟨cs', hc, ht'⟩ := hi i (by rw [hmm]; split <;> omega)
    rw [hC] at hc
    obtain ⟨ys, n', hn', hy, hlen, hyl, hf⟩ := DataW.trod_struct he ht'
    obtain ⟨_, hcl, hat⟩ := World.cells?_some hc
    refine ⟨n', fun j f hj => ?_⟩
    obtain ⟨ho, hk⟩ := hone_of hone j f hj
    have hjl : j < fs.size := (Array.getElem?_eq_some_iff.1 hj).1
    have hcell := hat j hjl
    have hv : cs'[j]? = some (cs'[j]'(by omega)) := List.getElem?_eq_getElem (by omega)
    have h1 := hf j f hj
    rw [ho, hk] at h1
    have hone' : (cs'.drop j).take 1 = [cs'[j]'(by omega)] := by
      rw [List.drop_eq_getElem_cons (by omega)]
      rfl
    rw [hone'] at h1
    have hys : ys[j]? = some (ys[j]'(by omega)) := List.getElem?_eq_getElem (by omega)
    refine ⟨_, _, ?_, h1.trans hys⟩
    rw [← Go.Deep.add_add, hcell, hv]
end

section
variable {H : Type} {enc : TypeId × Value → H} {w : World} {base : Nat} {held : Bool}
/-- What is read of a piston. -/
structure PisOk (w : World) (p : Pis) : Prop where
  lift : Ints w p.a p.lift
  len : p.lift.length ≤ 9223372036854775807

set_option maxRecDepth 100000 in
theorem arg_piston {r : Reach} {b0 : Nat} {v : Value} {d : DataW H} {p : List MemPlace} (hv : Value.okWide Try.prog w r b0 24 v) (h : DataW.Trod enc Try.prog w base (fun _ => true) held 24 v d p) :
    ∃ q : Pis, v = q.val ∧ PisOk w q := by
  obtain ⟨v0, v1, v2, y0, y1, y2, n, rfl, _, _, h0, h1, h2⟩ := Joins.open_agg3 Try.underlying24 (by kernel_rfl) (by kernel_rfl) hv h
  obtain ⟨A, c, xs, rfl, hx, hl, _⟩ := ints_of h0
  obtain ⟨a, rfl, _⟩ := int_of h1
  obtain ⟨b, rfl, _⟩ := int_of h2
  exact ⟨⟨A, c, xs, a, b⟩, rfl, hx, hl⟩

set_option maxRecDepth 100000 in
theorem arg_pistons {r : Reach} {b0 : Nat} {v : Value} {d : DataW H} {p : List MemPlace} (hv : Value.okWide Try.prog w r b0 25 v) (h : DataW.Trod enc Try.prog w base (fun _ => true) held 25 v d p) :
    ∃ (A : Option Addr) (c : Nat) (ps : List Pis), v = .slice A ps.length c ∧ Row w A (ps.map Pis.cells).flatten ∧ (∀ q ∈ ps, PisOk w q) ∧ ps.length ≤ 9223372036854775807 := by
  obtain ⟨A0, len0, cap0, rfl⟩ := okWide_slice Try.underlying25 hv
  obtain ⟨fuel, hf⟩ := h
  rcases open_slice_fields Try.underlying25 Try.underlying24 (by kernel_rfl) (by kernel_rfl) hf with ⟨hcs, _⟩ | ⟨a, len, cap, hcs, hl, hm, hi⟩
  · simp [Value.cells] at hcs
    obtain ⟨rfl, rfl, rfl⟩ := hcs
    exact ⟨none, 0, [], rfl, Row.nil _ _, by simp, by simp⟩
  · simp [Value.cells] at hcs
    obtain ⟨rfl, rfl, rfl⟩ := hcs
    have each : ∀ i : Nat, i < len0 → ∃ q : Pis, (∀ j, j < 3 → w.cell? (a.add (i * 3 + j)) = q.cells[j]?) ∧ PisOk w q := fun i hil => by
      obtain ⟨n, hn⟩ := hi i hil
      obtain ⟨v0, y0, c0, h0⟩ := hn 0 _ rfl
      obtain ⟨v1, y1, c1, h1⟩ := hn 1 _ rfl
      obtain ⟨v2, y2, c2, h2⟩ := hn 2 _ rfl
      obtain ⟨A, c, xs, rfl, hx, hl, _⟩ := ints_of h0
      obtain ⟨x, rfl, _⟩ := int_of h1
      obtain ⟨y, rfl, _⟩ := int_of h2
      refine ⟨⟨A, c, xs, x, y⟩, fun j hj => ?_, hx, hl⟩
      match j, hj with
      | 0, _ => exact c0
      | 1, _ => exact c1
      | 2, _ => exact c2
    have pick : ∀ m, m ≤ len0 → ∃ ps : List Pis, ps.length = m ∧ ∀ i (hi : i < ps.length), (∀ j, j < 3 → w.cell? (a.add (i * 3 + j)) = (ps[i].cells)[j]?) ∧ PisOk w ps[i] := by
      intro m
      induction m with
      | zero => exact fun _ => ⟨[], rfl, fun i hi => by simp at hi⟩
      | succ m ih =>
        intro hm'
        obtain ⟨ps, hl, hps⟩ := ih (by omega)
        obtain ⟨q, hq⟩ := each m (by omega)
        refine ⟨ps ++ [q], by simp [hl], fun i hi => ?_⟩
        by_cases e : i < ps.length
        · rw [List.getElem_append_left e]; exact hps i e
        · have : i = ps.length := by simp at hi; omega
          subst this
          simp
          rw [hl]
          exact hq
    obtain ⟨ps, hlen, hps⟩ := pick len0 (Nat.le_refl _)
    refine ⟨some a, cap0, ps, by rw [hlen], fun k hk => ⟨a, rfl, ?_⟩, fun q hq => ?_, by rw [hlen]; unfold maxLen at hm; omega⟩
    · have hs : ∀ r ∈ ps.map Pis.cells, r.length = 3 := by simp [Pis.cells]
      have hfl := flatten_len 3 _ hs
      have hk1 : k / 3 < ps.length := by rw [hfl, List.length_map] at hk; omega
      have e : k = k / 3 * 3 + k % 3 := by omega
      have h3 := flatten_get 3 _ hs (k / 3) (k % 3) (by omega) (by simpa using hk1)
      rw [e, h3]
      rw [(hps (k / 3) hk1).1 (k % 3) (by omega)]
      simp
    · obtain ⟨i, hi, rfl⟩ := List.getElem_of_mem hq
      exact (hps i hi).2
end
end Go.Proofs.Ytbclbcldplmppaa

/- Trains, first text: meshes; which are valid, by the code. -/
namespace Go.Proofs.Ytbclbcldplmppaa
open Go.RowKit

structure Msh where
  kind : Int
  a : Int
  b : Int
  c : Int
  n : Int
  m : Int
  deriving DecidableEq
def Msh.cells (x : Msh) : List Value := [.int .u8 x.kind, vint x.a, vint x.b, vint x.c, vint x.n, vint x.m]
def Msh.val (x : Msh) : Value := .agg #[.int .u8 x.kind, vint x.a, vint x.b, vint x.c, vint x.n, vint x.m]

/-- The number of shafts that a kind names (0: no kind), and whether it has teeth. -/
def nsS (k : Int) : Nat := if k = 1 ∨ k = 2 ∨ k = 3 ∨ k = 7 then 2 else if k = 4 then 1 else if k = 5 ∨ k = 6 then 3 else 0
def teethS (k : Int) : Bool := decide (k = 1 ∨ k = 2 ∨ k = 6)

def inR (s cnt : Int) : Prop := 0 ≤ s ∧ s < cnt
instance (s cnt : Int) : Decidable (inR s cnt) := by unfold inR; infer_instance
def validP (x : Msh) (cnt : Int) : Prop :=
  nsS x.kind ≠ 0 ∧ inR x.a cnt ∧ (if 1 < nsS x.kind then inR x.b cnt ∧ x.b ≠ x.a else x.b = 0) ∧ (if 2 < nsS x.kind then inR x.c cnt ∧ x.c ≠ x.a ∧ x.c ≠ x.b else x.c = 0) ∧
    (if teethS x.kind = true then (1 ≤ x.n ∧ x.n ≤ 24) ∧ (1 ≤ x.m ∧ x.m ≤ 24) else x.n = 0 ∧ x.m = 0)
instance (x : Msh) (cnt : Int) : Decidable (validP x cnt) := by unfold validP; infer_instance
def validB (x : Msh) (cnt : Int) : Bool := decide (validP x cnt)
theorem validB_eq {x : Msh} {cnt : Int} {b : Bool} (h : b = true ↔ validP x cnt) : b = validB x cnt := by
  cases b <;> simp [validB] at h ⊢ <;> exact h

theorem ret_ib {a b : Int} {s t : Bool} (h1 : a = b) (h2 : s = t) : Ending.returned (.tuple #[.int .i64 a, .bool s]) = .returned (.tuple #[.int .i64 b, .bool t]) := by rw [h1, h2]

set_option maxHeartbeats 400000 in
theorem shafts_any (k : Int) (w : World) : Calls Try.prog 92 #[.int .u8 k] w fun e w' => e = .returned (.tuple #[.int .i64 (nsS k : Nat), .bool (teethS k)]) ∧ w = w' := by
  by_cases h : k = 1 ∨ k = 2 ∨ k = 3 ∨ k = 4 ∨ k = 5 ∨ k = 6 ∨ k = 7
  · rcases h with rfl | rfl | rfl | rfl | rfl | rfl | rfl
    all_goals
      go_enter Try.func92, Try.ntmps92
      go_wp2
      go_ret2
      exact ⟨ret_ib (by decide) (by decide), rfl⟩
  · have h1 : (k == 1) = false := beq_eq_false_iff_ne.2 (by omega)
    have h2 : (k == 2) = false := beq_eq_false_iff_ne.2 (by omega)
    have h3 : (k == 3) = false := beq_eq_false_iff_ne.2 (by omega)
    have h4 : (k == 4) = false := beq_eq_false_iff_ne.2 (by omega)
    have h5 : (k == 5) = false := beq_eq_false_iff_ne.2 (by omega)
    have h6 : (k == 6) = false := beq_eq_false_iff_ne.2 (by omega)
    have h7 : (k == 7) = false := beq_eq_false_iff_ne.2 (by omega)
    have e1 : (0 : Int) = (nsS k : Nat) := by
      unfold nsS
      rw [if_neg (by omega), if_neg (by omega), if_neg (by omega)]; rfl
    have e2 : false = teethS k := (decide_eq_false (by omega)).symm
    have E1 := Lib.hid e1
    have E2 := Lib.hid e2
    clear e1 e2 h
    go_enter Try.func92, Try.ntmps92
    go_wp2
    go_ret2
    exact ⟨ret_ib E1.out E2.out, rfl⟩

def memB (xs : List Int) (s : Int) : Bool := decide (s ∈ xs)
def HasAt (xs : List Int) (s : Int) (w : World) (e : Ending) (w' : World) : Prop := ∃ r : Int, e = .returned (.int .i64 r) ∧ (0 ≤ r ↔ s ∈ xs) ∧ w = w'

set_option maxHeartbeats 400000 in
theorem index_any (A : Option Addr) (c : Nat) (xs : List Int) (s : Int) (w : World) (hA : Ints w A xs) (hx : xs.length ≤ 1000000) :
    Calls Try.prog 105 #[.slice A xs.length c, .int .i64 s] w (HasAt xs s w) := by
  have ca := fun (k : Nat) (hk : k < xs.length) => hA.some_ (by omega)
  have hin : ∀ k, k < xs.length → getI xs k = s → s ∈ xs := fun k hk h => by rw [← h, getI_eq hk]; exact List.getElem_mem hk
  have hout : (∀ k, k < xs.length → getI xs k ≠ s) → ¬ s ∈ xs := fun h hm => by
    obtain ⟨k, hk, e⟩ := List.getElem_of_mem hm
    exact h k hk (by rw [getI_eq hk]; exact e)
  have Ca := Lib.hid ca
  have Hin := Lib.hid hin
  have Hout := Lib.hid hout
  clear ca hin hout hA
  generalize xs.length = n at *
  go_enter Try.func105, Try.ntmps105
  go_wp2
  go_loop [8, 5] (fun i _ => ∃ k : Nat, k ≤ n ∧ i = .int .i64 k ∧ ∀ j, j < k → getI xs j ≠ s) (fun i _ => n - (intOf i).toNat)
  case atStart => exact ⟨0, by omega, rfl, fun j hj => by omega⟩
  case round =>
    obtain ⟨k, hk, rfl, hall⟩ := hrel
    have Hall := Lib.hid hall
    clear hall
    by_cases hlt : k < n
    · obtain ⟨ad, rfl, hc⟩ := Ca.out k hlt
      have hck := hc k hlt w (Ext.refl w)
      clear hc
      by_cases he : getI xs k = s
      · have hb : (s == getI xs k) = true := by rw [he]; exact beq_self_eq_true s
        have Hm := Lib.hid (Hin.out k hlt he)
        have hne : (getI xs k == s) = true := by rw [he]; exact beq_self_eq_true s
        clear he
        go_wp2
        go_ret
        exact ⟨k, rfl, ⟨fun _ => Hm.out, fun _ => by omega⟩, rfl⟩
      · have hb : (s == getI xs k) = false := beq_eq_false_iff_ne.2 (fun e => he e.symm)
        have He := Lib.hid he
        clear he
        go_wp2
        go_round
        case rel => exact ⟨k + 1, by omega, by go_num, fun j hj => by
          by_cases e : j = k
          · subst e; exact He.out
          · exact Hall.out j (by omega)⟩
        case measure => simp [intOf]; omega
    · go_wp2
      go_ret
      exact ⟨-1, rfl, ⟨fun h => by omega, fun h => absurd h (Hout.out fun j hj => Hall.out j (by omega))⟩, rfl⟩

theorem contains_any (A : Option Addr) (c : Nat) (xs : List Int) (s : Int) (w : World) (hA : Ints w A xs) (hx : xs.length ≤ 1000000) :
    Calls Try.prog 93 #[.slice A xs.length c, .int .i64 s] w fun e w' => e = .returned (.bool (memB xs s)) ∧ w = w' := by
  have ci := index_any A c xs s w hA hx
  have Ci := Lib.hid ci
  clear ci hA
  generalize xs.length = n at *
  go_enter Try.func93, Try.ntmps93
  go_wp2_with (go_at_call 105; refine Ci.out.mono ?_; rintro e w' ⟨r, rfl, hr, rfl⟩)
  go_ret
  exact ⟨ret_b (by simp [memB]), rfl⟩
end Go.Proofs.Ytbclbcldplmppaa
