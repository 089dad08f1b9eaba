/- Worlds that only grow, and regions whose operations read, call functions that only make new memory, and make new memory: one walk of the text's order serves every order. No program in sight. -/
import Derived.Test.YtebkhdhhajjhfaaGreatProg
import Derived.WalkKit
import Derived.Deep.QuietTactic
import Derived.BigQuiet
import Derived.StillTailTactics
import Derived.WalkSpells
import Derived.Lib.Hide
import Derived.WalkLawsBesides
import Derived.WalkSmall
import Derived.Deep.LoopGhost
namespace Go.Proofs.YtebkhdhhajjhfaaGreat
open Go.RowKit

/-- w' holds all that w holds. -/
def Ext (w w' : World) : Prop := Below w.heap.size w w'

section
variable {w w' a b c : World}
@[simp, go_sem] theorem Ext.refl (w : World) : Ext w w := Below.refl _ _
theorem Ext.trans (h : Ext a b) (k : Ext b c) : Ext a c := Below.trans h (Below.mono k h.size)
theorem Ext.le (h : Ext a b) : a.heap.size ≤ b.heap.size := Below.size h
@[simp, go_sem] theorem Ext.drew (h : Ext a w) : Ext a w.drew := Below.drew h
@[simp, go_sem] theorem Ext.drewN (h : Ext a w) (n : Nat) : Ext a (w.drewN n) := ⟨h.os, h.tape, h.output, h.size, h.block⟩
theorem Ext.drawn (h : Ext a w) (n : Nat) : Ext a { w with drawn := n } := ⟨h.os, h.tape, h.output, h.size, h.block⟩
@[simp, go_sem] theorem Ext.alloc (h : Ext a w) (o : Obj) : Ext a (w.alloc o) := Below.alloc h h.size o
theorem Ext.setCell (h : Ext a w) {p : Addr} (hp : a.heap.size ≤ p.block) (u : Value) : Ext a (w.setCell p u) := Below.setCell h hp u
theorem Ext.grown {row : Option Nat} (h : Ext a w) (hg : w.grownBy w' row) (hr : ∀ k, row = some k → a.heap.size ≤ k) : Ext a w' := Below.grown h hg h.size hr
theorem Ext.cell {p : Addr} {v : Value} (h : Ext a w) (hc : a.cell? p = some v) : w.cell? p = some v := by
  rw [Below.cell h (World.block_lt_of_cell? _ _ hc)]; exact hc
theorem Ext.frozen {p : Addr} (h : Ext a w) (hp : p.block < a.heap.size) : w.frozen? p = a.frozen? p := Below.frozen h hp
theorem Ext.heap {k : Nat} {o : Obj} (h : Ext a w) (hk : a.heap[k]? = some o) : w.heap[k]? = some o :=
  (h.block k (Array.getElem?_eq_some_iff.1 hk).1).trans hk
theorem Ext.owns {base : Nat} {e : TypeId} {size : Nat} {v : Value} {n : Nat} {xs : List Value} (h : Ext a w) (ho : a.ownsRow base e size v n xs) : w.ownsRow base e size v n xs := by
  refine ⟨ho.1, ?_⟩
  rcases ho.2 with h1 | ⟨g, cap, cur, hv, hg, hh, r⟩
  · exact .inl h1
  · exact .inr ⟨g, cap, cur, hv, hg, h.heap hh, r⟩
end

/-- A world that holds what w0 holds. -/
structure Later (w0 : World) where
  w : World
  ext : Ext w0 w
@[simp, go_sem] theorem Later.ext_ {w0 : World} (x : Later w0) : Ext w0 x.w := x.ext

instance (w0 : World) : Nonempty (Later w0) := ⟨⟨w0, Ext.refl w0⟩⟩

/-! ### The theory -/

abbrev Fx := Nat → World → Prop
def Fx.put (F : Fx) (i : Nat) (R : World → Prop) : Fx := fun k w => F k w ∧ (k = i → R w)

def befB (ops : Array Oper) : Nat → Nat → Nat → Bool
  | 0, _, _ => false
  | n + 1, j, k => match ops[j]? with
    | some o => o.after.any fun e => Region.binds .any e && (e.on == k || befB ops n e.on k)
    | none => false

def facts (ops : Array Oper) (F : Fx) (j : Nat) (w : World) : Prop := ∀ k, befB ops 3 j k = true → F k w

def Sat (w0 : World) (F : Fx) : Prop := ∃ w, Ext w0 w ∧ ∀ k, F k w

abbrev Spec := Nat → Array Value → Value → World → Prop

def calmUpon (P : Program) (w : World) (Sj : Array Value → Value → World → Prop) : Result Next → Prop
  | .ok (.value _) w' => Ext w w'
  | .ok .skip w' => Ext w w'
  | .ok (.enter f args) w' => Calls P f args w' (fun e w'' => ∃ v, e = .returned v ∧ Ext w w'' ∧ Sj args v w'')
  | _ => False

def gives (Sj : Array Value → Value → World → Prop) (v : Value) (w' : World) : Result Next → Prop
  | .ok (.value u) w2 => v = u ∧ Ext w2 w'
  | .ok .skip w2 => v = undef ∧ Ext w2 w'
  | .ok (.enter _ args) _ => Sj args v w'
  | _ => False

section
variable (P : Program) (ops : Array Oper) (S : Spec) (w0 : World)

def Rel (x : Sem Next) (fj : World → Prop) (Sj : Array Value → Value → World → Prop) (v : Value) (w' : World) : Prop :=
  ∃ w1, Ext w0 w1 ∧ fj w1 ∧ gives Sj v w' (x.run P w1)

def YC (j : Nat) (o : Oper) (a : Act) (F : Fx) : Prop :=
  Region.wanted o (yielded ops a.tmps) = true → ∀ w, Ext w0 w → facts ops F j w → calmUpon P w (S j) ((execOp a.eval o).run P w)

def Cont (j : Nat) (o : Oper) (a : Act) (F : Fx) (K : Act → Fx → Prop) : Prop :=
  (Region.wanted o (yielded ops a.tmps) = true → ∀ v, Sat w0 (F.put j (Rel P w0 (execOp a.eval o) (facts ops F j) (S j) v)) →
    K (a.put o.dst v) (F.put j (Rel P w0 (execOp a.eval o) (facts ops F j) (S j) v))) ∧
  (Region.wanted o (yielded ops a.tmps) = false → K (a.put o.dst undef) F)

def cOp (j : Nat) (K : Act → Fx → Prop) (a : Act) (F : Fx) : Prop :=
  ∃ o, ops[j]? = some o ∧ YC P ops S w0 j o a F ∧ Cont P ops S w0 j o a F K

def wpCalm (Q : Act → Fx → Prop) : List Oper → Nat → Act → Fx → Prop
  | [], _, a, F => Q a F
  | o :: rest, k, a, F => YC P ops S w0 k o a F ∧ Cont P ops S w0 k o a F (wpCalm Q rest (k + 1))

def wpAnyC (n : Nat) (L : Array Bool → Act → Fx → Prop) : Nat → Array Bool → Act → Fx → Prop
  | 0, listed, a, F => L listed a F
  | f + 1, listed, a, F =>
    Region.ready .any ops listed ≠ [] ∧ ∀ i ∈ Region.ready .any ops listed, i < n ∧ cOp P ops S w0 i (wpAnyC n L f (listed.setIfInBounds i true)) a F
end

def StableF (F : Fx) : Prop := ∀ k w w', Ext w w' → F k w → F k w'
def StableS (S : Spec) : Prop := ∀ j args v w w', Ext w w' → S j args v w → S j args v w'

section
variable {P : Program} {ops : Array Oper} {S : Spec} {w0 : World}

theorem gives_stable {Sj : Array Value → Value → World → Prop} (hS : ∀ args v w w', Ext w w' → Sj args v w → Sj args v w') {v : Value} {w w' : World} {r : Result Next} (he : Ext w w') (h : gives Sj v w r) : gives Sj v w' r := by
  unfold gives at *
  split at h
  · exact ⟨h.1, h.2.trans he⟩
  · exact ⟨h.1, h.2.trans he⟩
  · exact hS _ _ _ _ he h
  · exact h.elim

theorem StableF.put {F : Fx} (h : StableF F) {i : Nat} {R : World → Prop} (hR : ∀ w w', Ext w w' → R w → R w') : StableF (F.put i R) :=
  fun k w w' he hk => ⟨h k w w' he hk.1, fun e => hR _ _ he (hk.2 e)⟩

theorem rel_stable (hS : StableS S) {x : Sem Next} {fj : World → Prop} {j : Nat} {v : Value} : ∀ w w', Ext w w' → Rel P w0 x fj (S j) v w → Rel P w0 x fj (S j) v w' :=
  fun _ _ he ⟨w1, h1, h2, h3⟩ => ⟨w1, h1, h2, gives_stable (hS j) he h3⟩

/-- From an actual world: the operation runs, and what comes out is related. -/
theorem wp_of_calm {o : Oper} {a : Act} {w : World} {j : Nat} {fj : World → Prop} {K' : Act → World → Prop} {Q' : Exit → Act → World → Prop}
    (he : Ext w0 w) (hf : fj w) (hu : calmUpon P w (S j) ((execOp a.eval o).run P w))
    (h : ∀ v w', Ext w w' → Rel P w0 (execOp a.eval o) fj (S j) v w' → K' (a.put o.dst v) w') : o.wp P a w K' Q' := by
  have h' : ∀ v w', Ext w w' → gives (S j) v w' ((execOp a.eval o).run P w) → K' (a.put o.dst v) w' := fun v w' h1 h2 => h v w' h1 ⟨w, he, hf, h2⟩
  clear h
  unfold Oper.wp
  generalize (execOp a.eval o).run P w = r at *
  cases r with
  | ok n w' =>
    cases n <;> simp only [calmUpon] at hu <;> simp only [Oper.upon]
    case value u => exact h' _ _ hu ⟨rfl, Ext.refl _⟩
    case skip => exact h' _ _ hu ⟨rfl, Ext.refl _⟩
    case enter f args => exact hu.mono fun e w'' ⟨v, he', hx, hs⟩ => by subst he'; exact h' _ _ hx hs
  | halt x w' => simp only [calmUpon] at hu

/-- There is a value that comes out. -/
theorem exists_of_calm {x : Sem Next} {w : World} {j : Nat} {fj : World → Prop} (he : Ext w0 w) (hf : fj w) (hu : calmUpon P w (S j) (x.run P w)) :
    ∃ v w', Ext w w' ∧ Rel P w0 x fj (S j) v w' := by
  have key : ∃ v w', Ext w w' ∧ gives (S j) v w' (x.run P w) := by
    generalize x.run P w = r at *
    cases r with
    | ok n w' =>
      cases n <;> simp only [calmUpon] at hu
      case value u => exact ⟨u, w', hu, rfl, Ext.refl _⟩
      case skip => exact ⟨undef, w', hu, rfl, Ext.refl _⟩
      case enter f args =>
        obtain ⟨e, w'', _, ⟨v, _, hx, hs⟩, _⟩ := hu []
        exact ⟨v, w'', hx, hs⟩
    | halt x w' => simp only [calmUpon] at hu
  obtain ⟨v, w', h1, h2⟩ := key
  exact ⟨v, w', h1, w, he, hf, h2⟩

theorem wpOp_of_cOp {j : Nat} {a : Act} {F : Fx} {w : World} {K : Act → Fx → Prop} {K' : Act → World → Prop} {Q' : Exit → Act → World → Prop} (hS : StableS S)
    (he : Ext w0 w) (hF : ∀ k, F k w) (hst : StableF F) (h : ∀ a F w', Ext w0 w' → (∀ k, F k w') → StableF F → K a F → K' a w') (hc : cOp P ops S w0 j K a F) : wpOp P ops Q' j K' a w := by
  obtain ⟨o, ho, hy, hn⟩ := hc
  unfold wpOp
  simp only [ho]
  cases hw : Region.wanted o (yielded ops a.tmps) with
  | true =>
    simp only [if_true]
    refine .inl (wp_of_calm (S := S) (j := j) (fj := facts ops F j) he (fun k _ => hF k) (hy hw w he (fun k _ => hF k)) fun v w' hx hr => ?_)
    have hx0 := he.trans hx
    have hF' : ∀ k, (F.put j (Rel P w0 (execOp a.eval o) (facts ops F j) (S j) v)) k w' := fun k => ⟨hst _ _ _ hx (hF k), fun _ => hr⟩
    exact h _ _ _ hx0 hF' (hst.put (rel_stable hS)) (hn.1 hw v ⟨w', hx0, hF'⟩)
  | false =>
    simp only [Bool.false_eq_true, if_false]
    exact h _ _ _ he hF hst (hn.2 hw)

theorem wpAny_of_headC {n g : Nat} {L : Array Bool → Act → Fx → Prop} {Q' : Exit → Act → World → Prop} (hS : StableS S)
    (hL : ∀ listed a F w, Ext w0 w → (∀ k, F k w) → L listed a F → wpAny P .any ops Q' g listed a w) :
    ∀ (f : Nat) (listed : Array Bool) (a : Act) (F : Fx) (w : World), Ext w0 w → (∀ k, F k w) → StableF F → wpAnyC P ops S w0 n L f listed a F → wpAny P .any ops Q' (f + g) listed a w
  | 0, listed, a, F, w, he, hF, _, h => by rw [Nat.zero_add]; exact hL _ _ _ _ he hF h
  | f + 1, listed, a, F, w, he, hF, hst, h => by
    rw [show f + 1 + g = (f + g) + 1 by omega]
    exact ⟨fun h0 => absurd h0 h.1, fun i hi => wpOp_of_cOp hS he hF hst (fun a' F' w' he' hF' hst' h' => wpAny_of_headC hS hL f _ a' F' w' he' hF' hst' h') (h.2 i hi).2⟩

theorem befB_listed {listed : Array Bool} (hcl : ∀ j oj, ops[j]? = some oj → listed.getD j false = true → ∀ e ∈ oj.after, Region.binds .any e = true → listed.getD e.on false = true) :
    ∀ (n j k : Nat), (∀ oj, ops[j]? = some oj → ∀ e ∈ oj.after, Region.binds .any e = true → listed.getD e.on false = true) → befB ops n j k = true → listed.getD k false = true
  | 0, _, _, _, h => by cases h
  | n + 1, j, k, hj, h => by
    unfold befB at h
    split at h
    · rename_i o ho
      obtain ⟨e, he, hb⟩ := Array.any_eq_true'.1 h
      simp only [Bool.and_eq_true, Bool.or_eq_true, beq_iff_eq] at hb
      have hl := hj o ho e he hb.1
      rcases hb.2 with h1 | h1
      · rw [← h1]; exact hl
      · exact befB_listed hcl n e.on k (fun oj hoj e' he' hb' => hcl e.on oj hoj hl e' he' hb') h1
    · cases h

theorem facts_put {F : Fx} {i j : Nat} {R : World → Prop} (h : befB ops 3 j i = false) : facts ops (F.put i R) j = facts ops F j := by
  funext w
  apply propext
  constructor
  · exact fun hh k hk => (hh k hk).1
  · exact fun hh k hk => ⟨hh k hk, fun e => by subst e; rw [h] at hk; cases hk⟩

theorem Fx.put_comm (F : Fx) (i j : Nat) (R T : World → Prop) : (F.put i R).put j T = (F.put j T).put i R := by
  funext k w
  apply propext
  constructor
  · rintro ⟨⟨h1, h2⟩, h3⟩; exact ⟨⟨h1, h3⟩, h2⟩
  · rintro ⟨⟨h1, h2⟩, h3⟩; exact ⟨⟨h1, h3⟩, h2⟩

theorem not_bef {n i j : Nat} {listed : Array Bool} (inv : HeadInv .any ops n listed) (hj : j ∈ Region.ready .any ops listed) (hi : listed.getD i true = false) : befB ops 3 j i = false := by
  cases h : befB ops 3 j i with
  | false => rfl
  | true =>
    obtain ⟨_, oj, hoj, hall⟩ := mem_ready.1 hj
    have := befB_listed inv.closed 3 j i (fun o ho e he hb => by
      have : o = oj := Option.some.inj (ho.symm.trans hoj)
      subst this
      exact hall e he hb) h
    rw [getD_both hi] at this
    cases this

theorem wpAnyC_first {n i : Nat} {oi : Oper} {L : Array Bool → Act → Fx → Prop} (hS : StableS S) (hi : ops[i]? = some oi) (hsel : ∀ (j : Nat) (o : Oper) cs b, ops[j]? = some o → o.op ≠ .select cs b)
    (htail : ∀ listed, HeadInv .any ops n listed → ∀ i, i < n → listed.getD i true = false → ∀ t, n ≤ t → t ∉ Region.ready .any ops listed) (hin : i < n)
    (hdone : ∀ listed a F, L listed a F → ∀ j ∈ Region.ready .any ops listed, n ≤ j) :
    ∀ (f : Nat) (listed : Array Bool) (a : Act) (F : Fx), HeadInv .any ops n listed →
      (∀ j oj, ops[j]? = some oj → j ≠ i → listed.getD j true = false → (∀ e ∈ oj.after, Region.binds .any e = true → e.on ≠ i) → oi.apart ops oj = true) →
      i ∈ Region.ready .any ops listed → Sat w0 F → StableF F → YC P ops S w0 i oi a F →
      Cont P ops S w0 i oi a F (wpAnyC P ops S w0 n L f (listed.setIfInBounds i true)) → wpAnyC P ops S w0 n L (f + 1) listed a F := by
  intro f
  induction f with
  | zero =>
    intro listed a F inv _ hr hsat hst hy H
    have hun := (mem_ready.1 hr).1
    refine ⟨fun h => (by rw [h] at hr; cases hr), fun j hj => ?_⟩
    have hjn : j < n := by
      rcases Nat.lt_or_ge j n with h | h
      · exact h
      · exact absurd hj (htail listed inv i hin hun j h)
    refine ⟨hjn, ?_⟩
    by_cases hji : j = i
    · subst hji; exact ⟨oi, hi, hy, H⟩
    · exfalso
      have hL : ∃ a' F', L (listed.setIfInBounds i true) a' F' := by
        cases hw : Region.wanted oi (yielded ops a.tmps) with
        | true =>
          obtain ⟨w, he, hF⟩ := hsat
          obtain ⟨v, w', hx, hrel⟩ := exists_of_calm (fj := facts ops F i) he (fun k _ => hF k) (hy hw w he (fun k _ => hF k))
          exact ⟨_, _, H.1 hw v ⟨w', he.trans hx, fun k => ⟨hst _ _ _ hx (hF k), fun _ => hrel⟩⟩⟩
        | false => exact ⟨_, _, H.2 hw⟩
      obtain ⟨a', F', hl⟩ := hL
      have := hdone _ _ _ hl j (ready_mono hj hji)
      omega
  | succ f ih =>
    intro listed a F inv hfree hr hsat hst hy H
    have hun := (mem_ready.1 hr).1
    refine ⟨fun h => (by rw [h] at hr; cases hr), fun j hj => ?_⟩
    have hjn : j < n := by
      rcases Nat.lt_or_ge j n with h | h
      · exact h
      · exact absurd hj (htail listed inv i hin hun j h)
    refine ⟨hjn, ?_⟩
    by_cases hji : j = i
    · subst hji; exact ⟨oi, hi, hy, H⟩
    · obtain ⟨hjun, oj, hoj, hall⟩ := mem_ready.1 hj
      have hnot : ∀ e ∈ oj.after, Region.binds .any e = true → e.on ≠ i := fun e he hb heq => by
        have h1 := hall e he hb
        rw [heq, getD_both hun] at h1
        cases h1
      obtain ⟨p1, p2, p3⟩ := Oper.apart_spec (hfree j oj hoj hji hjun hnot)
      have hsi := fun cs b => hsel i oi cs b hi
      have hsj := fun cs b => hsel j oj cs b hoj
      have bji : befB ops 3 j i = false := not_bef inv hj hun
      have bij : befB ops 3 i j = false := not_bef inv hr hjun
      -- what the head's continuation says of operation j behind operation i, at whatever value
      have after_i : ∀ a' F', wpAnyC P ops S w0 n L (f + 1) (listed.setIfInBounds i true) a' F' → YC P ops S w0 j oj a' F' ∧ Cont P ops S w0 j oj a' F' (wpAnyC P ops S w0 n L f ((listed.setIfInBounds i true).setIfInBounds j true)) := by
        intro a' F' h
        obtain ⟨_, o, ho, h1, h2⟩ := h.2 j (ready_mono hj hji)
        have : o = oj := Option.some.inj (ho.symm.trans hoj)
        subst this
        exact ⟨h1, h2⟩
      have wj : ∀ u, Region.wanted oj (yielded ops (a.put oi.dst u).tmps) = Region.wanted oj (yielded ops a.tmps) := fun u => wanted_put oj a oi.dst u p1
      have xj : ∀ u, execOp (a.put oi.dst u).eval oj = execOp a.eval oj := fun u => execOp_put oj hsj a oi.dst u p1
      have wi : ∀ u, Region.wanted oi (yielded ops (a.put oj.dst u).tmps) = Region.wanted oi (yielded ops a.tmps) := fun u => wanted_put oi a oj.dst u p3
      have xi : ∀ u, execOp (a.put oj.dst u).eval oi = execOp a.eval oi := fun u => execOp_put oi hsi a oj.dst u p3
      -- operation j yields now, too
      have yj : YC P ops S w0 j oj a F := by
        intro hwj
        cases hw : Region.wanted oi (yielded ops a.tmps) with
        | true =>
          obtain ⟨w, he, hF⟩ := hsat
          obtain ⟨v, w', hx, hrel⟩ := exists_of_calm (fj := facts ops F i) he (fun k _ => hF k) (hy hw w he (fun k _ => hF k))
          have h1 := (after_i _ _ (H.1 hw v ⟨w', he.trans hx, fun k => ⟨hst _ _ _ hx (hF k), fun _ => hrel⟩⟩)).1
          unfold YC at h1
          rw [wj, xj, facts_put bji] at h1
          exact h1 hwj
        | false =>
          have h1 := (after_i _ _ (H.2 hw)).1
          unfold YC at h1
          rw [wj, xj] at h1
          exact h1 hwj
      have hfree' : ∀ k ok, ops[k]? = some ok → k ≠ i → (listed.setIfInBounds j true).getD k true = false →
          (∀ e ∈ ok.after, Region.binds .any e = true → e.on ≠ i) → oi.apart ops ok = true := fun k ok hk hki hun' hno => by
        refine hfree k ok hk hki ?_ hno
        by_cases hjk : j = k
        · subst hjk; exact hjun
        · rw [getD_set_ne true hjk] at hun'; exact hun'
      refine ⟨oj, hoj, yj, fun hwj u hsu => ?_, fun hwj => ?_⟩
      · -- operation j is taken, with u
        generalize hFj : F.put j (Rel P w0 (execOp a.eval oj) (facts ops F j) (S j) u) = Fj at *
        have hfi : facts ops Fj i = facts ops F i := by rw [← hFj]; exact facts_put bij
        have hstj : StableF Fj := by rw [← hFj]; exact hst.put (rel_stable hS)
        refine ih (listed.setIfInBounds j true) (a.put oj.dst u) Fj (inv.set hj hjn) hfree' (ready_mono hr (Ne.symm hji)) hsu hstj ?_ ⟨fun hwi v hsv => ?_, fun hwi => ?_⟩
        · unfold YC
          rw [wi, xi, hfi]
          exact hy
        · rw [wi] at hwi
          rw [xi, hfi] at hsv ⊢
          obtain ⟨w, he, hw⟩ := hsv
          have hsi : Sat w0 (F.put i (Rel P w0 (execOp a.eval oi) (facts ops F i) (S i) v)) := by
            refine ⟨w, he, fun k => ⟨?_, fun e => (hw k).2 e⟩⟩
            have := (hw k).1
            rw [← hFj] at this
            exact this.1
          have h2 := (after_i _ _ (H.1 hwi v hsi)).2.1
          rw [wj, xj, facts_put bji] at h2
          have h3 := h2 hwj u ⟨w, he, fun k => ⟨⟨by have := (hw k).1; rw [← hFj] at this; exact this.1, fun e => (hw k).2 e⟩, fun e => by have := (hw k).1; rw [← hFj] at this; exact this.2 e⟩⟩
          rw [Array.setIfInBounds_comm _ _ hji, ← hFj, Fx.put_comm, Act.put_comm a u v (fun d hd hd' => p2 d hd' hd)]
          exact h3
        · rw [wi] at hwi
          have h2 := (after_i _ _ (H.2 hwi)).2.1
          rw [wj, xj] at h2
          have h3 := h2 hwj u (by rw [hFj]; exact hsu)
          rw [Array.setIfInBounds_comm _ _ hji, ← hFj, Act.put_comm a u undef (fun d hd hd' => p2 d hd' hd)]
          exact h3
      · refine ih (listed.setIfInBounds j true) (a.put oj.dst undef) F (inv.set hj hjn) hfree' (ready_mono hr (Ne.symm hji)) hsat hst ?_ ⟨fun hwi v hsv => ?_, fun hwi => ?_⟩
        · unfold YC
          rw [wi, xi]
          exact hy
        · rw [wi] at hwi
          rw [xi] at hsv ⊢
          have h2 := (after_i _ _ (H.1 hwi v hsv)).2.2
          rw [wj] at h2
          have h3 := h2 hwj
          rw [Array.setIfInBounds_comm _ _ hji, Act.put_comm a undef v (fun d hd hd' => p2 d hd' hd)]
          exact h3
        · rw [wi] at hwi
          have h2 := (after_i _ _ (H.2 hwi)).2.2
          rw [wj] at h2
          have h3 := h2 hwj
          rw [Array.setIfInBounds_comm _ _ hji, Act.put_comm a undef undef (fun d hd hd' => p2 d hd' hd)]
          exact h3
end

/-! ### The order of the text, and a tail that is forced -/

section
variable {P : Program} {ops : Array Oper} {S : Spec} {w0 : World}

/-- 'lexTailB' (Derived/StillTail.lean) with a tail, or with none. -/
def calmB (ops : Array Oper) (n : Nat) : Bool :=
  Region.noSelect ops && (decide (n = ops.size) || (decide (n < ops.size) && Region.sinkB .any ops n && Region.chainB .any ops n)) && Region.lexHead .any ops (ops.size - n) n 0 (Array.replicate ops.size false)

theorem calm_tail {n : Nat} (h : n = ops.size ∨ (n < ops.size ∧ Region.sinkB .any ops n = true ∧ Region.chainB .any ops n = true)) :
    ∀ listed, HeadInv .any ops n listed → ∀ i, i < n → listed.getD i true = false → ∀ t, n ≤ t → t ∉ Region.ready .any ops listed := by
  intro listed inv i hi hun t ht
  rcases h with h | ⟨h1, h2, h3⟩
  · intro hr
    obtain ⟨_, o, ho, _⟩ := mem_ready.1 hr
    have := (Array.getElem?_eq_some_iff.1 ho).1
    omega
  · exact tail_waits h2 h3 h1 inv _ i rfl hi hun t ht

theorem Cont.sat {K K' : Act → Fx → Prop} {j : Nat} {o : Oper} {a : Act} {F : Fx} (hS : StableS S) (hst : StableF F) (h : ∀ a F, Sat w0 F → StableF F → K a F → K' a F) (hs : Sat w0 F) (hc : Cont P ops S w0 j o a F K) : Cont P ops S w0 j o a F K' :=
  ⟨fun hw v hv => h _ _ hv (hst.put (rel_stable hS)) (hc.1 hw v hv), fun hw => h _ _ hs hst (hc.2 hw)⟩

theorem wpAnyC_lex {n g : Nat} {Lq : Act → Fx → Prop} (hS : StableS S) (hsel : Region.noSelect ops = true)
    (htail : ∀ listed, HeadInv .any ops n listed → ∀ i, i < n → listed.getD i true = false → ∀ t, n ≤ t → t ∉ Region.ready .any ops listed) :
    ∀ (l : List Oper) (k : Nat) (listed : Array Bool) (a : Act) (F : Fx), (∀ j, j < l.length → l[j]? = ops[k + j]?) → k + l.length = n → HeadInv .any ops n listed →
    Region.lexHead .any ops g l.length k listed = true → Sat w0 F → StableF F → wpCalm P ops S w0 Lq l k a F →
    wpAnyC P ops S w0 n (fun listed' a' F' => Region.seqB .any ops g n listed' = true ∧ Lq a' F') l.length listed a F
  | [], k, listed, a, F, _, hk, _, hB, _, _, h => by
    have : k = n := by simpa using hk
    subst this
    exact ⟨by simpa [Region.lexHead] using hB, h⟩
  | o :: l, k, listed, a, F, hl, hk, inv, hB, hs, hst, h => by
    have h0 : ops[k]? = some o := by simpa using (hl 0 (by simp)).symm
    simp only [List.length_cons, Region.lexHead, Bool.and_eq_true] at hB
    obtain ⟨⟨hr, hf⟩, hB'⟩ := hB
    have hkn : k < n := by simp only [List.length_cons] at hk; omega
    have hr' : k ∈ Region.ready .any ops listed := by simpa using hr
    refine wpAnyC_first hS h0 (Region.noSelect_spec hsel) htail hkn (fun listed' a' F' hL => seqB_ready hL.1) l.length listed a F inv (Region.free_spec h0 hf) hr' hs hst h.1 ?_
    exact Cont.sat hS hst (fun a' F' hs' hst' hK => wpAnyC_lex hS hsel htail l (k + 1) _ a' F' (fun j hj => by have := hl (j + 1) (by simp; omega); simpa [Nat.add_assoc, Nat.add_comm 1 j] using this)
      (by simp only [List.length_cons] at hk; omega) (inv.set hr' hkn) hB' hs' hst' hK) hs h.2

theorem wp_region_calm {id : Nat} {Q : Exit → Act → World → Prop} {a : Act} {w : World} {l : List Oper} (n : Nat) (S : Spec) (hS : StableS S) (hm : P.follows .mixedOrders = true) (hB : calmB l.toArray n = true)
    (h : wpCalm P l.toArray S w (fun a' F => ∀ w', Ext w w' → (∀ k, F k w') → wpList P l.toArray Q (l.drop n) a' w') (l.take n) 0 a (fun _ _ => True)) : (Code.region id l.toArray true).wp P Q a w := by
  simp only [calmB, Bool.and_eq_true, Bool.or_eq_true, decide_eq_true_eq] at hB
  obtain ⟨⟨hsel, hn⟩, hlex⟩ := hB
  have hn' : n ≤ l.length := by
    rcases hn with h1 | h1
    · rw [h1]; simp
    · have := h1.1.1; simp at this; omega
  have htl : (l.take n).length = n := by simp; omega
  have hdl : (l.drop n).length = l.toArray.size - n := by simp
  have htail := calm_tail (ops := l.toArray) (n := n) (by rcases hn with h1 | h1; exact .inl h1; exact .inr ⟨h1.1.1, h1.1.2, h1.2⟩)
  have inv0 : HeadInv .any l.toArray n (Array.replicate l.toArray.size false) :=
    ⟨by simp, fun j oj _ hl => (by rw [getD_replicate_false] at hl; cases hl), fun t _ ht => getD_in (by simpa using ht) (getD_replicate_false _ _)⟩
  have H := wpAnyC_lex (g := l.toArray.size - n) hS hsel htail (l.take n) 0 _ a _ (fun j hj => by
    have hj' : j < n := by rw [htl] at hj; exact hj
    simp [hj']) (by simpa using htl) inv0 (by rw [htl]; exact hlex) ⟨w, Ext.refl _, fun _ => trivial⟩ (fun _ _ _ _ h => h) h
  refine wp_region_any hm ?_
  have := wpAny_of_headC (P := P) (ops := l.toArray) (S := S) (w0 := w) (n := n) (Q' := Q) (g := l.toArray.size - n) hS (fun listed a' F w1 he hF hL => by
    have := wpAny_of_seq (md := .any) (Q' := Q) (l.drop n) n listed a' w1 (fun j => by simp [List.getElem?_drop]) (by rw [hdl]; exact hL.1) (hL.2 w1 he hF)
    rwa [hdl] at this) (l.take n).length (Array.replicate l.toArray.size false) a (fun _ _ => True) { w with drawn := w.drawn + 1 } ((Ext.refl w).drawn _) (fun _ => trivial) (fun _ _ _ _ h => h) H
  rw [htl, show n + (l.toArray.size - n) = l.toArray.size by omega] at this
  exact this

/-! ### Steps -/

/-- More facts do no harm. -/
def MonoQ (Q : Act → Fx → Prop) : Prop := ∀ a F F', (∀ k w, F' k w → F k w) → Q a F → Q a F'

theorem wpCalm_mono {Q : Act → Fx → Prop} (hQ : MonoQ Q) : ∀ (l : List Oper) (k : Nat) (a : Act) (F F' : Fx), (∀ k w, F' k w → F k w) → wpCalm P ops S w0 Q l k a F → wpCalm P ops S w0 Q l k a F'
  | [], _, a, F, F', h, hh => hQ a F F' h hh
  | o :: l, k, a, F, F', h, ⟨hy, hn⟩ => by
    have hf : ∀ w, facts ops F' k w → facts ops F k w := fun w hf i hi => h _ _ (hf i hi)
    have hr : ∀ v w, Rel P w0 (execOp a.eval o) (facts ops F' k) (S k) v w → Rel P w0 (execOp a.eval o) (facts ops F k) (S k) v w := fun v w ⟨w1, h1, h2, h3⟩ => ⟨w1, h1, hf _ h2, h3⟩
    have hp : ∀ v, ∀ i w, (F'.put k (Rel P w0 (execOp a.eval o) (facts ops F' k) (S k) v)) i w → (F.put k (Rel P w0 (execOp a.eval o) (facts ops F k) (S k) v)) i w := fun v i w hh => ⟨h _ _ hh.1, fun e => hr _ _ (hh.2 e)⟩
    exact ⟨fun hw w he hf' => hy hw w he (hf w hf'), fun hw v ⟨w, he, hs⟩ => wpCalm_mono hQ l (k + 1) _ _ _ (hp v) (hn.1 hw v ⟨w, he, fun i => hp v i w (hs i)⟩), fun hw => wpCalm_mono hQ l (k + 1) _ _ _ h (hn.2 hw)⟩

theorem calm_mono_final {Q : Act → World → Prop} : MonoQ (fun a F => ∀ w', Ext w0 w' → (∀ k, F k w') → Q a w') := fun _ _ _ h hq w' he hF => hq w' he (fun k => h _ _ (hF k))

/-- No call of a Go function. -/
def quietKind (o : Oper) : Bool := match o.op with
  | .call { callee := .builtin .len, .. } | .call { callee := .builtin .min, .. } | .call { callee := .builtin .max, .. } | .call { callee := .builtin .cap, .. } => true
  | .move _ | .assign _ | .pick .. | .load .. | .binOp .. | .unOp .. | .convert .. | .fieldAddr .. | .field .. | .indexAddr .. | .index .. | .slice .. | .extract .. | .lookup .. => true
  | _ => false

def noEnter : Result Next → Prop
  | .ok (.enter _ _) _ => False
  | _ => True

theorem noEnter_v (s : Sem Value) (w : World) : noEnter ((do pure (Next.value (← s)) : Sem Next).run P w) := by
  simp only [Sem.run_bind, Sem.run_pure]
  cases s.run P w <;> simp [Result.andThen, noEnter]

theorem noEnter_of_quietKind {o : Oper} (h : quietKind o = true) (ρ : Operand → Value) (w : World) : noEnter ((execOp ρ o).run P w) := by
  unfold quietKind at h
  unfold execOp
  split at h <;> rename_i heq <;> simp only [heq]
  all_goals first
    | exact noEnter_v _ w
    | (simp only [resolve, invoke, builtin, Sem.run_bind, Sem.run_pure]; exact noEnter_v _ w)
    | (simp only [Sem.run_pure]; trivial)
    | (simp at h; done)
    | skip
  all_goals (simp only [Sem.run_bind, Sem.run_pure]; generalize Sem.run P _ w = r; cases r <;> simp [Result.andThen, noEnter])

/-- Operations that leave the world alone: by the quiet walk (Derived/Deep/Quiet.lean), in the class of all worlds that hold what w0 holds. -/
theorem calm_chunk {Q : Act → Fx → Prop} (hQ : MonoQ Q) : ∀ (l l2 : List Oper) (k : Nat) (a : Act) (F : Fx), (l.all fun o => quietKind o) = true →
    wpQuiet P ops (fun w => ∃ x : Later w0, w = x.w) (fun a' => wpCalm P ops S w0 Q l2 (k + l.length) a' F) l a → wpCalm P ops S w0 Q (l ++ l2) k a F := by
  intro l
  induction l with
  | nil => intro l2 k a F _ h; exact h
  | cons o l ih =>
    intro l2 k a F hk h
    simp only [List.all_cons, Bool.and_eq_true] at hk
    unfold wpQuiet at h
    have hlen : k + (o :: l).length = (k + 1) + l.length := by simp only [List.length_cons]; omega
    rw [hlen] at h
    cases hw : Region.wanted o (yielded ops a.tmps) with
    | true =>
      rw [hw, if_pos rfl] at h
      obtain ⟨v, h1, h2⟩ := h
      -- what comes out, in any world: v, and nothing else has happened, or (for a row of the model's own) a call
      refine ⟨fun _ w he _ => ?_, fun _ u hu => ?_, fun hf => by rw [hw] at hf; cases hf⟩
      · have h3 := h1 w ⟨⟨w, he⟩, rfl⟩
        have hne := noEnter_of_quietKind (P := P) hk.1 a.eval w
        unfold Oper.quietAt at h3
        generalize (execOp a.eval o).run P w = r at *
        cases r with
        | ok n w' =>
          cases n <;> simp only [Oper.quietUpon] at h3 <;> simp only [calmUpon]
          case value x => obtain ⟨e, _⟩ := h3; rw [e]; exact Ext.refl _
          case skip => obtain ⟨e, _⟩ := h3; rw [e]; exact Ext.refl _
          case enter f args => exact hne.elim
        | halt x w' => simp only [Oper.quietUpon] at h3
      · obtain ⟨w, he, hs⟩ := hu
        obtain ⟨w1, he1, _, hg⟩ := (hs k).2 rfl
        have h3 := h1 w1 ⟨⟨w1, he1⟩, rfl⟩
        have hne := noEnter_of_quietKind (P := P) hk.1 a.eval w1
        have huv : u = v := by
          unfold Oper.quietAt at h3
          generalize (execOp a.eval o).run P w1 = r at *
          cases r with
          | ok n w' =>
            cases n <;> simp only [Oper.quietUpon] at h3 <;> simp only [gives] at hg
            case value x => rw [hg.1, h3.2]
            case skip => rw [hg.1, h3.2]
            case enter f args => exact hne.elim
          | halt x w' => simp only [Oper.quietUpon] at h3
        subst huv
        exact wpCalm_mono hQ _ _ _ F _ (fun _ _ hh => hh.1) (ih l2 (k + 1) _ F hk.2 h2)
    | false =>
      rw [hw] at h
      exact ⟨fun hf => (by rw [hw] at hf; cases hf), fun hf => (by rw [hw] at hf; cases hf), fun _ => ih l2 (k + 1) _ F hk.2 h⟩

theorem calm_nil {Q : Act → Fx → Prop} {k : Nat} {a : Act} {F : Fx} (h : Q a F) : wpCalm P ops S w0 Q [] k a F := h

/-- A call of a Go function: its result is any value that S lets by. -/
theorem calm_call {Q : Act → Fx → Prop} {o : Oper} {l : List Oper} {k : Nat} {a : Act} {F : Fx} (hQ : MonoQ Q) (f : FuncId) (args : Array Value) (hw : Region.wanted o (yielded ops a.tmps) = true)
    (hrun : ∀ w, (execOp a.eval o).run P w = .ok (.enter f args) w)
    (hcall : ∀ w, Ext w0 w → facts ops F k w → Calls P f args w (fun e w'' => ∃ v, e = .returned v ∧ Ext w w'' ∧ S k args v w''))
    (hn : ∀ v w', Ext w0 w' → S k args v w' → wpCalm P ops S w0 Q l (k + 1) (a.put o.dst v) (F.put k (S k args v))) : wpCalm P ops S w0 Q (o :: l) k a F := by
  refine ⟨fun _ w he hf => ?_, fun _ v hv => ?_, fun hf => by rw [hw] at hf; cases hf⟩
  · rw [hrun]; exact hcall w he hf
  · have hS : ∀ w', Rel P w0 (execOp a.eval o) (facts ops F k) (S k) v w' → S k args v w' := fun w' ⟨w1, _, _, h⟩ => by rw [hrun] at h; exact h
    obtain ⟨w', he, hs⟩ := hv
    exact wpCalm_mono hQ _ _ _ _ _ (fun i w h => ⟨h.1, fun e => hS _ (h.2 e)⟩) (hn v w' he (hS _ ((hs k).2 rfl)))

/-- The chunk, with its number of operations. -/
theorem calm_quiet {Q : Act → Fx → Prop} (hQ : MonoQ Q) (m : Nat) {l : List Oper} {k : Nat} {a : Act} {F : Fx} (hk : ((l.take m).all fun o => quietKind o) = true)
    (h : wpQuiet P ops (fun w => ∃ x : Later w0, w = x.w) (fun a' => wpCalm P ops S w0 Q (l.drop m) (k + (l.take m).length) a' F) (l.take m) a) : wpCalm P ops S w0 Q l k a F := by
  rw [← List.take_append_drop m l]
  exact calm_chunk hQ _ _ _ _ _ hk h
end
end Go.Proofs.YtebkhdhhajjhfaaGreat

/- Slices that read as lists of numbers. No program in sight. -/
namespace Go.Proofs.YtebkhdhhajjhfaaGreat
open Go.RowKit

theorem add_of_add (a : Addr) (i j : Nat) : (a.add i).add j = a.add (i + j) := by
  unfold Addr.add
  by_cases hi : i = 0 <;> by_cases hj : j = 0 <;> simp [hi, hj, Nat.add_assoc]

/-- The slice with this address, of as many cells as there are values, holds them. -/
def Row (w : World) (A : Option Addr) (xs : List Value) : Prop := ∀ k, k < xs.length → ∃ ad, A = some ad ∧ w.cell? (ad.add k) = xs[k]?

abbrev vint (x : Int) : Value := .int .i64 x
def Ints (w : World) (A : Option Addr) (xs : List Int) : Prop := Row w A (xs.map vint)

/-- The number at a place, behind a name that the walk does not open. -/
def getI (xs : List Int) (k : Nat) : Int := xs[k]?.getD 0
theorem getI_eq {xs : List Int} {k : Nat} (h : k < xs.length) : getI xs k = xs[k] := by simp [getI, h]

theorem Row.ext {w w' : World} {A : Option Addr} {xs : List Value} (h : Row w A xs) (he : Ext w w') : Row w' A xs := fun k hk => by
  obtain ⟨ad, ha, hc⟩ := h k hk
  refine ⟨ad, ha, ?_⟩
  rw [List.getElem?_eq_getElem hk] at hc ⊢
  exact he.cell hc
theorem Ints.ext {w w' : World} {A : Option Addr} {xs : List Int} (h : Ints w A xs) (he : Ext w w') : Ints w' A xs := Row.ext h he
theorem Row.nil (w : World) (A : Option Addr) : Row w A [] := fun k hk => absurd hk (by simp)
theorem Ints.nil (w : World) (A : Option Addr) : Ints w A [] := Row.nil w A

theorem Ints.at_ {w : World} {A : Option Addr} {xs : List Int} (h : Ints w A xs) {k : Nat} (hk : k < xs.length) : ∃ ad, A = some ad ∧ w.cell? (ad.add k) = some (.int .i64 (getI xs k)) := by
  obtain ⟨ad, ha, hc⟩ := h k (by simpa using hk)
  refine ⟨ad, ha, ?_⟩
  rw [hc]
  simp [getI, hk]
/-- The cells of a slice that is not empty, for every world that holds what w holds. -/
theorem Ints.some_ {w : World} {A : Option Addr} {xs : List Int} (h : Ints w A xs) (hn : 0 < xs.length) : ∃ ad, A = some ad ∧ ∀ k, k < xs.length → ∀ w', Ext w w' → w'.cell? (ad.add k) = some (.int .i64 (getI xs k)) := by
  obtain ⟨ad, ha, _⟩ := h.at_ hn
  refine ⟨ad, ha, fun k hk w' he => ?_⟩
  obtain ⟨ad', ha', hc⟩ := h.at_ hk
  rw [ha] at ha'
  injection ha' with ha'
  subst ha'
  exact he.cell hc

theorem add_zero_ (ad : Addr) : ad.add 0 = ad := by unfold Addr.add; simp
/-- .. and the first one, as the walk writes it. -/
theorem Ints.some0 {w : World} {A : Option Addr} {xs : List Int} (h : Ints w A xs) (hn : 0 < xs.length) :
    ∃ ad, A = some ad ∧ (∀ k, k < xs.length → ∀ w', Ext w w' → w'.cell? (ad.add k) = some (.int .i64 (getI xs k))) ∧ ∀ w', Ext w w' → w'.cell? ad = some (.int .i64 (getI xs 0)) := by
  obtain ⟨ad, ha, hc⟩ := h.some_ hn
  exact ⟨ad, ha, hc, fun w' he => by have := hc 0 hn w' he; rwa [add_zero_] at this⟩

theorem Row.of_own {w : World} {base : Nat} {e : TypeId} {size : Nat} {A : Option Addr} {n c : Nat} {xs : List Value} (h : w.ownsRow base e size (.slice A n c) n xs) : Row w A xs := by
  intro k hk
  rcases h.2 with ⟨hv, hn⟩ | ⟨g, cap, cur, hv, _, hh, _, _, _, htake⟩
  · have := h.1; rw [hn] at this; omega
  · injection hv with h1 h2 h3
    subst h1
    refine ⟨_, rfl, ?_⟩
    exact (World.ownsRow.cells h (g := g) rfl k _ (List.getElem?_eq_getElem hk)).trans (List.getElem?_eq_getElem hk).symm

theorem add_lit (a : Addr) (j : Nat) (h : j ≠ 0) : a.add j = ⟨a.block, a.off + j, none⟩ := by unfold Addr.add; rw [if_neg h]

/-! ### Slices of structs: rows of cells -/

theorem flatten_get (size : Nat) : ∀ (rows : List (List Value)), (∀ r ∈ rows, r.length = size) → ∀ k j, j < size → (hk : k < rows.length) → rows.flatten[k * size + j]? = rows[k][j]?
  | [], _, _, _, _, hk => by simp at hk
  | r :: rows, h, 0, j, hj, _ => by
    have hr := h r (by simp)
    simp [List.getElem?_append, hr, hj]
  | r :: rows, h, k + 1, j, hj, hk => by
    have hr := h r (by simp)
    have ih := flatten_get size rows (fun x hx => h x (by simp [hx])) k j hj (by simpa using hk)
    rw [List.flatten_cons, List.getElem?_append_right (by rw [hr, Nat.add_mul]; omega), hr, show (k + 1) * size + j - size = k * size + j by rw [Nat.add_mul]; omega]
    simpa using ih
theorem flatten_len (size : Nat) : ∀ (rows : List (List Value)), (∀ r ∈ rows, r.length = size) → rows.flatten.length = rows.length * size
  | [], _ => by simp
  | r :: rows, h => by
    rw [List.flatten_cons, List.length_append, h r (by simp), flatten_len size rows (fun x hx => h x (by simp [hx])), List.length_cons, Nat.add_mul]
    omega

/-- Element k's cells, for every world that holds what w holds. -/
theorem Row.struct {w : World} {A : Option Addr} {rows : List (List Value)} {size : Nat} (h : Row w A rows.flatten) (hs : ∀ r ∈ rows, r.length = size) {k : Nat} (hk : k < rows.length) (hpos : 0 < size) :
    ∃ ad, A = some ad ∧ ∀ j (hj : j < size), ∀ w', Ext w w' → w'.cell? ((ad.add (k * size)).add j) = some (rows[k][j]'(by rw [hs _ (List.getElem_mem hk)]; exact hj)) := by
  have hlen := flatten_len size rows hs
  have hlt : ∀ j, j < size → k * size + j < rows.flatten.length := fun j hj => by
    rw [hlen]
    have : (k + 1) * size ≤ rows.length * size := Nat.mul_le_mul_right _ hk
    rw [Nat.add_mul] at this
    omega
  obtain ⟨ad, ha, _⟩ := h _ (hlt 0 hpos)
  refine ⟨ad, ha, fun j hj w' he => ?_⟩
  obtain ⟨ad', ha', hc⟩ := h _ (hlt j hj)
  rw [ha] at ha'
  injection ha' with ha'
  subst ha'
  rw [add_of_add]
  refine he.cell (hc.trans ?_)
  rw [flatten_get size rows hs k j hj hk, List.getElem?_eq_getElem]
end Go.Proofs.YtebkhdhhajjhfaaGreat

/- Slices that the call itself makes: make, append, stores, as steps of the walk. -/
namespace Go.Proofs.YtebkhdhhajjhfaaGreat
open Go.RowKit

/-- What the table says of an element type. -/
structure ElemInfo (e : TypeId) (z : Value) (size bytes : Nat) : Prop where
  info : ∃ i, Tryz.prog.info? e = some i ∧ i.zero = some z ∧ i.size = size ∧ i.bytes = bytes
  zs : z.cells.size = size
  pos : 0 < size

theorem int_elem : ElemInfo 3 (.int .i64 0) 1 8 := ⟨info_parts (by kernel_rfl), rfl, by decide⟩

/-- The slice v is the call's own since w1, and holds xs. -/
def Own (w1 w : World) (e : TypeId) (size : Nat) (v : Value) (n : Nat) (xs : List Value) : Prop := Ext w1 w ∧ w.ownsRow w1.heap.size e size v n xs
abbrev OwnI (w1 w : World) (v : Value) (xs : List Int) : Prop := Own w1 w 3 1 v xs.length (xs.map vint)

section
variable {w1 w w' : World} {e : TypeId} {size : Nat} {v : Value} {n : Nat} {xs : List Value}
theorem Own.ext (h : Own w1 w e size v n xs) : Ext w1 w := h.1
theorem Own.later (h : Own w1 w e size v n xs) (he : Ext w w') : Own w1 w' e size v n xs := ⟨h.1.trans he, he.owns h.2⟩
theorem Own.alloc (h : Own w1 w e size v n xs) (o : Obj) : Own w1 (w.alloc o) e size v n xs := h.later (by simp)
theorem Own.nil' (he : Ext w1 w) (e : TypeId) (size : Nat) : Own w1 w e size (.slice none 0 0) 0 [] := ⟨he, World.ownsRow_nil _ _ _ _⟩
theorem Own.len (h : Own w1 w e size v n xs) : xs.length = n * size := h.2.1
theorem Own.form (h : Own w1 w e size v n xs) : ∃ A c, v = .slice A n c := by
  rcases h.2.2 with ⟨rfl, rfl⟩ | ⟨g, cap, cur, rfl, _⟩
  · exact ⟨none, 0, rfl⟩
  · exact ⟨_, cap, rfl⟩
/-- .. and, where there is an element, where it lies. -/
theorem Own.at_ (h : Own w1 w e size v n xs) (hn : 0 < n) : ∃ g c, v = .slice (some ⟨g, 0, none⟩) n c ∧ w1.heap.size ≤ g ∧ g < w.heap.size := by
  rcases h.2.2 with ⟨rfl, rfl⟩ | ⟨g, cap, cur, rfl, hb, hh, _⟩
  · omega
  · exact ⟨g, cap, rfl, hb, (Array.getElem?_eq_some_iff.1 hh).1⟩
theorem Own.row {A : Option Addr} {m c : Nat} (h : Own w1 w e size (.slice A m c) n xs) : Row w A xs := by
  obtain ⟨A', c', hv⟩ := h.form
  injection hv with h1 h2 h3
  subst h2
  exact Row.of_own h.2
theorem Own.cell {g m c : Nat} (h : Own w1 w e size (.slice (some ⟨g, 0, none⟩) m c) n xs) {j : Nat} (hj : j < xs.length) : w.cell? ⟨g, j, none⟩ = xs[j]? := by
  obtain ⟨A', c', hv⟩ := h.form
  injection hv with h1 h2 h3
  subst h2
  exact World.ownsRow.cellAt h.2 j (by rw [← h.len]; exact hj)
theorem Own.free {g m c : Nat} (h : Own w1 w e size (.slice (some ⟨g, 0, none⟩) m c) n xs) (j : Nat) : w.frozen? ⟨g, j, none⟩ = false := by
  obtain ⟨A', c', hv⟩ := h.form
  injection hv with h1 h2 h3
  subst h2
  exact World.ownsRow.frozenAt h.2 j
theorem Own.ge {g m c : Nat} (h : Own w1 w e size (.slice (some ⟨g, 0, none⟩) m c) n xs) : w1.heap.size ≤ g := (World.ownsRow.lt h.2 g rfl).1
theorem Own.store {g m c : Nat} (h : Own w1 w e size (.slice (some ⟨g, 0, none⟩) m c) n xs) (j : Nat) (u : Value) : Own w1 (w.setCell ⟨g, j, none⟩ u) e size (.slice (some ⟨g, 0, none⟩) m c) n (xs.set j u) := by
  obtain ⟨A', c', hv⟩ := h.form
  injection hv with h1 h2 h3
  subst h2
  exact ⟨h.1.setCell h.ge u, (World.ownsRow.stored h.2 j u).1⟩
/-- A store elsewhere, among what is new since w1. -/
theorem Own.other {p : Addr} (h : Own w1 w e size v n xs) (hp : w1.heap.size ≤ p.block) (hne : v.ownBlock ≠ some p.block) (u : Value) : Own w1 (w.setCell p u) e size v n xs :=
  ⟨h.1.setCell hp u, ownsRow_setCell_other h.2 hne u⟩
/-- Own since w1 is own since before. -/
theorem Own.since {w0 : World} (h : Own w1 w e size v n xs) (he : Ext w0 w1) : Own w0 w e size v n xs := by
  refine ⟨he.trans h.1, h.2.1, ?_⟩
  rcases h.2.2 with h1 | ⟨g, cap, cur, rfl, hb, r⟩
  · exact .inl h1
  · exact .inr ⟨g, cap, cur, rfl, Nat.le_trans he.le hb, r⟩
theorem Own.lit (he : Ext w1 w) (cs : Array Value) (n : Nat) (hm : n ≤ maxLen) (hs : cs.size = n * size) : Own w1 (w.alloc (.cells cs e)) e size (.slice (some ⟨w.heap.size, 0, none⟩) n n) n cs.toList :=
  ⟨he.trans (by simp), World.ownsRow_lit w cs n he.le hm hs⟩
end

theorem OwnI.ints {w1 w : World} {A : Option Addr} {m c : Nat} {xs : List Int} (h : OwnI w1 w (.slice A m c) xs) : Ints w A xs := Own.row h

section
variable {ops : Array Oper} {rest : List Oper} {o : Oper} {a : Act} {Q : Exit → Act → World → Prop} {w1 w : World} {e : TypeId} {z : Value} {size bytes : Nat}

/-- 'make([]T, n)'. -/
theorem own_make (hE : ElemInfo e z size bytes) (hg : o.guard = none) (l : Operand) (t : TypeId) (hop : o.op = Op.makeSlice t l l) (ht : Tryz.prog.underlying t = some (.slice e)) (L : Int) (n : Nat) (hl : a.eval l = .int .i64 L) (hL : L = (n : Int))
    (hb : bytes * n ≤ 281474976710656) (hn : n ≤ maxLen) (he : Ext w1 w)
    (hK : ∀ w', Own w1 w' e size (.slice (some ⟨w.heap.size, 0, none⟩) n n) n (madeCells z.cells (n * size)).toList → Ext w w' → wpList Tryz.prog ops Q rest (a.put o.dst (.slice (some ⟨w.heap.size, 0, none⟩) n n)) w') :
    wpList Tryz.prog ops Q (o :: rest) a w := by
  obtain ⟨i, hi, hz0, hz1, hz2⟩ := hE.info
  refine wpList_make_full w hg l l t hop w1.heap.size e i z size ht hi hz0 hz1 .i64 .i64 L L n hl hl hL hL (by rw [hz2]; exact hb) hn he.le fun w' h1 h2 => ?_
  have hx : Ext w w' := (Ext.refl w).grown h2 (fun k hk => by cases hk)
  exact hK w' ⟨he.trans hx, h1⟩ hx

/-- 'append(out, x)', out the call's own: the new cell has just been laid. -/
theorem own_append (hE : ElemInfo e z size bytes) (hg : o.guard = none) (s x : Operand) (t : TypeId) (hop : o.op = .call { callee := .builtin .append, args := #[s, x], argTypes := #[t, t] }) (ht : Tryz.prog.underlying t = some (.slice e))
    (v : Value) (n : Nat) (xs : List Value) (hs : a.eval s = v) (hown : Own w1 w e size v n xs) (cs : Array Value) (m : Nat) (hx : a.eval x = .slice (some ⟨w.heap.size, 0, none⟩) m m) (hl : cs.size = m * size) (h1 : ∀ u ∈ cs.toList, u.oneCell' = true)
    (hn : (n + m) * bytes ≤ 140737488355328) (hn2 : n + m ≤ maxLen)
    (hK : ∀ v' w', Own w1 w' e size v' (n + m) (xs ++ cs.toList) → (v' = .slice none 0 0 ↔ v = .slice none 0 0 ∧ m = 0) → wpList Tryz.prog ops Q rest (a.put o.dst v') w') :
    wpList Tryz.prog ops Q (o :: rest) a (w.alloc (.cells cs e)) := by
  obtain ⟨i, hi, hz0, hz1, hz2⟩ := hE.info
  refine wpList_append_own (w.alloc (.cells cs e)) hg s x t hop w1.heap.size e i z size bytes ht hi hz0 hz1 hz2 hE.zs hE.pos v n xs hs (hown.2.alloc _) ⟨w.heap.size, 0, none⟩ m m cs.toList hx (by simpa using hl) (fun j u hu => ?_) h1 hn2 hn (by have := hown.1.le; simp; omega) fun v' w' h2 h3 h4 => ?_
  · have hadd : (⟨w.heap.size, 0, none⟩ : Addr).add j = ⟨w.heap.size, j, none⟩ := by unfold Addr.add; split <;> simp_all
    rw [hadd, World.cell?_alloc_at _ _ _ _ rfl]
    simpa using hu
  · refine hK v' w' ⟨?_, h2⟩ h4
    exact (hown.1.trans (Ext.alloc (Ext.refl w) _)).grown h3 (fun k hk => (hown.2.lt k hk).1)

/-- .. one number. -/
theorem own_append_int (hg : o.guard = none) (s x : Operand) (hop : o.op = .call { callee := .builtin .append, args := #[s, x], argTypes := #[26, 26] })
    (v : Value) (n : Nat) (xs : List Value) (hs : a.eval s = v) (hown : Own w1 w 3 1 v n xs) (y : Int) (hx : a.eval x = .slice (some ⟨w.heap.size, 0, none⟩) 1 1) (hn : n ≤ 1000000)
    (hK : ∀ v' w', Own w1 w' 3 1 v' (n + 1) (xs ++ [vint y]) → wpList Tryz.prog ops Q rest (a.put o.dst v') w') :
    wpList Tryz.prog ops Q (o :: rest) a (w.alloc (.cells #[.int .i64 y] 3)) :=
  own_append int_elem hg s x 26 hop Tryz.underlying26 v n xs hs hown #[.int .i64 y] 1 hx rfl (by intro u hu; simp at hu; subst hu; rfl) (by omega) (by unfold maxLen; omega) fun v' w' h _ => hK v' w' h
end
end Go.Proofs.YtebkhdhhajjhfaaGreat

/- Regions that draw their order, whose operations read, call, and write the call's own memory: as XCalm, with any kind of growth in the place of 'holds all that w holds'. No program in sight. -/
namespace Go.Proofs.YtebkhdhhajjhfaaGreat
open Go.RowKit
namespace Cw

/-! ### The theory -/

/-! ### The order of the text, and a tail that is forced -/

end Cw
end Go.Proofs.YtebkhdhhajjhfaaGreat
