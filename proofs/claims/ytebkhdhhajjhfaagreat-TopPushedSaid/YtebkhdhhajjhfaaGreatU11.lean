/- All angles, by the reference: a search. -/
import Derived.Test.YtebkhdhhajjhfaaGreatU08
import Derived.Test.YtebkhdhhajjhfaaGreatU10
import Derived.Test.YtebkhdhhajjhfaaGreatU01
namespace Go.Proofs.YtebkhdhhajjhfaaGreat
open Go.RowKit

end Go.Proofs.YtebkhdhhajjhfaaGreat

/- Angle: by the code and by the reference. -/
namespace Go.Proofs.YtebkhdhhajjhfaaGreat
open Go.RowKit
end Go.Proofs.YtebkhdhhajjhfaaGreat

/- Regions that draw their order: as XCw, and what some operations make lies apart from what the others make. No program in sight. -/
namespace Go.Proofs.YtebkhdhhajjhfaaGreat
/-- The block of a slice or of a pointer. -/
def pbV : Value → Option Nat
  | .slice (some a) _ _ => some a.block
  | .pointer (some a) => some a.block
  | _ => none
open Go.RowKit
namespace Cg

/-- A kind of growth. -/
structure Pre where
  R : World → World → Prop
  refl : ∀ w, R w w
  trans : ∀ {a b c}, R a b → R b c → R a c
  drawn : ∀ {a w : World}, R a w → R a { w with drawn := w.drawn + 1 }
  size : ∀ {a b : World}, R a b → a.heap.size ≤ b.heap.size

/-! ### The theory -/

/-- What has been made new. -/
abbrev VV := Value → Prop
def VV.put (fr : Nat → Bool) (V : VV) (j : Nat) (v : Value) : VV := fun u => V u ∨ (fr j = true ∧ u = v)
def InW (V : VV) (w : World) : Prop := ∀ u, V u → ∃ g, pbV u = some g ∧ g < w.heap.size
def Far (V : VV) (v : Value) : Prop := ∀ u, V u → pbV u ≠ pbV v
def New (v : Value) (w w' : World) : Prop := ∃ g, pbV v = some g ∧ w.heap.size ≤ g ∧ g < w'.heap.size
/-- What is known: facts on worlds, and what has been made new. -/
structure Gx where
  F : Fx
  V : VV
def Gx.put (fr : Nat → Bool) (G : Gx) (j : Nat) (T : World → Prop) (v : Value) : Gx := ⟨G.F.put j T, G.V.put fr j v⟩
def Gx.Holds (G : Gx) (w : World) : Prop := (∀ k, G.F k w) ∧ InW G.V w
def Sat (p : Pre) (w0 : World) (G : Gx) : Prop := ∃ w, p.R w0 w ∧ G.Holds w

theorem VV.put_comm (fr : Nat → Bool) (V : VV) (i j : Nat) (u v : Value) : (V.put fr i u).put fr j v = (V.put fr j v).put fr i u := by
  funext x
  apply propext
  constructor
  · rintro ((h | h) | h)
    · exact .inl (.inl h)
    · exact .inr h
    · exact .inl (.inr h)
  · rintro ((h | h) | h)
    · exact .inl (.inl h)
    · exact .inr h
    · exact .inl (.inr h)
theorem InW.put {fr : Nat → Bool} {V : VV} {j : Nat} {v : Value} {w w' : World} (h : InW V w) (hs : w.heap.size ≤ w'.heap.size) (hn : fr j = true → New v w w') : InW (V.put fr j v) w' := fun u hu => by
  rcases hu with hu | ⟨hf, rfl⟩
  · obtain ⟨g, hg, hl⟩ := h u hu
    exact ⟨g, hg, Nat.lt_of_lt_of_le hl hs⟩
  · obtain ⟨g, hg, _, hl⟩ := hn hf
    exact ⟨g, hg, hl⟩
theorem Far.of_new {V : VV} {v : Value} {w w' : World} (h : InW V w) (hn : New v w w') : Far V v := fun u hu e => by
  obtain ⟨g, hg, hl⟩ := h u hu
  obtain ⟨g', hg', hl', _⟩ := hn
  rw [hg, hg'] at e
  injection e with e
  omega
theorem Far.put {fr : Nat → Bool} {V : VV} {i : Nat} {u v : Value} (h : Far V u) (hi : fr i = true → pbV v ≠ pbV u) : Far (V.put fr i v) u := fun x hx => by
  rcases hx with hx | ⟨hf, rfl⟩
  · exact h x hx
  · exact hi hf

theorem Gx.put_comm (fr : Nat → Bool) (G : Gx) (i j : Nat) (R T : World → Prop) (u v : Value) : (G.put fr i R u).put fr j T v = (G.put fr j T v).put fr i R u := by
  unfold Gx.put
  rw [Fx.put_comm, VV.put_comm]

def calmUpon (p : Pre) (P : Program) (w : World) (fj : Bool) (Sj : Array Value → Value → World → Prop) : Result Next → Prop
  | .ok (.value u) w' => p.R w w' ∧ (fj = true → New u w w')
  | .ok .skip w' => p.R w w' ∧ fj = false
  | .ok (.enter f args) w' => Calls P f args w' (fun e w'' => ∃ v, e = .returned v ∧ p.R w w'' ∧ Sj args v w'' ∧ (fj = true → New v w w''))
  | _ => False

def gives (p : Pre) (Sj : Array Value → Value → World → Prop) (v : Value) (w' : World) : Result Next → Prop
  | .ok (.value u) w2 => v = u ∧ p.R w2 w'
  | .ok .skip w2 => v = undef ∧ p.R w2 w'
  | .ok (.enter _ args) _ => Sj args v w'
  | _ => False

section
variable (p : Pre) (P : Program) (ops : Array Oper) (S : Spec) (fr : Nat → Bool) (w0 : World)

def Rel (x : Sem Next) (fj : World → Prop) (Sj : Array Value → Value → World → Prop) (v : Value) (w' : World) : Prop :=
  ∃ w1, p.R w0 w1 ∧ fj w1 ∧ gives p Sj v w' (x.run P w1)

def YC (j : Nat) (o : Oper) (a : Act) (F : Gx) : Prop :=
  Region.wanted o (yielded ops a.tmps) = true → ∀ w, p.R w0 w → facts ops F.F j w → calmUpon p P w (fr j) (S j) ((execOp a.eval o).run P w)

def Cont (j : Nat) (o : Oper) (a : Act) (F : Gx) (K : Act → Gx → Prop) : Prop :=
  (Region.wanted o (yielded ops a.tmps) = true → ∀ v, (fr j = true → Far F.V v) → Sat p w0 (F.put fr j (Rel p P w0 (execOp a.eval o) (facts ops F.F j) (S j) v) v) →
    K (a.put o.dst v) (F.put fr j (Rel p P w0 (execOp a.eval o) (facts ops F.F j) (S j) v) v)) ∧
  (Region.wanted o (yielded ops a.tmps) = false → K (a.put o.dst undef) F)

def cOp (j : Nat) (K : Act → Gx → Prop) (a : Act) (F : Gx) : Prop :=
  ∃ o, ops[j]? = some o ∧ YC p P ops S fr w0 j o a F ∧ Cont p P ops S fr w0 j o a F K

def wpCalm (Q : Act → Gx → Prop) : List Oper → Nat → Act → Gx → Prop
  | [], _, a, F => Q a F
  | o :: rest, k, a, F => YC p P ops S fr w0 k o a F ∧ Cont p P ops S fr w0 k o a F (wpCalm Q rest (k + 1))

def wpAnyC (n : Nat) (L : Array Bool → Act → Gx → Prop) : Nat → Array Bool → Act → Gx → Prop
  | 0, listed, a, F => L listed a F
  | f + 1, listed, a, F =>
    Region.ready .any ops listed ≠ [] ∧ ∀ i ∈ Region.ready .any ops listed, i < n ∧ cOp p P ops S fr w0 i (wpAnyC n L f (listed.setIfInBounds i true)) a F
end

def StableF (p : Pre) (F : Gx) : Prop := ∀ k w w', p.R w w' → F.F k w → F.F k w'
def StableS (p : Pre) (S : Spec) : Prop := ∀ j args v w w', p.R w w' → S j args v w → S j args v w'

section
variable {p : Pre} {P : Program} {ops : Array Oper} {S : Spec} {fr : Nat → Bool} {w0 : World}

theorem gives_stable {Sj : Array Value → Value → World → Prop} (hS : ∀ args v w w', p.R w w' → Sj args v w → Sj args v w') {v : Value} {w w' : World} {r : Result Next} (he : p.R w w') (h : gives p Sj v w r) : gives p Sj v w' r := by
  unfold gives at *
  split at h
  · exact ⟨h.1, p.trans h.2 he⟩
  · exact ⟨h.1, p.trans h.2 he⟩
  · exact hS _ _ _ _ he h
  · exact h.elim

theorem StableF.put {F : Gx} (h : StableF p F) {i : Nat} {T : World → Prop} {v : Value} (hT : ∀ w w', p.R w w' → T w → T w') : StableF p (F.put fr i T v) :=
  fun k w w' he hk => ⟨h k w w' he hk.1, fun e => hT _ _ he (hk.2 e)⟩

theorem rel_stable (hS : StableS p S) {x : Sem Next} {fj : World → Prop} {j : Nat} {v : Value} : ∀ w w', p.R w w' → Rel p P w0 x fj (S j) v w → Rel p P w0 x fj (S j) v w' :=
  fun _ _ he ⟨w1, h1, h2, h3⟩ => ⟨w1, h1, h2, gives_stable (hS j) he h3⟩

/-- From an actual world: the operation runs, and what comes out is related. -/
theorem wp_of_calm {o : Oper} {a : Act} {w : World} {j : Nat} {fj : World → Prop} {K' : Act → World → Prop} {Q' : Exit → Act → World → Prop}
    (he : p.R w0 w) (hf : fj w) (hu : calmUpon p P w (fr j) (S j) ((execOp a.eval o).run P w))
    (h : ∀ v w', p.R w w' → Rel p P w0 (execOp a.eval o) fj (S j) v w' → (fr j = true → New v w w') → K' (a.put o.dst v) w') : o.wp P a w K' Q' := by
  have h' : ∀ v w', p.R w w' → gives p (S j) v w' ((execOp a.eval o).run P w) → (fr j = true → New v w w') → K' (a.put o.dst v) w' := fun v w' h1 h2 => h v w' h1 ⟨w, he, hf, h2⟩
  clear h
  unfold Oper.wp
  generalize (execOp a.eval o).run P w = r at *
  cases r with
  | ok n w' =>
    cases n <;> simp only [calmUpon] at hu <;> simp only [Oper.upon]
    case value u => exact h' _ _ hu.1 ⟨rfl, p.refl _⟩ hu.2
    case skip => exact h' _ _ hu.1 ⟨rfl, p.refl _⟩ (fun e => by rw [hu.2] at e; cases e)
    case enter f args => exact hu.mono fun e w'' ⟨v, he', hx, hs, hn⟩ => by subst he'; exact h' _ _ hx hs hn
  | halt x w' => simp only [calmUpon] at hu

/-- There is a value that comes out. -/
theorem exists_of_calm {x : Sem Next} {w : World} {j : Nat} {fj : World → Prop} (he : p.R w0 w) (hf : fj w) (hu : calmUpon p P w (fr j) (S j) (x.run P w)) :
    ∃ v w', p.R w w' ∧ Rel p P w0 x fj (S j) v w' ∧ (fr j = true → New v w w') := by
  have key : ∃ v w', p.R w w' ∧ gives p (S j) v w' (x.run P w) ∧ (fr j = true → New v w w') := by
    generalize x.run P w = r at *
    cases r with
    | ok n w' =>
      cases n <;> simp only [calmUpon] at hu
      case value u => exact ⟨u, w', hu.1, ⟨rfl, p.refl _⟩, hu.2⟩
      case skip => exact ⟨undef, w', hu.1, ⟨rfl, p.refl _⟩, fun e => by rw [hu.2] at e; cases e⟩
      case enter f args =>
        obtain ⟨e, w'', _, ⟨v, _, hx, hs, hn⟩, _⟩ := hu []
        exact ⟨v, w'', hx, hs, hn⟩
    | halt x w' => simp only [calmUpon] at hu
  obtain ⟨v, w', h1, h2, h3⟩ := key
  exact ⟨v, w', h1, ⟨w, he, hf, h2⟩, h3⟩

/-- Behind the operation all that was known holds, and what it says. -/
theorem Gx.Holds.put {F : Gx} {j : Nat} {T : World → Prop} {v : Value} {w w' : World} (hst : StableF p F) (hF : F.Holds w) (hx : p.R w w') (hT : T w') (hn : fr j = true → New v w w') : (F.put fr j T v).Holds w' :=
  ⟨fun k => ⟨hst _ _ _ hx (hF.1 k), fun _ => hT⟩, hF.2.put (p.size hx) hn⟩

theorem wpOp_of_cOp {j : Nat} {a : Act} {F : Gx} {w : World} {K : Act → Gx → Prop} {K' : Act → World → Prop} {Q' : Exit → Act → World → Prop} (hS : StableS p S)
    (he : p.R w0 w) (hF : F.Holds w) (hst : StableF p F) (h : ∀ a F w', p.R w0 w' → F.Holds w' → StableF p F → K a F → K' a w') (hc : cOp p P ops S fr w0 j K a F) : wpOp P ops Q' j K' a w := by
  obtain ⟨o, ho, hy, hn⟩ := hc
  unfold wpOp
  simp only [ho]
  cases hw : Region.wanted o (yielded ops a.tmps) with
  | true =>
    simp only [if_true]
    refine .inl (wp_of_calm (S := S) (fr := fr) (j := j) (fj := facts ops F.F j) he (fun k _ => hF.1 k) (hy hw w he (fun k _ => hF.1 k)) fun v w' hx hr hnew => ?_)
    have hx0 := p.trans he hx
    have hF' : (F.put fr j (Rel p P w0 (execOp a.eval o) (facts ops F.F j) (S j) v) v).Holds w' := Gx.Holds.put hst hF hx hr hnew
    exact h _ _ _ hx0 hF' (hst.put (rel_stable hS)) (hn.1 hw v (fun e => Far.of_new hF.2 (hnew e)) ⟨w', hx0, hF'⟩)
  | false =>
    simp only [Bool.false_eq_true, if_false]
    exact h _ _ _ he hF hst (hn.2 hw)

theorem wpAny_of_headC {n g : Nat} {L : Array Bool → Act → Gx → Prop} {Q' : Exit → Act → World → Prop} (hS : StableS p S)
    (hL : ∀ listed a F w, p.R w0 w → F.Holds w → L listed a F → wpAny P .any ops Q' g listed a w) :
    ∀ (f : Nat) (listed : Array Bool) (a : Act) (F : Gx) (w : World), p.R w0 w → F.Holds w → StableF p F → wpAnyC p P ops S fr w0 n L f listed a F → wpAny P .any ops Q' (f + g) listed a w
  | 0, listed, a, F, w, he, hF, _, h => by rw [Nat.zero_add]; exact hL _ _ _ _ he hF h
  | f + 1, listed, a, F, w, he, hF, hst, h => by
    rw [show f + 1 + g = (f + g) + 1 by omega]
    exact ⟨fun h0 => absurd h0 h.1, fun i hi => wpOp_of_cOp hS he hF hst (fun a' F' w' he' hF' hst' h' => wpAny_of_headC hS hL f _ a' F' w' he' hF' hst' h') (h.2 i hi).2⟩

theorem wpAnyC_first {n i : Nat} {oi : Oper} {L : Array Bool → Act → Gx → Prop} (hS : StableS p S) (hi : ops[i]? = some oi) (hsel : ∀ (j : Nat) (o : Oper) cs b, ops[j]? = some o → o.op ≠ .select cs b)
    (htail : ∀ listed, HeadInv .any ops n listed → ∀ i, i < n → listed.getD i true = false → ∀ t, n ≤ t → t ∉ Region.ready .any ops listed) (hin : i < n)
    (hdone : ∀ listed a F, L listed a F → ∀ j ∈ Region.ready .any ops listed, n ≤ j) :
    ∀ (f : Nat) (listed : Array Bool) (a : Act) (F : Gx), HeadInv .any ops n listed →
      (∀ j oj, ops[j]? = some oj → j ≠ i → listed.getD j true = false → (∀ e ∈ oj.after, Region.binds .any e = true → e.on ≠ i) → oi.apart ops oj = true) →
      i ∈ Region.ready .any ops listed → Sat p w0 F → StableF p F → YC p P ops S fr w0 i oi a F →
      Cont p P ops S fr w0 i oi a F (wpAnyC p P ops S fr w0 n L f (listed.setIfInBounds i true)) → wpAnyC p P ops S fr w0 n L (f + 1) listed a F := by
  intro f
  induction f with
  | zero =>
    intro listed a F inv _ hr hsat hst hy H
    have hun := (mem_ready.1 hr).1
    refine ⟨fun h => (by rw [h] at hr; cases hr), fun j hj => ?_⟩
    have hjn : j < n := by
      rcases Nat.lt_or_ge j n with h | h
      · exact h
      · exact absurd hj (htail listed inv i hin hun j h)
    refine ⟨hjn, ?_⟩
    by_cases hji : j = i
    · subst hji; exact ⟨oi, hi, hy, H⟩
    · exfalso
      have hL : ∃ a' F', L (listed.setIfInBounds i true) a' F' := by
        cases hw : Region.wanted oi (yielded ops a.tmps) with
        | true =>
          obtain ⟨w, he, hF⟩ := hsat
          obtain ⟨v, w', hx, hrel, hnew⟩ := exists_of_calm (fr := fr) (fj := facts ops F.F i) he (fun k _ => hF.1 k) (hy hw w he (fun k _ => hF.1 k))
          exact ⟨_, _, H.1 hw v (fun e => Far.of_new hF.2 (hnew e)) ⟨w', p.trans he hx, Gx.Holds.put hst hF hx hrel hnew⟩⟩
        | false => exact ⟨_, _, H.2 hw⟩
      obtain ⟨a', F', hl⟩ := hL
      have := hdone _ _ _ hl j (ready_mono hj hji)
      omega
  | succ f ih =>
    intro listed a F inv hfree hr hsat hst hy H
    have hun := (mem_ready.1 hr).1
    refine ⟨fun h => (by rw [h] at hr; cases hr), fun j hj => ?_⟩
    have hjn : j < n := by
      rcases Nat.lt_or_ge j n with h | h
      · exact h
      · exact absurd hj (htail listed inv i hin hun j h)
    refine ⟨hjn, ?_⟩
    by_cases hji : j = i
    · subst hji; exact ⟨oi, hi, hy, H⟩
    · obtain ⟨hjun, oj, hoj, hall⟩ := mem_ready.1 hj
      have hnot : ∀ e ∈ oj.after, Region.binds .any e = true → e.on ≠ i := fun e he hb heq => by
        have h1 := hall e he hb
        rw [heq, getD_both hun] at h1
        cases h1
      obtain ⟨p1, p2, p3⟩ := Oper.apart_spec (hfree j oj hoj hji hjun hnot)
      have hsi := fun cs b => hsel i oi cs b hi
      have hsj := fun cs b => hsel j oj cs b hoj
      have bji : befB ops 3 j i = false := not_bef inv hj hun
      have bij : befB ops 3 i j = false := not_bef inv hr hjun
      -- what the head's continuation says of operation j behind operation i, at whatever value
      have after_i : ∀ a' F', wpAnyC p P ops S fr w0 n L (f + 1) (listed.setIfInBounds i true) a' F' → YC p P ops S fr w0 j oj a' F' ∧ Cont p P ops S fr w0 j oj a' F' (wpAnyC p P ops S fr w0 n L f ((listed.setIfInBounds i true).setIfInBounds j true)) := by
        intro a' F' h
        obtain ⟨_, o, ho, h1, h2⟩ := h.2 j (ready_mono hj hji)
        have : o = oj := Option.some.inj (ho.symm.trans hoj)
        subst this
        exact ⟨h1, h2⟩
      have wj : ∀ u, Region.wanted oj (yielded ops (a.put oi.dst u).tmps) = Region.wanted oj (yielded ops a.tmps) := fun u => wanted_put oj a oi.dst u p1
      have xj : ∀ u, execOp (a.put oi.dst u).eval oj = execOp a.eval oj := fun u => execOp_put oj hsj a oi.dst u p1
      have wi : ∀ u, Region.wanted oi (yielded ops (a.put oj.dst u).tmps) = Region.wanted oi (yielded ops a.tmps) := fun u => wanted_put oi a oj.dst u p3
      have xi : ∀ u, execOp (a.put oj.dst u).eval oi = execOp a.eval oi := fun u => execOp_put oi hsi a oj.dst u p3
      -- operation j yields now, too
      have yj : YC p P ops S fr w0 j oj a F := by
        intro hwj
        cases hw : Region.wanted oi (yielded ops a.tmps) with
        | true =>
          obtain ⟨w, he, hF⟩ := hsat
          obtain ⟨v, w', hx, hrel, hnew⟩ := exists_of_calm (fr := fr) (fj := facts ops F.F i) he (fun k _ => hF.1 k) (hy hw w he (fun k _ => hF.1 k))
          have h1 := (after_i _ _ (H.1 hw v (fun e => Far.of_new hF.2 (hnew e)) ⟨w', p.trans he hx, Gx.Holds.put hst hF hx hrel hnew⟩)).1
          unfold YC Gx.put at h1
          rw [wj, xj, facts_put bji] at h1
          exact h1 hwj
        | false =>
          have h1 := (after_i _ _ (H.2 hw)).1
          unfold YC at h1
          rw [wj, xj] at h1
          exact h1 hwj
      have hfree' : ∀ k ok, ops[k]? = some ok → k ≠ i → (listed.setIfInBounds j true).getD k true = false →
          (∀ e ∈ ok.after, Region.binds .any e = true → e.on ≠ i) → oi.apart ops ok = true := fun k ok hk hki hun' hno => by
        refine hfree k ok hk hki ?_ hno
        by_cases hjk : j = k
        · subst hjk; exact hjun
        · rw [getD_set_ne true hjk] at hun'; exact hun'
      refine ⟨oj, hoj, yj, fun hwj u hfu hsu => ?_, fun hwj => ?_⟩
      · -- operation j is taken, with u
        generalize hFj : F.put fr j (Rel p P w0 (execOp a.eval oj) (facts ops F.F j) (S j) u) u = Fj at *
        have hfi : facts ops Fj.F i = facts ops F.F i := by rw [← hFj]; exact facts_put bij
        have hstj : StableF p Fj := by rw [← hFj]; exact hst.put (rel_stable hS)
        refine ih (listed.setIfInBounds j true) (a.put oj.dst u) Fj (inv.set hj hjn) hfree' (ready_mono hr (Ne.symm hji)) hsu hstj ?_ ⟨fun hwi v hfv hsv => ?_, fun hwi => ?_⟩
        · unfold YC
          rw [wi, xi, hfi]
          exact hy
        · rw [wi] at hwi
          rw [xi, hfi] at hsv ⊢
          obtain ⟨w, he, hw⟩ := hsv
          have hfv1 : fr i = true → Far F.V v := fun e x hx => hfv e x (by rw [← hFj]; exact .inl hx)
          have hwF : ∀ k, F.F k w := fun k => by have := (hw.1 k).1; rw [← hFj] at this; exact this.1
          have hwj' : Rel p P w0 (execOp a.eval oj) (facts ops F.F j) (S j) u w := by have := (hw.1 j).1; rw [← hFj] at this; exact this.2 rfl
          have hwi' : Rel p P w0 (execOp a.eval oi) (facts ops F.F i) (S i) v w := (hw.1 i).2 rfl
          have hin : InW ((F.V.put fr j u).put fr i v) w := by have := hw.2; rw [← hFj] at this; exact this
          have hsi : Sat p w0 (F.put fr i (Rel p P w0 (execOp a.eval oi) (facts ops F.F i) (S i) v) v) := by
            refine ⟨w, he, fun k => ⟨hwF k, fun _ => hwi'⟩, fun x hx => hin x ?_⟩
            rcases hx with hx | hx
            · exact .inl (.inl hx)
            · exact .inr hx
          have h2 := (after_i _ _ (H.1 hwi v hfv1 hsi)).2.1
          have hff : facts ops (F.put fr i (Rel p P w0 (execOp a.eval oi) (facts ops F.F i) (S i) v) v).F j = facts ops F.F j := facts_put bji
          rw [wj, xj, hff] at h2
          have hcomm : ((F.put fr i (Rel p P w0 (execOp a.eval oi) (facts ops F.F i) (S i) v) v).put fr j (Rel p P w0 (execOp a.eval oj) (facts ops F.F j) (S j) u) u) = Fj.put fr i (Rel p P w0 (execOp a.eval oi) (facts ops F.F i) (S i) v) v := by
            rw [Gx.put_comm, hFj]
          have h3 := h2 hwj u (fun e => Far.put (hfu e) (fun ei hev => hfv ei u (by rw [← hFj]; exact .inr ⟨e, rfl⟩) hev.symm)) (by rw [hcomm]; exact ⟨w, he, hw⟩)
          rw [hcomm] at h3
          rw [Array.setIfInBounds_comm _ _ hji, Act.put_comm a u v (fun d hd hd' => p2 d hd' hd)]
          exact h3
        · rw [wi] at hwi
          have h2 := (after_i _ _ (H.2 hwi)).2.1
          rw [wj, xj] at h2
          have h3 := h2 hwj u hfu (by rw [hFj]; exact hsu)
          rw [hFj] at h3
          rw [Array.setIfInBounds_comm _ _ hji, Act.put_comm a u undef (fun d hd hd' => p2 d hd' hd)]
          exact h3
      · refine ih (listed.setIfInBounds j true) (a.put oj.dst undef) F (inv.set hj hjn) hfree' (ready_mono hr (Ne.symm hji)) hsat hst ?_ ⟨fun hwi v hfv hsv => ?_, fun hwi => ?_⟩
        · unfold YC
          rw [wi, xi]
          exact hy
        · rw [wi] at hwi
          rw [xi] at hsv ⊢
          have h2 := (after_i _ _ (H.1 hwi v hfv hsv)).2.2
          rw [wj] at h2
          have h3 := h2 hwj
          rw [Array.setIfInBounds_comm _ _ hji, Act.put_comm a undef v (fun d hd hd' => p2 d hd' hd)]
          exact h3
        · rw [wi] at hwi
          have h2 := (after_i _ _ (H.2 hwi)).2.2
          rw [wj] at h2
          have h3 := h2 hwj
          rw [Array.setIfInBounds_comm _ _ hji, Act.put_comm a undef undef (fun d hd hd' => p2 d hd' hd)]
          exact h3
end

/-! ### The order of the text, and a tail that is forced -/

section
variable {p : Pre} {P : Program} {ops : Array Oper} {S : Spec} {fr : Nat → Bool} {w0 : World}

theorem Cont.sat {K K' : Act → Gx → Prop} {j : Nat} {o : Oper} {a : Act} {F : Gx} (hS : StableS p S) (hst : StableF p F) (h : ∀ a F, Sat p w0 F → StableF p F → K a F → K' a F) (hs : Sat p w0 F) (hc : Cont p P ops S fr w0 j o a F K) : Cont p P ops S fr w0 j o a F K' :=
  ⟨fun hw v hf hv => h _ _ hv (hst.put (rel_stable hS)) (hc.1 hw v hf hv), fun hw => h _ _ hs hst (hc.2 hw)⟩

theorem wpAnyC_lex {n g : Nat} {Lq : Act → Gx → Prop} (hS : StableS p S) (hsel : Region.noSelect ops = true)
    (htail : ∀ listed, HeadInv .any ops n listed → ∀ i, i < n → listed.getD i true = false → ∀ t, n ≤ t → t ∉ Region.ready .any ops listed) :
    ∀ (l : List Oper) (k : Nat) (listed : Array Bool) (a : Act) (F : Gx), (∀ j, j < l.length → l[j]? = ops[k + j]?) → k + l.length = n → HeadInv .any ops n listed →
    Region.lexHead .any ops g l.length k listed = true → Sat p w0 F → StableF p F → wpCalm p P ops S fr w0 Lq l k a F →
    wpAnyC p P ops S fr w0 n (fun listed' a' F' => Region.seqB .any ops g n listed' = true ∧ Lq a' F') l.length listed a F
  | [], k, listed, a, F, _, hk, _, hB, _, _, h => by
    have : k = n := by simpa using hk
    subst this
    exact ⟨by simpa [Region.lexHead] using hB, h⟩
  | o :: l, k, listed, a, F, hl, hk, inv, hB, hs, hst, h => by
    have h0 : ops[k]? = some o := by simpa using (hl 0 (by simp)).symm
    simp only [List.length_cons, Region.lexHead, Bool.and_eq_true] at hB
    obtain ⟨⟨hr, hf⟩, hB'⟩ := hB
    have hkn : k < n := by simp only [List.length_cons] at hk; omega
    have hr' : k ∈ Region.ready .any ops listed := by simpa using hr
    refine wpAnyC_first hS h0 (Region.noSelect_spec hsel) htail hkn (fun listed' a' F' hL => seqB_ready hL.1) l.length listed a F inv (Region.free_spec h0 hf) hr' hs hst h.1 ?_
    exact Cont.sat hS hst (fun a' F' hs' hst' hK => wpAnyC_lex hS hsel htail l (k + 1) _ a' F' (fun j hj => by have := hl (j + 1) (by simp; omega); simpa [Nat.add_assoc, Nat.add_comm 1 j] using this)
      (by simp only [List.length_cons] at hk; omega) (inv.set hr' hkn) hB' hs' hst' hK) hs h.2

theorem wp_region_calm {id : Nat} {Q : Exit → Act → World → Prop} {a : Act} {w : World} {l : List Oper} (n : Nat) (S : Spec) (hS : StableS p S) (hm : P.follows .mixedOrders = true) (hB : calmB l.toArray n = true)
    (h : wpCalm p P l.toArray S fr w (fun a' F => ∀ w', p.R w w' → F.Holds w' → wpList P l.toArray Q (l.drop n) a' w') (l.take n) 0 a ⟨fun _ _ => True, fun _ => False⟩) : (Code.region id l.toArray true).wp P Q a w := by
  simp only [calmB, Bool.and_eq_true, Bool.or_eq_true, decide_eq_true_eq] at hB
  obtain ⟨⟨hsel, hn⟩, hlex⟩ := hB
  have hn' : n ≤ l.length := by
    rcases hn with h1 | h1
    · rw [h1]; simp
    · have := h1.1.1; simp at this; omega
  have htl : (l.take n).length = n := by simp; omega
  have hdl : (l.drop n).length = l.toArray.size - n := by simp
  have htail := calm_tail (ops := l.toArray) (n := n) (by rcases hn with h1 | h1; exact .inl h1; exact .inr ⟨h1.1.1, h1.1.2, h1.2⟩)
  have inv0 : HeadInv .any l.toArray n (Array.replicate l.toArray.size false) :=
    ⟨by simp, fun j oj _ hl => (by rw [getD_replicate_false] at hl; cases hl), fun t _ ht => getD_in (by simpa using ht) (getD_replicate_false _ _)⟩
  have H := wpAnyC_lex (g := l.toArray.size - n) hS hsel htail (l.take n) 0 _ a ⟨fun _ _ => True, fun _ => False⟩ (fun j hj => by
    have hj' : j < n := by rw [htl] at hj; exact hj
    simp [hj']) (by simpa using htl) inv0 (by rw [htl]; exact hlex) ⟨w, p.refl _, fun _ => trivial, fun _ hx => hx.elim⟩ (show StableF p ⟨fun _ _ => True, fun _ => False⟩ from fun _ _ _ _ h => h) h
  refine wp_region_any hm ?_
  have := wpAny_of_headC (P := P) (ops := l.toArray) (S := S) (fr := fr) (w0 := w) (n := n) (Q' := Q) (g := l.toArray.size - n) hS (fun listed a' F w1 he hF hL => by
    have := wpAny_of_seq (md := .any) (Q' := Q) (l.drop n) n listed a' w1 (fun j => by simp [List.getElem?_drop]) (by rw [hdl]; exact hL.1) (hL.2 w1 he hF)
    rwa [hdl] at this) (l.take n).length (Array.replicate l.toArray.size false) a ⟨fun _ _ => True, fun _ => False⟩ { w with drawn := w.drawn + 1 } (p.drawn (p.refl w)) ⟨fun _ => trivial, fun _ hx => hx.elim⟩ (show StableF p ⟨fun _ _ => True, fun _ => False⟩ from fun _ _ _ _ h => h) H
  rw [htl, show n + (l.toArray.size - n) = l.toArray.size by omega] at this
  exact this

/-! ### Steps -/

/-- More is known. -/
structure Le (F F' : Gx) : Prop where
  ff : ∀ k w, F'.F k w → F.F k w
  vv : ∀ u, F.V u → F'.V u
def MonoQ (Q : Act → Gx → Prop) : Prop := ∀ a F F', Le F F' → Q a F → Q a F'
theorem Le.holds {F F' : Gx} (h : Le F F') {w : World} (hw : F'.Holds w) : F.Holds w := ⟨fun k => h.ff _ _ (hw.1 k), fun u hu => hw.2 u (h.vv u hu)⟩
theorem Le.far {F F' : Gx} (h : Le F F') {v : Value} (hv : Far F'.V v) : Far F.V v := fun u hu => hv u (h.vv u hu)
theorem Le.put_self (F : Gx) (k : Nat) (T : World → Prop) (v : Value) : Le F (F.put fr k T v) := ⟨fun _ _ h => h.1, fun _ h => .inl h⟩

theorem wpCalm_mono {Q : Act → Gx → Prop} (hQ : MonoQ Q) : ∀ (l : List Oper) (k : Nat) (a : Act) (F F' : Gx), Le F F' → wpCalm p P ops S fr w0 Q l k a F → wpCalm p P ops S fr w0 Q l k a F'
  | [], _, a, F, F', h, hh => hQ a F F' h hh
  | o :: l, k, a, F, F', h, ⟨hy, hn⟩ => by
    have hf : ∀ w, facts ops F'.F k w → facts ops F.F k w := fun w hf i hi => h.ff _ _ (hf i hi)
    have hr : ∀ v w, Rel p P w0 (execOp a.eval o) (facts ops F'.F k) (S k) v w → Rel p P w0 (execOp a.eval o) (facts ops F.F k) (S k) v w := fun v w ⟨w1, h1, h2, h3⟩ => ⟨w1, h1, hf _ h2, h3⟩
    have hp : ∀ v, Le (F.put fr k (Rel p P w0 (execOp a.eval o) (facts ops F.F k) (S k) v) v) (F'.put fr k (Rel p P w0 (execOp a.eval o) (facts ops F'.F k) (S k) v) v) :=
      fun v => ⟨fun i w hh => ⟨h.ff _ _ hh.1, fun e => hr _ _ (hh.2 e)⟩, fun u hu => hu.elim (fun x => .inl (h.vv u x)) .inr⟩
    exact ⟨fun hw w he hf' => hy hw w he (hf w hf'), fun hw v hfar ⟨w, he, hs⟩ => wpCalm_mono hQ l (k + 1) _ _ _ (hp v) (hn.1 hw v (fun e => h.far (hfar e)) ⟨w, he, (hp v).holds hs⟩), fun hw => wpCalm_mono hQ l (k + 1) _ _ _ h (hn.2 hw)⟩

theorem calm_mono_final {Q : Act → World → Prop} : MonoQ (fun a F => ∀ w', p.R w0 w' → F.Holds w' → Q a w') := fun _ _ _ h hq w' he hF => hq w' he (h.holds hF)

def quietAll (fr : Nat → Bool) : List Oper → Nat → Bool
  | [], _ => true
  | o :: l, k => quietKind o && !fr k && quietAll fr l (k + 1)

/-- Operations that leave the world alone: by the quiet walk, in the class of all worlds that hold what b holds. -/
theorem calm_chunk {Q : Act → Gx → Prop} (hQ : MonoQ Q) (b : World) (hb : ∀ w, p.R w0 w → Ext b w) : ∀ (l l2 : List Oper) (k : Nat) (a : Act) (F : Gx), quietAll fr l k = true →
    wpQuiet P ops (fun w => ∃ x : Later b, w = x.w) (fun a' => wpCalm p P ops S fr w0 Q l2 (k + l.length) a' F) l a → wpCalm p P ops S fr w0 Q (l ++ l2) k a F := by
  intro l
  induction l with
  | nil => intro l2 k a F _ h; exact h
  | cons o l ih =>
    intro l2 k a F hk h
    simp only [quietAll, Bool.and_eq_true, Bool.not_eq_true'] at hk
    obtain ⟨⟨hk1, hk2⟩, hk3⟩ := hk
    unfold wpQuiet at h
    have hlen : k + (o :: l).length = (k + 1) + l.length := by simp only [List.length_cons]; omega
    rw [hlen] at h
    cases hw : Region.wanted o (yielded ops a.tmps) with
    | true =>
      rw [hw, if_pos rfl] at h
      obtain ⟨v, h1, h2⟩ := h
      refine ⟨fun _ w he _ => ?_, fun _ u _ hu => ?_, fun hf => by rw [hw] at hf; cases hf⟩
      · have h3 := h1 w ⟨⟨w, hb w he⟩, rfl⟩
        have hne := noEnter_of_quietKind (P := P) hk1 a.eval w
        unfold Oper.quietAt at h3
        generalize (execOp a.eval o).run P w = r at *
        cases r with
        | ok n w' =>
          cases n <;> simp only [Oper.quietUpon] at h3 <;> simp only [calmUpon]
          case value x => obtain ⟨e, _⟩ := h3; rw [e]; exact ⟨p.refl _, fun e => by rw [hk2] at e; cases e⟩
          case skip => obtain ⟨e, _⟩ := h3; rw [e]; exact ⟨p.refl _, hk2⟩
          case enter f args => exact hne.elim
        | halt x w' => simp only [Oper.quietUpon] at h3
      · obtain ⟨w, he, hs⟩ := hu
        obtain ⟨w1, he1, _, hg⟩ := (hs.1 k).2 rfl
        have h3 := h1 w1 ⟨⟨w1, hb w1 he1⟩, rfl⟩
        have hne := noEnter_of_quietKind (P := P) hk1 a.eval w1
        have huv : u = v := by
          unfold Oper.quietAt at h3
          generalize (execOp a.eval o).run P w1 = r at *
          cases r with
          | ok n w' =>
            cases n <;> simp only [Oper.quietUpon] at h3 <;> simp only [gives] at hg
            case value x => rw [hg.1, h3.2]
            case skip => rw [hg.1, h3.2]
            case enter f args => exact hne.elim
          | halt x w' => simp only [Oper.quietUpon] at h3
        subst huv
        exact wpCalm_mono hQ _ _ _ F _ (Le.put_self F k _ _) (ih l2 (k + 1) _ F hk3 h2)
    | false =>
      rw [hw] at h
      exact ⟨fun hf => (by rw [hw] at hf; cases hf), fun hf => (by rw [hw] at hf; cases hf), fun _ => ih l2 (k + 1) _ F hk3 h⟩

theorem calm_nil {Q : Act → Gx → Prop} {k : Nat} {a : Act} {F : Gx} (h : Q a F) : wpCalm p P ops S fr w0 Q [] k a F := h

/-- A call of a Go function: its result is any value that S lets by. -/
theorem calm_call {Q : Act → Gx → Prop} {o : Oper} {l : List Oper} {k : Nat} {a : Act} {F : Gx} (hQ : MonoQ Q) (f : FuncId) (args : Array Value) (hw : Region.wanted o (yielded ops a.tmps) = true)
    (hrun : ∀ w, (execOp a.eval o).run P w = .ok (.enter f args) w)
    (hcall : ∀ w, p.R w0 w → facts ops F.F k w → Calls P f args w (fun e w'' => ∃ v, e = .returned v ∧ p.R w w'' ∧ S k args v w'' ∧ (fr k = true → New v w w'')))
    (hn : ∀ v w', p.R w0 w' → S k args v w' → (fr k = true → Far F.V v) → wpCalm p P ops S fr w0 Q l (k + 1) (a.put o.dst v) (F.put fr k (S k args v) v)) : wpCalm p P ops S fr w0 Q (o :: l) k a F := by
  refine ⟨fun _ w he hf => ?_, fun _ v hfar hv => ?_, fun hf => by rw [hw] at hf; cases hf⟩
  · rw [hrun]; exact hcall w he hf
  · have hS : ∀ w', Rel p P w0 (execOp a.eval o) (facts ops F.F k) (S k) v w' → S k args v w' := fun w' ⟨w1, _, _, h⟩ => by rw [hrun] at h; exact h
    obtain ⟨w', he, hs⟩ := hv
    exact wpCalm_mono hQ _ _ _ (F.put fr k (S k args v) v) _ ⟨fun i w h => ⟨h.1, fun e => hS _ (h.2 e)⟩, fun u h => h⟩ (hn v w' he (hS _ ((hs.1 k).2 rfl)) hfar)

/-- An operation that makes a value, and may make memory: T is what is said of it. -/
theorem calm_value {Q : Act → Gx → Prop} {o : Oper} {l : List Oper} {k : Nat} {a : Act} {F : Gx} (hQ : MonoQ Q) (T : Value → World → Prop) (hT : ∀ v w w', p.R w w' → T v w → T v w') (hw : Region.wanted o (yielded ops a.tmps) = true)
    (hrun : ∀ w, p.R w0 w → facts ops F.F k w → ∃ v w', (execOp a.eval o).run P w = .ok (.value v) w' ∧ p.R w w' ∧ T v w' ∧ (fr k = true → New v w w'))
    (hn : ∀ v w', p.R w0 w' → T v w' → (fr k = true → Far F.V v) → wpCalm p P ops S fr w0 Q l (k + 1) (a.put o.dst v) (F.put fr k (T v) v)) : wpCalm p P ops S fr w0 Q (o :: l) k a F := by
  refine ⟨fun _ w he hf => ?_, fun _ v hfar hv => ?_, fun hf => by rw [hw] at hf; cases hf⟩
  · obtain ⟨u, w', hr, hR, _, hnew⟩ := hrun w he hf
    rw [hr]
    exact ⟨hR, hnew⟩
  · have hS : ∀ w', Rel p P w0 (execOp a.eval o) (facts ops F.F k) (S k) v w' → T v w' := fun w' ⟨w1, h1, h2, h⟩ => by
      obtain ⟨u, w2, hr, _, ht, _⟩ := hrun w1 h1 h2
      rw [hr] at h
      obtain ⟨rfl, hx⟩ := h
      exact hT _ _ _ hx ht
    obtain ⟨w', he, hs⟩ := hv
    exact wpCalm_mono hQ _ _ _ (F.put fr k (T v) v) _ ⟨fun i w h => ⟨h.1, fun e => hS _ (h.2 e)⟩, fun u h => h⟩ (hn v w' he (hS _ ((hs.1 k).2 rfl)) hfar)

/-- The chunk, with its number of operations. -/
theorem calm_quiet {Q : Act → Gx → Prop} (hQ : MonoQ Q) (b : World) (hb : ∀ w, p.R w0 w → Ext b w) (m : Nat) {l : List Oper} {k : Nat} {a : Act} {F : Gx} (hk : quietAll fr (l.take m) k = true)
    (h : wpQuiet P ops (fun w => ∃ x : Later b, w = x.w) (fun a' => wpCalm p P ops S fr w0 Q (l.drop m) (k + (l.take m).length) a' F) (l.take m) a) : wpCalm p P ops S fr w0 Q l k a F := by
  rw [← List.take_append_drop m l]
  exact calm_chunk hQ b hb _ _ _ _ _ hk h
end

/-- The growth of worlds that hold all that was there. -/
def extPre : Pre := ⟨Ext, Ext.refl, Ext.trans, fun h => h.drawn _, fun h => h.le⟩
end Cg
end Go.Proofs.YtebkhdhhajjhfaaGreat

/- A pose in lowest terms, and the next one. -/
namespace Go.Proofs.YtebkhdhhajjhfaaGreat
open Go.RowKit
end Go.Proofs.YtebkhdhhajjhfaaGreat
